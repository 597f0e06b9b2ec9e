/- A part of the proof; shortened by program. -/
import Derived.Shelf.Strings.FuncGrows
import Derived.Laws.Runes
import Derived.Deep.QuietTactic
import Derived.BigQuiet
import Derived.Test.YtolkkkghemedjaaGreatDoorP07
set_option maxRecDepth 100000
set_option maxHeartbeats 4000000
set_option linter.unusedSimpArgs false
set_option linter.unusedVariables false
namespace Go.AM
open Go Go.Proofs
def Kn.fr (k : Kn) (s : Str) : Kn := { k with frames := k.frames.put s true }
def Ia (k : Kn) (nh : Nat) : List Hp -> Nat -> SM Bool -> SM Str -> Int × SM Str
 | [],_,_,ty => (0,ty)
 | h :: r,i,lab,ty => if (!decide (Tn k lab ty h (decide (Int.ofNat nh <= Int.ofNat i)) = 0)) = true then (Tn k lab ty h (decide (Int.ofNat nh <= Int.ofNat i)),ty)
  else Ia k nh r (i + 1) (lab.put h.label true) (if h.floating = true then ty.put (h.text.tail.headD []) (h.text.headD []) else ty)
def prfB (pw : Str -> Bool) (f : Fr) : Bool := decide ((0 : Int) < Int.ofNat f.proof.length) && ((!f.thm || decide ((8000 : Int) < Int.ofNat f.proof.length)) || f.proof.any (fun s => !pw s))
def Fr.all (f : Fr) : List Hp := [f.hyps,f.dummies].flatten
def Kn.hyps' (k : Kn) (l : List Hp) : Kn := { k with hyps := l.foldl (fun m h => m.put h.label h) k.hyps }
def Ajd (f : Fr) : List Hp := D9 (fun h => h.floating) f.hyps
def Ak7 (f : Fr) (before : List Hp) : List Hp := (Ajd f).drop (Hc before (Ajd f))
def knF (k : Kn) (f : Fr) : Kn := { (k.fr f.label).hyps' f.all with types := SM.over (Ia (k.fr f.label) f.hyps.length f.all 0 [] []).2 k.types }
def Em (pw : Str -> Bool) (k : Kn) (f : Fr) (before : List Hp) : Int :=
 if (!K6 [2] f.label) = true then 2
 else if (((k.hyps.get f.label).isSome || k.isSym f.label) || k.frames.has f.label) = true then 6
 else if (decide ((40 : Int) < Int.ofNat f.hyps.length) || decide ((40 : Int) < Int.ofNat f.dummies.length)) = true then 4
 else if (!decide ((Ia (k.fr f.label) f.hyps.length f.all 0 [] []).1 = 0)) = true then (Ia (k.fr f.label) f.hyps.length f.all 0 [] []).1
 else if (!decide ((k.fr f.label).textF f.text = 0)) = true then (k.fr f.label).textF f.text
 else if (!decide (Jg (k.fr f.label) f = 0)) = true then Jg (k.fr f.label) f
 else if prfB pw f = true then 2
 else if ((Ak7 f before).any fun h => ((k.fr f.label).hyps.get h.label).isSome) = true then 7 else 0
structure FrB (f : Fr) : Prop where
 h : f.hyps.length < 1000000
 a : f.all.length < 1000000
 t : f.text.length < 1000000
 x : ∀ h ∈ f.all,h.text.length < 1000000
 w : f.wide.length < 1000000
 p : f.proof.length < 1000000
def Ak8 (m : Nat) (U U' : Sto) : Prop := nx U <= nx U' /\ ∀ b,b < nx U -> (b < m ∨ m + 5 <= b) -> U'.get b = U.get b
theorem nx1 {U : Sto} {n : Nat} {o : AO} (h : nx U = n) : nx (U.new o) = n + 1 := by rw [Af,h]
theorem Bp {J : Ae} {U : Sto} {Rr : Rec} {t n kt sz : Nat} {agg : Bool} {z : AV} (hi : mpI Ew.P t = some (kt,z,sz,agg)) (hn : nx U = n) : A0 Ew Rr (.makeMap t none) J U (.mp n) (U.new (.map kt [] 0)) := by subst hn; exact M0 hi
theorem Gk.fr {U U' : Sto} {m : Nat} {k : Kn} {s : Str} {ver : Nat} (hk : Gk U m k) (hw : WFS U) (hf : U'.get (m + 2) = some (.map 9 (B6 bV (k.frames.put s true)) ver)) (hg : ∀ b,b < nx U -> b ≠ m + 2 -> U'.get b = U.get b) : Gk U' m (k.fr s) :=
 ⟨hk.c.of_get (hg _ (hk.c.lt hw) Om),hk.v.of_get (hg _ (hk.v.lt hw) Om),⟨ver,hf⟩,hk.h.of_get (hg _ (hk.h.lt hw) Om),hk.t.of_get (hg _ (hk.t.lt hw) Om)⟩
theorem Gk.hi {U : Sto} {m a : Nat} {k : Kn} {O : AO} (hk : Gk U m k) (h : m + 5 <= a) : Gk (U.set a O) m k := ⟨hk.c.set Om,hk.v.set Om,hk.f.set Om,hk.h.set Om,hk.t.set Om⟩
theorem Gk.hp {U : Sto} {m ver : Nat} {k : Kn} {h : Hp} (hk : Gk U m k) : Gk (U.set (m + 3) (.map 9 (B6 hV (k.hyps.put h.label h)) ver)) m { k with hyps := k.hyps.put h.label h } :=
 ⟨hk.c.set Om,hk.v.set Om,hk.f.set Om,ds_,hk.t.set Om⟩
theorem Gk.ty {U : Sto} {m ver : Nat} {k : Kn} {ty : SM Str} (hk : Gk U m k) : Gk (U.set (m + 4) (.map 9 (B6 sV ty) ver)) m { k with types := ty } :=
 ⟨hk.c.set Om,hk.v.set Om,hk.f.set Om,hk.h.set Om,ds_⟩
structure Amw (U U0 : Sto) (m : Nat) (k : Kn) (lab : SM Bool) (ty : SM Str) : Prop where
 n : nx U0 = nx U + 2
 g : ∀ b,b < nx U -> b ≠ m + 2 -> U0.get b = U.get b
 k : Gk U0 m k
 l : E2 U0 (nx U) lab
 t : Bf sV U0 (nx U + 1) ty
 s : SM.Srt ty
theorem Amw.up {U U0 : Sto} {m : Nat} {k : Kn} {lab : SM Bool} {ty : SM Str} (h : Amw U U0 m k lab ty) : Ak8 m U U0 := ⟨by rw [h.n]; omega,fun b hb hm => h.g b hb Om⟩
theorem Agx {k : Kn} {lab : SM Bool} {ty : SM Str} {h : Hp} {du : Bool} (h0 : Tn k lab ty h du = 0) (hf : h.floating = true) : ∃ a b,h.text = [a,b] := by
 have h2 : h.text.length = 2 := by
  unfold Tn at h0
  split at h0
  ·cases h0
  ·rename_i hb
   simp [Asd,hf] at hb
   omega
 match h.text,h2 with
 | [a,b],_ => exact ⟨a,b,rfl⟩
theorem Aje (k : Kn) (l : List Hp) (h : Hp) : k.hyps' (l ++ [h]) = { k.hyps' l with hyps := (k.hyps' l).hyps.put h.label h } := by
 unfold Kn.hyps'; rw [gi_]; rfl
theorem FrB.ess {f : Fr} (h : FrB f) : ∀ t ∈ f.text :: Hl f.hyps,t.length < 1000000 := fun t ht => by
 rcases aq_.1 ht with rfl | ht
 ·exact h.t
 ·obtain ⟨x,hx,rfl⟩ := cr_.1 ht
  exact h.x x (List.mem_flatten.2 ⟨f.hyps,by simp,(eg_.1 hx).1⟩)
theorem Ao1 {e : Int} (h : (!decide (e = 0)) = false) : e = 0 := by simpa using h
theorem Arc {J : Ae} {U : Sto} {Rr : Rec} {x : Operand} {lo hi mx : Option Operand} {own : List Hp} {n : Nat} (hx : Ak Ew J x = some (slV eH 3 own)) (h1 : Gp Ew J lo = some (some (iV (.ofNat n)))) (h2 : Gp Ew J hi = some (some (iV (.ofNat own.length)))) (h3 : Gp Ew J mx = some (some (iV (.ofNat own.length)))) (hn : n <= own.length) :
  A0 Ew Rr (.slice 75 x lo hi mx) J U (.sv ((own.drop n).flatMap eH) 3 (own.drop n).length (some (own.length - n))) U := by
 have hb : Ci own.length none (some (iV (.ofNat n))) (some (iV (.ofNat own.length))) (some (iV (.ofNat own.length))) = some (n,own.length,some (own.length - n)) := by
  have h2 : Nat.ble n own.length = true := ap_ hn;have h3 : Nat.ble own.length own.length = true := ap_ nl;simp only [Ci,iV,Ik,h2,Lf,h3,cond_true,cl_]
 have := Air (Rr := Rr) (U := U) (lo := lo) (hi := hi) (mx := mx) (elC (t := 75)) O3 hx h1 h2 h3 hb hn nl;rw [ep_] at this
 rwa [cu_]
theorem f182 (pw : Str -> Bool) (hpw : ∀ s U,Cv 214 [sV s] U (.bool (!pw s))) (m : Nat) (k : Kn) (f : Fr) (before : List Hp) (U : Sto) (hk : Gk U m k) (hsr : SM.Srt k.types) (hB : FrB f) (hbe : before.length < 1000000) : Ao Ew 182 [knV m,.agg (eF f),slV eH 3 before] U fun v U' => v = iV (Em pw k f before) /\ Ak8 m U U' /\ (Em pw k f before = 0 -> Gk U' m (knF k f) /\ SM.Srt (knF k f).types) := by
 refine An Tryz.func182 rfl rfl fun hw hu0 => ?_
 obtain ⟨vf,hvf⟩ := id hk.f;have hm5 : m + 4 < nx U := hk.t.lt hw;have hba := hB.a;refine G11 ?_;refine Ag rfl rfl rfl rfl (f209 f.label _) ?_;refine G2 ?_;refine Ab rfl ?_ ?_ <;> intro h1
 ·refine G4 ?_;have hE : Em pw k f before = 2 := (if_pos h1);refine C3 fun hw9 => ?_
  refine G ?_
  exact ⟨_,rfl,_,_,ag_ hw9 nl (fun _ _ => rfl),nl,.same rfl,congrArg iV hE.symm,⟨nl,fun _ _ _ => rfl⟩,fun hh => absurd (hE.symm.trans hh) (by decide)⟩
 ·refine G2 ?_;refine M6 7 zH (hcs (k.hyps.get f.label)) [(8,.bool (k.hyps.get f.label).isSome)] (Tl _) rfl (fun hw => ?_) ?_
  ·refine XX 1 (l := []) trivial ?_;refine G6 ?_;refine DF (Tm rfl hk.h rfl) ?_;refine G3 ?_;refine DT (Ct ziC) (DT (Aw (vs := zH) (vs' := hcs (k.hyps.get f.label)) ldC rfl rfl (A1 (I7 _)) Cf (Fj (I7 _))) (DF (Fi rfl) (Dq ?_)))
   exact ⟨(by intro e he; simp at he; rcases he with rfl | rfl <;> first | exact .refl | exact Te hw),⟨rfl,trivial⟩,sb,rfl,rfl⟩
  refine Gg [(48,.bool (((k.hyps.get f.label).isSome || k.isSym f.label) || k.frames.has f.label))] ?_ ?_
  ·rcases au_ ((k.hyps.get f.label).isSome) with hg1 | hg1
   ·refine XS (l := [(208,[knV m,sV f.label],U,.bool (k.isSym f.label),U)]) ⟨Agr m k f.label U hk,trivial⟩ ?_
    refine DF (Al rfl) (DF (Al rfl) (Wx (w := by simp [hg1]) ?_))
    refine Wx (w := by simp [hg1]) ?_
    refine Wx (w := by simp [hg1]) ?_
    refine Ln rfl rfl rfl rfl (by simp [hg1]) rfl rfl ?_
    refine DF (B8 rfl (by simp [hg1]) rfl) ?_
    refine DF (Al rfl) (Wx (w := by simp [hg1]) ?_)
    refine Wx (w := by simp [hg1]) ?_
    refine Wx (w := by simp [hg1]) ?_
    refine Wx (w := by simp [hg1]) ?_
    refine Wx (w := by simp [hg1]) ?_
    refine Wx (w := by simp [hg1]) ?_
    refine Wx (w := by simp [hg1]) ?_
    refine DF (B8 rfl (by simp [hg1]) rfl) ?_
    refine Dq ?_
    exact ⟨⟨congrArg (fun b => some (AV.bool b)) (by simp [hg1]),trivial⟩,sb,rfl⟩
   ·rcases au_ (k.isSym f.label) with hg7 | hg7
    ·refine XS (l := [(208,[knV m,sV f.label],U,.bool (k.isSym f.label),U)]) ⟨Agr m k f.label U hk,trivial⟩ ?_
     refine DF (Al rfl) (DF (Al rfl) (Wn (w := by simp [hg7,hg1]) (Ad ldC rfl rfl rfl) ?_))
     refine Wn (w := by simp [hg7,hg1]) (Aj fdC rfl rfl) ?_
     refine Wn (w := by simp [hg7,hg1]) (Ad ldC rfl rfl rfl) ?_
     refine M7 rfl rfl rfl rfl (by simp [hg7,hg1]) rfl rfl (Bg rfl rfl Bo) ?_
     refine DF (A7 rfl (by simp [hg7,hg1]) rfl) ?_
     refine DF (Al rfl) (Wx (w := by simp [hg7,hg1]) ?_)
     refine Wx (w := by simp [hg7,hg1]) ?_
     refine Wx (w := by simp [hg7,hg1]) ?_
     refine Wx (w := by simp [hg7,hg1]) ?_
     refine Wx (w := by simp [hg7,hg1]) ?_
     refine Wx (w := by simp [hg7,hg1]) ?_
     refine Wx (w := by simp [hg7,hg1]) ?_
     refine DF (B8 rfl (by simp [hg7,hg1]) rfl) ?_
     refine Dq ?_
     exact ⟨⟨congrArg (fun b => some (AV.bool b)) (by simp [hg7,hg1]),trivial⟩,sb,rfl⟩
    ·refine XS (l := [(208,[knV m,sV f.label],U,.bool (k.isSym f.label),U)]) ⟨Agr m k f.label U hk,trivial⟩ ?_
     refine DF (Al rfl) (DF (Al rfl) (Wn (w := by simp [hg7,hg1]) (Ad ldC rfl rfl rfl) ?_))
     refine Wn (w := by simp [hg7,hg1]) (Aj fdC rfl rfl) ?_
     refine Wn (w := by simp [hg7,hg1]) (Ad ldC rfl rfl rfl) ?_
     refine M7 rfl rfl rfl rfl (by simp [hg7,hg1]) rfl rfl (Bg rfl rfl Bo) ?_
     refine DF (A7 rfl (by simp [hg7,hg1]) rfl) ?_
     refine DF (Al rfl) (Wn (w := by simp [hg7,hg1]) (Ad ldC rfl rfl rfl) ?_)
     refine Wn (w := by simp [hg7,hg1]) (Ex rfl) ?_
     refine Wn (w := by simp [hg7,hg1]) (Aj fdC rfl rfl) ?_
     refine Wn (w := by simp [hg7,hg1]) (Ad ldC rfl rfl rfl) ?_
     refine Wn (w := by simp [hg7,hg1]) (Aj fdC rfl rfl) ?_
     refine Wn (w := by simp [hg7,hg1]) (Ad ldC rfl rfl rfl) ?_
     refine Wn (w := by simp [hg7,hg1]) (Cx st9 Cg rfl hk.f rfl) ?_
     refine DF (A7 rfl (by simp [hg7,hg1]) rfl) ?_
     refine Dq ?_
     exact ⟨⟨congrArg (fun b => some (AV.bool b)) (by simp [hg7,hg1]),trivial⟩,sb,rfl⟩
  refine Ab rfl ?_ ?_ <;> intro h2
  ·refine G4 ?_;have hE : Em pw k f before = 6 := ((if_neg (fun hh => Bool.noConfusion (h1.symm.trans hh))).trans (if_pos h2))
   refine C3 fun hw9 => ?_
   refine G ?_
   exact ⟨_,rfl,_,_,ag_ hw9 nl (fun _ _ => rfl),nl,.same rfl,congrArg iV hE.symm,⟨nl,fun _ _ _ => rfl⟩,fun hh => absurd (hE.symm.trans hh) (by decide)⟩
  ·refine G9 ?_;refine TOr 4 ?_ (fun hg => ?_) ?_
   rotate_left
   ·iterate 4 refine Gn hg ?_
    exact Ez
   refine G ?_;refine Ab rfl ?_ ?_ <;> intro h3
   ·refine G4 ?_;have hE : Em pw k f before = 4 := ((if_neg (fun hh => Bool.noConfusion (h1.symm.trans hh))).trans ((if_neg (fun hh => Bool.noConfusion (h2.symm.trans hh))).trans (if_pos h3)))
    refine C3 fun hw9 => ?_
    refine G ?_
    exact ⟨_,rfl,_,_,ag_ hw9 nl (fun _ _ => rfl),nl,.same rfl,congrArg iV hE.symm,⟨nl,fun _ _ _ => rfl⟩,fun hh => absurd (hE.symm.trans hh) (by decide)⟩
   ·refine G2 ?_;refine XS (l := []) trivial ?_;refine G6 ?_
    refine DT (Fl (v := true) st9 Cg rfl hvf rfl rfl (fun te k1 k2 => by first | exact Gt k1 k2 | exact Hk k1 k2 | exact Gu k1 k2 | exact H8 k1 k2 | exact F8 k1 k2 rfl)) ?_
    refine G3 ?_;refine O1 (Bp (n := nx U) Cg (Ac U _ _)) (O1 (Bp (n := nx U + 1) Ac0 (nx1 (Ac U _ _))) ?_);refine G10 ?_
    refine C1 (As elC byW rfl rfl rfl) (D6 (len := 2)) rfl rfl (Ag rfl rfl rfl rfl (f210 [f.hyps,f.dummies] _ (by simp) hB.a) ?_)
    refine G3 ?_
    have db : ∃ lab ty,Amw U (((U.set (m + 2) (.map 9 (B6 bV (k.frames.put f.label true)) (vf + 1))).new (.map 9 [] 0)).new (.map 9 [] 0)) m (k.fr f.label) lab ty /\ Ia (k.fr f.label) f.hyps.length f.all 0 [] [] = Ia (k.fr f.label) f.hyps.length (f.all.drop 0) 0 lab ty /\ ∀ h ∈ f.all.take 0,h.floating = true -> ∃ a b,h.text = [a,b] := by
     have hg : ∀ b,b < nx U -> b ≠ m + 2 -> (((U.set (m + 2) (.map 9 (B6 bV (k.frames.put f.label true)) (vf + 1))).new (.map 9 [] 0)).new (.map 9 [] 0)).get b = U.get b := fun b h8 h9 => by
      rw [ab_,if_neg (by rw [Af,Ac]; omega),ab_,if_neg (by rw [Ac]; omega),a_,if_neg Om]
     refine ⟨[],[],⟨by rw [Af,Af,Ac],hg,hk.fr (ver := vf + 1) hw ?_ hg,⟨0,?_⟩,⟨0,?_⟩,.nil⟩,rfl,fun h hh => by simp at hh⟩
     ·rw [ab_,if_neg (by rw [Af,Ac]; omega),ab_,if_neg (by rw [Ac]; omega),a_,if_pos rfl]
     ·rw [ab_,if_neg (by rw [Af,Ac]; omega),ab_,if_pos (by rw [Ac])]; rfl
     ·rw [ab_,if_pos (by rw [Af,Ac])]; rfl
    refine G ?_;refine Bq f.all.length (fun i0 => [(2,slV eH 3 before),(3,.pv [knV m]),(4,.pv (eF f)),(9,.pv [.mp (nx U),.mp (nx U + 1)]),(73,slV eH 3 f.all),(74,iV (.ofNat f.all.length)),(75,iV (.ofNat i0))]) (fun i0 U0 => ∃ lab ty,Amw U U0 m (k.fr f.label) lab ty /\ Ia (k.fr f.label) f.hyps.length f.all 0 [] [] = Ia (k.fr f.label) f.hyps.length (f.all.drop i0) i0 lab ty /\ ∀ h ∈ f.all.take i0,h.floating = true -> ∃ a b,h.text = [a,b]) SL db ?_
    rintro i0 U0 hi0 ⟨lab,ty,⟨hn0,hg0,hk0,hl0,ht0,hs0⟩,hf0,h20⟩;refine G5 ?_;refine Ab rfl ?_ ?_ <;> intro h4
    ·have bc : i0 < f.all.length := by simpa using h4
     obtain ⟨a0,ha0⟩ := A6 bc;have hd0 := Ay ha0;have hne0 : a0 ∈ f.all := ae_ ha0;obtain ⟨vl,hvl⟩ := id hl0;obtain ⟨vt0,pm⟩ := id ht0;refine G8 ?_;refine M5 ziC ldC rfl rfl (fun _ => rfl) rfl (fun _ => rfl) rfl rfl rfl rfl rfl ?_
     refine G12 ?_;refine Ag rfl rfl rfl rfl (f211 m (k.fr f.label) (nx U) (nx U + 1) lab ty a0 _ U0 hk0 hl0 ht0 (hB.x a0 (ae_ ha0))) ?_;refine G7 ?_;refine Ab rfl ?_ ?_ <;> intro h5
     ·refine G5 ?_
      have hH : Ia (k.fr f.label) f.hyps.length f.all 0 [] [] = ((Tn (k.fr f.label) lab ty a0 (decide (Int.ofNat f.hyps.length <= Int.ofNat i0))),ty) := by rw [hf0,hd0,Ia,if_pos h5]
      have hup : Ak8 m U U0 := Amw.up ⟨hn0,hg0,hk0,hl0,ht0,hs0⟩
      have hE : Em pw k f before = (Tn (k.fr f.label) lab ty a0 (decide (Int.ofNat f.hyps.length <= Int.ofNat i0))) := ((if_neg (fun hh => Bool.noConfusion (h1.symm.trans hh))).trans ((if_neg (fun hh => Bool.noConfusion (h2.symm.trans hh))).trans ((if_neg (fun hh => Bool.noConfusion (h3.symm.trans hh))).trans (by rw [hH]; exact if_pos h5))))
      refine C3 fun hw9 => ?_
      refine G ?_
      exact ⟨_,rfl,_,_,ag_ hw9 nl (fun _ _ => rfl),(by rw [hn0]; omega),.same rfl,congrArg iV hE.symm,hup,fun hh => by have h9 : (!decide ((Tn (k.fr f.label) lab ty a0 (decide (Int.ofNat f.hyps.length <= Int.ofNat i0))) = 0)) = true := h5; rw [hE.symm.trans hh] at h9; exact absurd h9 (by decide)⟩
     ·refine G7 ?_
      refine O1 (Fl (v := true) st9 Cg rfl hvl rfl rfl (fun te k1 k2 => by first | exact Gt k1 k2 | exact Hk k1 k2 | exact Gu k1 k2 | exact H8 k1 k2 | exact F8 k1 k2 rfl)) ?_
      refine G6 ?_;refine Ab rfl ?_ ?_ <;> intro h6
      ·have h6f : a0.floating = true := h6;obtain ⟨t0,t1,htx⟩ := Agx (Ao1 h5) h6f
       have htw : ∀ h ∈ f.all.take (i0 + 1),h.floating = true -> ∃ a b,h.text = [a,b] := fun h hh hf => by
        rw [B7 ha0] at hh
        rcases b_.1 hh with hh | hh
        ·exact h20 h hh hf
        ·cases am_.1 hh; exact ⟨t0,t1,htx⟩
       refine XS (l := []) trivial ?_;refine G4 ?_
       refine DF (Ax elC (fun _ => rfl) rfl rfl (by rw [htx]; rfl : a0.text[1]? = some t1) (i := 1)) ?_
       refine G3 ?_
       refine DF (Ax elC (fun _ => rfl) rfl rfl (by rw [htx]; rfl : a0.text[0]? = some t0) (i := 0)) ?_
       refine G ?_
       refine DT (Fl (v := t0) st9 Ac0 rfl (by rw [a_,if_neg Om]; exact pm) rfl rfl (fun te k1 k2 => by first | exact Gt k1 k2 | exact Hk k1 k2 | exact Gu k1 k2 | exact H8 k1 k2 | exact F8 k1 k2 rfl)) ?_
       refine G5 ?_
       refine ⟨bc,SL,⟨lab.put a0.label true,ty.put t1 t0,⟨by rw [Ac,Ac]; exact hn0,fun b h7 h8 => by rw [a_,if_neg Om,a_,if_neg Om]; exact hg0 b h7 h8,(hk0.hi Om).hi Om,gv_ ds_ Om,ds_,hs0.put⟩,by rw [hf0,hd0,Ia,if_neg (fun hh => Bool.noConfusion (h5.symm.trans hh)),if_pos h6f,htx]; rfl,htw⟩⟩
      ·have h6f : a0.floating = false := h6
       have htw : ∀ h ∈ f.all.take (i0 + 1),h.floating = true -> ∃ a b,h.text = [a,b] := fun h hh hf => by
        rw [B7 ha0] at hh
        rcases b_.1 hh with hh | hh
        ·exact h20 h hh hf
        ·cases am_.1 hh; rw [h6f] at hf; cases hf
       refine G5 ?_
       refine ⟨bc,SL,⟨lab.put a0.label true,ty,⟨by rw [Ac]; exact hn0,fun b h7 h8 => by rw [a_,if_neg Om]; exact hg0 b h7 h8,hk0.hi Om,ds_,ht0.set Om,hs0⟩,by rw [hf0,hd0,Ia,if_neg (fun hh => Bool.noConfusion (h5.symm.trans hh)),if_neg (by rw [h6f]; simp)],htw⟩⟩
    ·have bk : f.all.length <= i0 := by simpa using h4
     have hH : Ia (k.fr f.label) f.hyps.length f.all 0 [] [] = (0,ty) := by rw [hf0,ah_ bk]; rfl
     have hup : Ak8 m U U0 := Amw.up ⟨hn0,hg0,hk0,hl0,ht0,hs0⟩;have hb2 : ∀ t ∈ f.text :: Hl f.hyps,t.length < 1000000 := hB.ess
     have hfl : ∀ h ∈ f.hyps,h.floating = true -> ∃ a b,h.text = [a,b] := fun h hh => h20 h (by rw [av_ bk]; simp [Fr.all,hh])
     have hrl : (Ak7 f before).length < 4611686018427387904 := by have := hB.h; have h9 := Hb (p := fun h : Hp => h.floating) (l := f.hyps); unfold Ak7 Ajd; rw [cu_]; omega
     refine G7 ?_
     refine Ag rfl rfl rfl rfl (f212 m (k.fr f.label) f.text U0 hk0 (by have := hB.t; omega)) ?_
     refine G7 ?_;refine Ab rfl ?_ ?_ <;> intro h5
     ·refine G5 ?_
      have hE : Em pw k f before = (k.fr f.label).textF f.text := ((if_neg (fun hh => Bool.noConfusion (h1.symm.trans hh))).trans ((if_neg (fun hh => Bool.noConfusion (h2.symm.trans hh))).trans ((if_neg (fun hh => Bool.noConfusion (h3.symm.trans hh))).trans ((if_neg (by rw [hH]; simp)).trans (if_pos h5)))))
      refine C3 fun hw9 => ?_
      refine G ?_
      exact ⟨_,rfl,_,_,ag_ hw9 nl (fun _ _ => rfl),(by rw [hn0]; omega),.same rfl,congrArg iV hE.symm,hup,fun hh => by have h9 : (!decide ((k.fr f.label).textF f.text = 0)) = true := h5; rw [hE.symm.trans hh] at h9; exact absurd h9 (by decide)⟩
     ·refine G6 ?_;refine Ag rfl rfl rfl rfl (f213 m (k.fr f.label) f U0 hk0 hB.h hb2 hB.w hfl) ?_;refine G7 ?_;refine Ab rfl ?_ ?_ <;> intro h6
      ·refine G5 ?_
       have hE : Em pw k f before = Jg (k.fr f.label) f := ((if_neg (fun hh => Bool.noConfusion (h1.symm.trans hh))).trans ((if_neg (fun hh => Bool.noConfusion (h2.symm.trans hh))).trans ((if_neg (fun hh => Bool.noConfusion (h3.symm.trans hh))).trans ((if_neg (by rw [hH]; simp)).trans ((if_neg (fun hh => Bool.noConfusion (h5.symm.trans hh))).trans (if_pos h6))))))
       refine C3 fun hw9 => ?_
       refine G ?_
       exact ⟨_,rfl,_,_,ag_ hw9 nl (fun _ _ => rfl),(by rw [hn0]; omega),.same rfl,congrArg iV hE.symm,hup,fun hh => by have h9 : (!decide (Jg (k.fr f.label) f = 0)) = true := h6; rw [hE.symm.trans hh] at h9; exact absurd h9 (by decide)⟩
      ·refine G9 ?_;refine TAn 14 ?_ (fun hg => ?_) ?_
       rotate_left
       ·iterate 4 refine Gn hg ?_
        refine Acn 4 _ ?_ rfl rfl rfl rfl rfl (I6 rfl rfl rfl rfl (by rw [hg]; rfl)) (fun hg => ?_) (fun hg => ?_) ?_
        rotate_left
        ·iterate 4 refine Gn hg ?_
         refine G ?_;refine ⟨rfl,?_,?_⟩
         ·exact sb
         ·exact rfl
        ·iterate 4 refine Gn hg ?_
         refine G ?_;exact ⟨rfl,sb⟩
        refine Gn hg ?_
        refine Acn 3 _ ?_ rfl rfl rfl rfl rfl (I6 rfl rfl rfl rfl (by rw [hg]; rfl)) (fun hg => ?_) (fun hg => ?_) ?_
        rotate_left
        ·iterate 2 refine Gn hg ?_
         refine Bh rfl rfl rfl (by rw [hg]; rfl) rfl rfl rfl rfl (f31 (fun s => !pw s) f.proof 214 [] U0 (by have := hB.p; omega) (fun a _ => hpw a U0)) ?_
         refine G ?_;refine ⟨rfl,?_,?_⟩
         ·exact sb
         ·exact rfl
        ·iterate 3 refine Gn hg ?_
         refine G ?_;exact ⟨rfl,sb⟩
        exact Ez
       refine G ?_;refine Ab rfl ?_ ?_ <;> intro h7
       ·refine G4 ?_
        have hE : Em pw k f before = 2 := ((if_neg (fun hh => Bool.noConfusion (h1.symm.trans hh))).trans ((if_neg (fun hh => Bool.noConfusion (h2.symm.trans hh))).trans ((if_neg (fun hh => Bool.noConfusion (h3.symm.trans hh))).trans ((if_neg (by rw [hH]; simp)).trans ((if_neg (fun hh => Bool.noConfusion (h5.symm.trans hh))).trans ((if_neg (fun hh => Bool.noConfusion (h6.symm.trans hh))).trans (if_pos h7)))))))
        refine C3 fun hw9 => ?_
        refine G ?_
        exact ⟨_,rfl,_,_,ag_ hw9 nl (fun _ _ => rfl),(by rw [hn0]; omega),.same rfl,congrArg iV hE.symm,hup,fun hh => absurd (hE.symm.trans hh) (by decide)⟩
       ·refine G4 ?_;refine Ag rfl rfl rfl rfl (f183 f U0 hB.h) ?_;refine G7 ?_;refine Ag rfl rfl rfl rfl (f216 before (Ajd f) U0 hbe) ?_;refine G4 ?_;refine C1 (Arc rfl rfl rfl rfl (Aab _ _)) D6 rfl rfl ?_;refine G7 ?_;refine Ag rfl rfl rfl rfl (f44 (fun h => ((k.fr f.label).hyps.get h.label).isSome) (Ak7 f before) 217 [.pv [knV m]] U0 hrl (fun a _ => f217 m (k.fr f.label) a U0 hk0)) ?_
        refine G ?_;refine Ab rfl ?_ ?_ <;> intro h8
        ·refine G4 ?_
         have hE : Em pw k f before = 7 := ((if_neg (fun hh => Bool.noConfusion (h1.symm.trans hh))).trans ((if_neg (fun hh => Bool.noConfusion (h2.symm.trans hh))).trans ((if_neg (fun hh => Bool.noConfusion (h3.symm.trans hh))).trans ((if_neg (by rw [hH]; simp)).trans ((if_neg (fun hh => Bool.noConfusion (h5.symm.trans hh))).trans ((if_neg (fun hh => Bool.noConfusion (h6.symm.trans hh))).trans ((if_neg (fun hh => Bool.noConfusion (h7.symm.trans hh))).trans (if_pos h8))))))))
         refine C3 fun hw9 => ?_
         refine G ?_
         exact ⟨_,rfl,_,_,ag_ hw9 nl (fun _ _ => rfl),(by rw [hn0]; omega),.same rfl,congrArg iV hE.symm,hup,fun hh => absurd (hE.symm.trans hh) (by decide)⟩
        ·refine G8 ?_
         refine C1 (As elC byW rfl rfl rfl) (D6 (len := 2)) rfl rfl (Ag rfl rfl rfl rfl (f210 [f.hyps,f.dummies] _ (by simp) hB.a) ?_)
         refine G4 ?_;refine Bq f.all.length (fun i2 => [(3,.pv [knV m]),(9,.pv [.mp (nx U),.mp (nx U + 1)]),(161,slV eH 3 f.all),(162,iV (.ofNat f.all.length)),(163,iV (.ofNat i2))]) (fun i2 U2 => nx U2 = nx U + 2 /\ (∀ b,b < nx U -> b ≠ m + 2 -> b ≠ m + 3 -> U2.get b = U.get b) /\ Gk U2 m ((k.fr f.label).hyps' (f.all.take i2)) /\ Bf sV U2 (nx U + 1) ty) SL ⟨hn0,fun b h9 h10 _ => hg0 b h9 h10,hk0,ht0⟩ ?_
         rintro i2 U2 hi2 ⟨hn2,hg2,hk2,ht2⟩;refine G5 ?_;refine Ab rfl ?_ ?_ <;> intro h9
         ·have bw : i2 < f.all.length := by simpa using h9
          obtain ⟨a2,ha2⟩ := A6 bw;have hd2 := Ay ha2;obtain ⟨vh,hvh⟩ := id hk2.h;refine G9 ?_;refine XX 1 (l := [(186,[.agg (eH a2)],U2,.agg (eH a2),U2)]) ⟨f186 a2 U2 (hB.x a2 (ae_ ha2)),trivial⟩ ?_;refine G8 ?_
          refine DT (Fl (v := a2) st9 O0 rfl hvh rfl rfl (fun te k1 k2 => by first | exact Gt k1 k2 | exact Hk k1 k2 | exact Gu k1 k2 | exact H8 k1 k2 | exact F8 k1 k2 rfl)) ?_
          refine G ?_
          refine ⟨(by intro e he; simp at he; subst he; exact .refl),?_⟩
          refine G4 ?_
          refine ⟨bw,SL,by rw [Ac]; exact hn2,fun b h11 h12 h13 => by rw [a_,if_neg Om]; exact hg2 b h11 h12 h13,by rw [B7 ha2,Aje]; exact hk2.hp,ht2.set Om⟩
         ·have b6 : f.all.length <= i2 := by simpa using h9
          rw [av_ b6] at hk2;obtain ⟨vt,hvt⟩ := id hk2.t;refine G2 ?_;refine XS (l := [(218,[.mp (m + 4),.mp (nx U + 1)],U2,Au,(U2.set (m + 4) (.map 9 (B6 sV (SM.over ty k.types)) (vt + ty.length))))]) ⟨f218 (m + 4) (nx U + 1) vt k.types ty U2 hvt ht2 Om hsr hs0,trivial⟩ ?_;refine G12 ?_
          have hE : Em pw k f before = 0 := ((if_neg (fun hh => Bool.noConfusion (h1.symm.trans hh))).trans ((if_neg (fun hh => Bool.noConfusion (h2.symm.trans hh))).trans ((if_neg (fun hh => Bool.noConfusion (h3.symm.trans hh))).trans ((if_neg (by rw [hH]; simp)).trans ((if_neg (fun hh => Bool.noConfusion (h5.symm.trans hh))).trans ((if_neg (fun hh => Bool.noConfusion (h6.symm.trans hh))).trans ((if_neg (fun hh => Bool.noConfusion (h7.symm.trans hh))).trans (if_neg (fun hh => Bool.noConfusion (h8.symm.trans hh))))))))))
          refine C3 fun hw9 => ?_
          refine G ?_
          exact ⟨_,rfl,_,_,ag_ hw9 nl (fun _ _ => rfl),(by rw [Ac,hn2]; omega),.same rfl,congrArg iV hE.symm,⟨by rw [Ac,hn2]; omega,fun b h10 h11 => by rw [a_,if_neg Om]; exact hg2 b h10 Om Om⟩,fun _ => ⟨by unfold knF; rw [hH]; exact hk2.ty,by unfold knF; exact SM.Srt.over hsr⟩⟩
def kn0 : Kn := ⟨[],[],[],[],[]⟩
def Hm (pw : Str -> Bool) : List Fr -> Kn -> List Hp -> Int
 | [],_,_ => 0
 | f :: r,k,before => if (!decide (Em pw k f before = 0)) = true then Em pw k f before else Hm pw r (knF k f) (Ajd f)
def En (pw : Str -> Bool) (d : Db) : Int :=
 if ((decide ((400 : Int) < Int.ofNat d.frames.length) || decide ((8000 : Int) < Int.ofNat d.consts.length)) || decide ((8000 : Int) < Int.ofNat d.vars.length)) = true then 8
 else if (!decide ((Jo d kn0).1 = 0)) = true then (Jo d kn0).1 else Hm pw d.frames (Jo d kn0).2 []
structure DbB (d : Db) : Prop where
 f : ∀ f ∈ d.frames,FrB f
 c : d.consts.length < 1000000
 v : d.vars.length < 1000000
 n : d.frames.length < 1000000
theorem Rn : ∀ (l : List Str) (k : Kn),(Na l k).2.types = k.types
 | [],_ => rfl
 | c :: r,k => by unfold Na; cases Nr c <;> cases k.consts.has c <;> simp [Rn r]
theorem Aac : ∀ (l : List Str) (k : Kn),(O2 l k).2.types = k.types
 | [],_ => rfl
 | c :: r,k => by unfold O2; cases Nr c <;> cases k.isSym c <;> simp [Aac r]
theorem Ajf (d : Db) (k : Kn) : (Jo d k).2.types = k.types := by
 unfold Jo; split
 ·rw [Aac,Rn]
 ·rw [Rn]
theorem f152 (pw : Str -> Bool) (hpw : ∀ s U,Cv 214 [sV s] U (.bool (!pw s))) (d : Db) (U : Sto) (hB : DbB d) : Cv 152 [dbV d] U (iV (En pw d)) := by
 refine An Tryz.func152 rfl rfl fun hw hu0 => ?_
 iterate 13 refine G ?_
 refine TOr 4 ?_ (fun hg => ?_) ?_
 rotate_left
 ·iterate 4 refine Gn hg ?_
  exact Ez
 refine G ?_;refine TOr 4 ?_ (fun hg => ?_) ?_
 rotate_left
 ·iterate 4 refine Gn hg ?_
  exact Ez
 refine G ?_;refine Ab rfl ?_ ?_ <;> intro h1
 ·refine G4 ?_;have hE : En pw d = 8 := (if_pos h1);refine G ?_;exact ⟨_,rfl,_,U,as_ hw fj_,nl,.same rfl,congrArg iV hE.symm,rfl⟩
 ·refine G ?_;have hbn := hB.n
  have hg5 : ∀ b,b < nx U -> (((((U.new (.map 9 [] 0)).new (.map 9 [] 0)).new (.map 9 [] 0)).new (.map 9 [] 0)).new (.map 9 [] 0)).get b = U.get b := fun b hb => by
   rw [ab_,if_neg (by simp only [Af]; omega),ab_,if_neg (by simp only [Af]; omega),ab_,if_neg (by simp only [Af]; omega),ab_,if_neg (by simp only [Af]; omega),ab_,if_neg Om]
  have px : Gk (((((U.new (.map 9 [] 0)).new (.map 9 [] 0)).new (.map 9 [] 0)).new (.map 9 [] 0)).new (.map 9 [] 0)) (nx U) kn0 := by
   refine ⟨⟨0,?_⟩,⟨0,?_⟩,⟨0,?_⟩,⟨0,?_⟩,⟨0,?_⟩⟩ <;> simp only [ab_,Af] <;> simp <;> rfl
  refine G2 ?_;refine O1 (Bp (n := nx U) Cg rfl) (O1 (Bp (n := nx U + 1) Cg (nx1 rfl)) (O1 (Bp (n := nx U + 2) Cg (nx1 (nx1 rfl))) (O1 (Bp (n := nx U + 3) O0 (nx1 (nx1 (nx1 rfl)))) (O1 (Bp (n := nx U + 4) Ac0 (nx1 (nx1 (nx1 (nx1 rfl))))) ?_))));refine G9 ?_
  refine Bw rfl rfl rfl rfl (f181 (nx U) kn0 d (((((U.new (.map 9 [] 0)).new (.map 9 [] 0)).new (.map 9 [] 0)).new (.map 9 [] 0)).new (.map 9 [] 0)) px (by have := hB.c; omega) (by have := hB.v; omega)) fun v τ ⟨hv,ib,hk1⟩ => ?_
  subst hv;refine G7 ?_;refine Ab rfl ?_ ?_ <;> intro h2
  ·refine G5 ?_;have hE : En pw d = (Jo d kn0).1 := ((if_neg (fun hh => Bool.noConfusion (h1.symm.trans hh))).trans (if_pos h2))
   refine G ?_
   exact ⟨_,rfl,_,U,as_ hw ⟨by rw [ib.1]; simp only [Af]; omega,fun b hb => (ib.2 b (.inl hb)).trans (hg5 b hb)⟩,nl,.same rfl,congrArg iV hE.symm,rfl⟩
  ·refine G3 ?_;refine C1 (Fi rfl) (Ue (sz := 3)) rfl rfl ?_;refine G9 ?_
   have hn1 : nx U + 5 <= nx τ := by rw [ib.1]; simp only [Af]; omega
   have hg1 : ∀ b,b < nx U -> τ.get b = U.get b := fun b hb => (ib.2 b (.inl hb)).trans (hg5 b hb)
   have hs1 : SM.Srt (Jo d kn0).2.types := by rw [Ajf]; exact .nil
   refine G ?_
   refine B3 (fun q : Nat × AV => [(3,knV (nx U)),(5,q.2),(39,slV eF 8 d.frames),(40,iV (.ofNat d.frames.length)),(41,iV (.ofNat q.1))]) (fun q U0 => q.1 <= d.frames.length /\ ∃ k be,q.2 = slV eH 3 be /\ be.length < 1000000 /\ nx U + 5 <= nx U0 /\ (∀ b,b < nx U -> U0.get b = U.get b) /\ Gk U0 (nx U) k /\ SM.Srt k.types /\ Hm pw d.frames (Jo d kn0).2 [] = Hm pw (d.frames.drop q.1) k be) (fun q => d.frames.length - q.1) (0,slV eH 3 []) SL ⟨bh_ _,(Jo d kn0).2,[],rfl,by simp,hn1,hg1,hk1,hs1,rfl⟩ ?_
   rintro ⟨i0,v0⟩ U0 hP0;obtain ⟨hi0,k,be,hbe,hbl,hn0,hg0,hk0,hs0,hf0⟩ : i0 <= d.frames.length /\ ∃ k be,v0 = slV eH 3 be /\ be.length < 1000000 /\ nx U + 5 <= nx U0 /\ (∀ b,b < nx U -> U0.get b = U.get b) /\ Gk U0 (nx U) k /\ SM.Srt k.types /\ Hm pw d.frames (Jo d kn0).2 [] = Hm pw (d.frames.drop i0) k be := hP0;refine G5 ?_;refine Ab rfl ?_ ?_ <;> intro h3
   ·have bc : i0 < d.frames.length := by simpa using h3
    obtain ⟨a0,ha0⟩ := A6 bc;have hd0 := Ay ha0;subst hbe
    iterate 15 refine G ?_
    refine Bw rfl rfl rfl rfl (f182 pw hpw (nx U) k a0 be U0 hk0 hs0 (hB.f a0 (ae_ ha0)) hbl) fun v2 τ2 ⟨hv2,hup,hkn⟩ => ?_
    subst hv2;refine G7 ?_;refine Ab rfl ?_ ?_ <;> intro h4
    ·refine G5 ?_
     have hE : En pw d = Em pw k a0 be := ((if_neg (fun hh => Bool.noConfusion (h1.symm.trans hh))).trans ((if_neg (fun hh => Bool.noConfusion (h2.symm.trans hh))).trans (by rw [hf0,hd0,Hm]; exact if_pos h4)))
     refine G ?_
     exact ⟨_,rfl,_,U,as_ hw ⟨by have := hup.1; omega,fun b hb => (hup.2 b Om (.inl hb)).trans (hg0 b hb)⟩,nl,.same rfl,congrArg iV hE.symm,rfl⟩
    ·refine G3 ?_;refine Ag rfl rfl rfl rfl (f183 a0 _ (hB.f a0 (ae_ ha0)).h) ?_;refine G6 ?_
     refine ⟨(i0 + 1,slV eH 3 (Ajd a0)),by show d.frames.length - (i0 + 1) < d.frames.length - i0; omega,SL,bc,knF k a0,Ajd a0,rfl,dd_ Hb (hB.f a0 (ae_ ha0)).h,ax_ hn0 hup.1,fun b hb => (hup.2 b Om (.inl hb)).trans (hg0 b hb),(hkn (Ao1 h4)).1,(hkn (Ao1 h4)).2,by rw [hf0,hd0,Hm,if_neg (fun hh => Bool.noConfusion (h4.symm.trans hh))]⟩
   ·have bk : d.frames.length <= i0 := by simpa using h3
    have hH : Hm pw d.frames (Jo d kn0).2 [] = 0 := by rw [hf0,ah_ bk]; rfl
    refine G5 ?_;have hE : En pw d = 0 := ((if_neg (fun hh => Bool.noConfusion (h1.symm.trans hh))).trans ((if_neg (fun hh => Bool.noConfusion (h2.symm.trans hh))).trans (hH)))
    refine G ?_
    exact ⟨_,rfl,_,U,as_ hw ⟨by omega,hg0⟩,nl,.same rfl,congrArg iV hE.symm,rfl⟩
end Go.AM
namespace Go.AM
open Go Go.Proofs
def txv (h : Hp) : Str := h.text.tail.headD []
def Amx (s : SM Bool) (l : List Hp) : SM Bool := l.foldl (fun m b => m.put (txv b) true) s
abbrev Ord := SM Hp × SM (SM Bool)
def Ns (i : Nat) (h : Hp) (s : Ord) : Ord := if i = 0 then (s.1.put (txv h) h,s.2.put (txv h) []) else s
def Agy (i : Nat) (pre : List Hp) (h : Hp) (s : Ord) : Option Ord :=
 match (Ns i h s).2.get (txv h) with
 | none => none
 | some a => if Ak5 ((Ns i h s).1.get (txv h)) h = true then some ((Ns i h s).1,(Ns i h s).2.put (txv h) (Amx a pre)) else none
def Wq (i : Nat) (all : List Hp) : List Hp -> Nat -> Ord -> Option Ord
 | [],_,s => some s
 | h :: r,n,s => match Agy i (all.take n) h s with
  | none => none
  | some s' => Wq i all r (n + 1) s'
def Nm (i : Nat) : List (List Hp) -> Ord -> Option Ord
 | [],s => some s
 | l :: r,s => match Wq i l l 0 s with
  | none => none
  | some s' => Nm i r s'
def flo (l : List Hp) : List Hp := D9 Tk l
def Ao2 (d : Db) (f : Fr) : Bool := !decide (Int.ofNat ((flo f.hyps).length + (flo f.dummies).length) = Int.ofNat d.vars.length) || (f.hyps.drop (flo f.hyps).length).any (fun h => h.floating)
def Nf (d : Db) : List Fr -> Nat -> Ord -> Option Ord
 | [],_,s => some s
 | f :: r,i,s => if Ao2 d f = true then none else match Nm i [flo f.hyps,flo f.dummies] s with
  | none => none
  | some s' => Nf d r (i + 1) s'
def rdy (a : SM (SM Bool)) (done : SM Bool) (v : Str) : Bool := !done.has v && ((a.get v).getD []).all (fun p => done.has p.1)
def Uj (vars : List Str) (s : Ord) : Nat -> SM Bool -> List Hp -> Option (List Hp)
 | 0,_,out => some out
 | n + 1,done,out => match vars.find? (rdy s.2 done) with
  | none => none
  | some v => match s.1.get v with
   | none => none
   | some h => Uj vars s n (done.put v true) (out ++ [h])
def Eo (d : Db) : Option (List Hp) :=
 if d.frames.length = 0 then (if d.vars.length = 0 then some [] else none)
 else match Nf d d.frames 0 ([],[]) with
  | none => none
  | some s => Uj d.vars s d.vars.length [] []
structure Aeu (U : Sto) (N r : Nat) (A : SM (SM Bool)) (refs : SM Nat) : Prop where
 m : Bf (fun q => AV.mp q) U r refs
 s : ∀ v,(refs.get v).isSome = (A.get v).isSome
 a : ∀ v q s,refs.get v = some q -> A.get v = some s -> E2 U q s
 n : ∀ v q,refs.get v = some q -> N <= q
 i : ∀ v v' q,refs.get v = some q -> refs.get v' = some q -> v = v'
theorem Aeu.new {U U' : Sto} {N r q ver : Nat} {A : SM (SM Bool)} {refs : SM Nat} {v : Str} (h : Aeu U N r A refs) (hw : WFS U) (hr : r < N) (hN : N <= nx U) (hq : q = nx U) (hm : U'.get r = some (.map 9 (B6 (fun q => AV.mp q) (refs.put v q)) ver)) (hs : E2 U' q [])
  (hg : ∀ b,N <= b -> b < nx U -> U'.get b = U.get b) : Aeu U' N r (A.put v []) (refs.put v q) := by
 refine ⟨⟨ver,hm⟩,fun u => ?_,fun u p s k1 k2 => ?_,fun u p k1 => ?_,fun u u' p k1 k2 => ?_⟩
 ·rw [ci_,ci_]; split <;> first | rfl | exact h.s u
 ·rw [ci_] at k1 k2
  split at k1
  ·rename_i e; rw [if_pos e] at k2; cases k1; cases k2; exact hs
  ·rename_i e; rw [if_neg e] at k2
   exact (h.a u p s k1 k2).of_get (hg p (h.n u p k1) ((h.a u p s k1 k2).lt hw))
 ·rw [ci_] at k1
  split at k1
  ·cases k1; omega
  ·exact h.n u p k1
 ·have lt : ∀ w p,refs.get w = some p -> p < nx U := fun w p hh => by
   have := h.s w; rw [hh] at this;obtain ⟨s,hs⟩ := br_.1 this.symm;exact (h.a w p s hh hs).lt hw
  rw [ci_] at k1 k2
  split at k1 <;> split at k2
  ·rename_i e1 e2; rw [e1,e2]
  ·cases k1; have := lt _ _ k2; omega
  ·cases k2; have := lt _ _ k1; omega
  ·exact h.i u u' p k1 k2
theorem Aeu.upd {U U' : Sto} {N r q : Nat} {A : SM (SM Bool)} {refs : SM Nat} {v : Str} {s : SM Bool} (h : Aeu U N r A refs) (hq : refs.get v = some q) (hr : U'.get r = U.get r) (hs : E2 U' q s)
  (hg : ∀ b,N <= b -> b ≠ q -> U'.get b = U.get b) : Aeu U' N r (A.put v s) refs := by
 refine ⟨h.m.of_get hr,fun u => ?_,fun u p t k1 k2 => ?_,h.n,h.i⟩
 ·rw [ci_]
  split
  ·rename_i e; subst e; rw [hq]; rfl
  ·exact h.s u
 ·rw [ci_] at k2
  split at k2
  ·rename_i e; subst e; rw [hq] at k1; cases k1; cases k2; exact hs
  ·rename_i e
   refine (h.a u p t k1 k2).of_get (hg p (h.n u p k1) fun hh => e ?_)
   subst hh; exact h.i u v p k1 hq
end Go.AM
namespace Go.AM
open Go Go.Proofs
structure Nn (U τ : Sto) (s : Ord) : Prop where
 n : nx U + 2 <= nx τ
 g : ∀ b,b < nx U -> τ.get b = U.get b
 o : Bf hV τ (nx U) s.1
 a : ∃ refs,Aeu τ (nx U + 2) (nx U + 1) s.2 refs
 k : ∀ v,(s.1.get v).isSome = (s.2.get v).isSome
theorem Amy {s : SM Bool} {l : List Hp} {b : Hp} : Amx s (l ++ [b]) = (Amx s l).put (txv b) true := by unfold Amx; rw [gi_]; rfl
theorem X2 {h : Hp} {a b : Str} (e : h.text = [a,b]) : txv h = b := by unfold txv; rw [e]; rfl
theorem Atf {i : Nat} {h : Hp} {s : Ord} (hk : ∀ v,(s.1.get v).isSome = (s.2.get v).isSome) : ∀ v,((Ns i h s).1.get v).isSome = ((Ns i h s).2.get v).isSome := fun v => by
 unfold Ns
 split
 ·simp only [ci_]; split <;> first | rfl | exact hk v
 ·exact hk v
theorem Nn.first {U τ τ' : Sto} {s : Ord} {h : Hp} {ver ver2 : Nat} {refs : SM Nat} (hO : Nn U τ s) (hA : Aeu τ (nx U + 2) (nx U + 1) s.2 refs) (hw : WFS τ) (hn : nx τ <= nx τ') (ho : τ'.get (nx U) = some (.map 9 (B6 hV (s.1.put (txv h) h)) ver))
  (hr : τ'.get (nx U + 1) = some (.map 9 (B6 (fun q => AV.mp q) (refs.put (txv h) (nx τ))) ver2)) (hs : E2 τ' (nx τ) []) (hg : ∀ b,b < nx τ -> b ≠ nx U -> b ≠ nx U + 1 -> τ'.get b = τ.get b) : Nn U τ' (Ns 0 h s) := by
 have hN := hO.n
 refine ⟨by omega,fun b hb => (hg b Om Om Om).trans (hO.g b hb),⟨ver,ho⟩,⟨_,hA.new hw Om hN rfl hr hs fun b h1 h2 => hg b h2 Om Om⟩,Atf hO.k⟩
theorem Nn.turn {U τ τ' : Sto} {s : Ord} {a : SM Bool} {v : Str} {q : Nat} {refs : SM Nat} (hO : Nn U τ s) (hA : Aeu τ (nx U + 2) (nx U + 1) s.2 refs) (hq : refs.get v = some q) (hn : nx τ <= nx τ') (hs : E2 τ' q a) (hg : ∀ b,b ≠ q -> τ'.get b = τ.get b) : Nn U τ' (s.1,s.2.put v a) := by
 have hN := hO.n;have hqn := hA.n v q hq
 refine ⟨by omega,fun b hb => (hg b Om).trans (hO.g b hb),hO.o.of_get (hg _ Om),⟨refs,hA.upd hq (hg _ Om) hs fun b _ h2 => hg b h2⟩,fun u => ?_⟩
 show (s.1.get u).isSome = _
 rw [ci_,hO.k u]
 split
 ·rename_i e; subst e
  have := hA.s u; rw [hq] at this; rw [← this]; rfl
 ·rfl
section
open Go Go.Proofs Go.RowKit
def Fe : ByteArray := ⟨#[45,95,46,63]⟩
theorem Ard (p : Nat) (h : p < Fe.size) : (Utf8.decode Fe p).2 = 1 /\ ((Utf8.decode Fe p).1 : Int) ≠ 65533 := by
 have h4 : p < 4 := h
 match p,h4 with
 | 0,_ => decide
 | 1,_ => decide
 | 2,_ => decide
 | 3,_ => decide
set_option maxRecDepth 1000000 in
theorem Ao3 (w : World) : Calls Tryz.prog 292 #[.string Fe,.int .i32 65533] w fun e w' => e = .returned (.int .i64 (-1)) /\ Go.RowKit.Below w.heap.size w w' := by
 go_enter Tryz.func292,Tryz.ntmps292
 go_wp2
 go_loopg [] 4 (fun gf wx => ∃ pos : Nat,wx.heap[w.heap.size]? = some (.stringIter Fe pos) /\ Go.RowKit.Below w.heap.size w wx /\ Fe.size <= pos + gf)
 case atStart => exact ⟨0,World.iter_heap w Fe 0,(Go.RowKit.Below.refl _ w).alloc nl _,nl⟩
 case round =>
  obtain ⟨pos,hit,hbw,hfu⟩ := hrel
  by_cases hps : pos < Fe.size
  ·obtain ⟨g',rfl⟩ : ∃ g',gk = g' + 1 := ⟨gk - 1,by omega⟩
   have hnx : ∀ ty,(Instr.next (.pointer (some ⟨w.heap.size,0,none⟩)) true ty).run Tryz.prog wr = _ := fun ty => Lib.run_next_any_at wr w.heap.size Fe pos ty hit hps
   obtain ⟨hd1,hd2⟩ := Ard pos hps;obtain ⟨R,hR⟩ : ∃ R,(Utf8.decode Fe pos).1 = R := ⟨_,rfl⟩;rw [hR] at hd2;rw [hR,hd1] at hnx;have mr := Lib.iterAt_heap wr w.heap.size Fe pos (pos + 1) hit;have ms := Lib.below_iterAt hbw (k := w.heap.size) nl Fe (pos + 1);obtain ⟨W,hWd⟩ : ∃ W,wr.iterAt w.heap.size Fe (pos + 1) = W := ⟨_,rfl⟩;rw [hWd] at hnx mr ms
   go_wp2
   go_roundg g'
   case measure => omega
   case rel => exact ⟨pos + 1,mr,ms,by omega⟩
  ·have hnx : ∀ ty,(Instr.next (.pointer (some ⟨w.heap.size,0,none⟩)) true ty).run Tryz.prog wr = _ := fun ty => Lib.run_next_end_at wr w.heap.size Fe pos ty hit hps
   go_wp2
   go_ret
   exact ⟨rfl,hbw⟩
set_option maxRecDepth 1000000 in
theorem Ao4 (x : Int) (h0 : 128 <= x) (h1 : Lib.validRune x = false) (h2 : x ≠ 65533) (w : World) : Calls Tryz.prog 292 #[.string Fe,.int .i32 x] w fun e w' => e = .returned (.int .i64 (-1)) /\ w' = w := by
 have hd0 : decide ((0 : Int) <= x) = true := by simp; omega
 have hd1 : decide (x < (128 : Int)) = false := by simp; omega
 have e295 : ∀ args w,(callFunc 295 args).run Tryz.prog w = .ok (.enter 295 args) w := enters_of Tryz.func295 Kr rfl
 go_enter Tryz.func292,Tryz.ntmps292
 go_wp2_with (go_at_fn 295; refine (Tryz.utf8_ValidRune _ _).mono ?_; rintro e w' ⟨rfl,hw⟩; rw [hw,h1])
 go_ret
 exact ⟨rfl,rfl⟩
theorem Amz (x : Int) (h : 128 <= x) : (∃ a b : UInt8,Utf8.encode x = ⟨#[a,b]⟩ /\ 128 <= b.toNat) ∨ (∃ a b d : UInt8,Utf8.encode x = ⟨#[a,b,d]⟩ /\ 128 <= d.toNat) ∨ ∃ a b d e : UInt8,Utf8.encode x = ⟨#[a,b,d,e]⟩ /\ 128 <= e.toNat := by
 have hb : ∀ n : Nat,128 <= (UInt8.ofNat (0x80 + n % 64)).toNat := fun n => by
  rw [UInt8.toNat_ofNat']; omega
 unfold Utf8.encode;obtain ⟨c,hc⟩ : ∃ c,(if Utf8.valid x = true then x.toNat else Utf8.runeError) = c := ⟨_,rfl⟩
 have h128 : 128 <= c := by
  rw [← hc]; split
  ·omega
  ·decide
 simp only [hc];rw [if_neg Om]
 split
 ·exact .inl ⟨_,_,rfl,hb _⟩
 ·split
  ·exact .inr (.inl ⟨_,_,_,rfl,hb _⟩)
  ·exact .inr (.inr ⟨_,_,_,_,rfl,hb _⟩)
theorem Ajg (s : ByteArray) (c : Int) (w : World) : Calls Tryz.prog 294 #[.string s,.int .u8 c] w fun e w' => e = .returned (.int .i64 (Lib.indexByte s.data.toList c.toNat.toUInt8)) /\ w' = w := Any.strings_IndexByte { Tryz.lays151 with } s c w
theorem Ak9 {b : UInt8} (hb : 128 <= b.toNat) : ∀ {l : List UInt8},(∀ c ∈ l,c.toNat < 128) -> Lib.indexByte l b = -1
 | [],_ => rfl
 | c :: l,h => by
  have h1 : (c == b) = false := by
   cases hh : c == b with
   | false => rfl
   | true => have := eq_of_beq hh; subst this; have := h c (ar_ ..); omega
  have h2 := Ak9 hb (l := l) fun x hx => h x (ak_ _ hx)
  simp [Lib.indexByte,h1,h2]
set_option maxRecDepth 1000000 in
theorem Am0 (x : Int) (a b : UInt8) (he : Utf8.encode x = ⟨#[a,b]⟩) (hb : 128 <= b.toNat) (h0 : 128 <= x) (h1 : Lib.validRune x = true) (h2 : x ≠ 65533) (w : World) : Calls Tryz.prog 292 #[.string Fe,.int .i32 x] w fun e w' => e = .returned (.int .i64 (-1)) /\ Go.RowKit.Below w.heap.size w w' := by
 have hd0 : decide ((0 : Int) <= x) = true := by simp; omega
 have hd1 : decide (x < (128 : Int)) = false := by simp; omega
 have hd2 : decide ((95 : Int) = b.toNat) = false := by simp; omega
 have e295 : ∀ args w,(callFunc 295 args).run Tryz.prog w = .ok (.enter 295 args) w := enters_of Tryz.func295 Kr rfl;have e294 : ∀ args w,(callFunc 294 args).run Tryz.prog w = .ok (.enter 294 args) w := enters_of Tryz.func294 Kr rfl;have mixed : Tryz.prog.follows .mixedOrders = true := Kr;have hsz : Fe.size = 4 := rfl
 have hne : (((Fe[1]'(by decide)).toNat : Int) != (((⟨#[a,b]⟩ : ByteArray)[1]'(by show 1 < 2; omega)).toNat : Int)) = true := by
  show (((95 : Nat) : Int) != ((b.toNat : Nat) : Int)) = true
  simp; omega
 have hix : Lib.indexByte (Fe.extract 2 4).data.toList ((((⟨#[a,b]⟩ : ByteArray)[1]'(by show 1 < 2; omega)).toNat : Int)).toNat.toUInt8 = -1 := by
  show Lib.indexByte [46,63] (b.toNat : Int).toNat.toUInt8 = -1
  rw [fl_,show b.toNat.toUInt8 = b from UInt8.ofNat_toNat]
  exact Ak9 hb (by decide)
 have hI : ∀ w,Calls Tryz.prog 294 #[.string (Fe.extract 2 4),.int .u8 (((⟨#[a,b]⟩ : ByteArray)[1]'(by show 1 < 2; omega)).toNat : Int)] w fun e w' => e = .returned (.int .i64 (-1)) /\ w' = w := fun w => by
  have := Ajg (Fe.extract 2 4) (((⟨#[a,b]⟩ : ByteArray)[1]'(by show 1 < 2; omega)).toNat : Int) w
  rwa [hix] at this
 clear hix
 have hwr : IntKind.i64.wrap 2 = 2 := by decide
 have kc : ∀ (w : World),(convert 21 9 (.int .i32 x)).run Tryz.prog w = .ok (.string ⟨#[a,b]⟩) w := fun w => by rw [← he]; exact run_convert_int_string (P := Tryz.prog) w 21 9 .i32 x (by rw [Tryz.underlying21]; rfl) Tryz.underlying9
 go_enter Tryz.func292,Tryz.ntmps292
 go_wp2_with (first | (go_at_fn 295; refine (Tryz.utf8_ValidRune _ _).mono ?_; rintro e w' ⟨rfl,hw⟩; rw [hw,h1]) | (go_at_fn 294; refine (Any.strings_IndexByte { Tryz.lays151 with } _ _ _).mono ?_; rintro e w' ⟨rfl,hw⟩; rw [hw]))
 refine wp_scope_straight ?_
 go_wp2
 go_loopg [9] 1 (fun gf s9 wx => s9 = .int .i64 1 /\ wx = w)
 case atStart => exact ⟨rfl,rfl⟩
 case round =>
  obtain ⟨rfl,rfl⟩ := hrel
  go_wp2
  refine wp_scope_straight ?_
  go_wp2
  go_quiet (fail)
  go_wp2
  go_quiet ((refine (hI _).mono fun e w'' h => ⟨h.1,_,h.2⟩))
  go_wp2
  simp only [Exit.noGoto,Exit.inBlock,Exit.then]
  go_ret
  exact ⟨rfl,below_drewNg _ _⟩
set_option maxRecDepth 1000000 in
theorem Am1 (x : Int) (a b d : UInt8) (he : Utf8.encode x = ⟨#[a,b,d]⟩) (hb : 128 <= d.toNat) (h0 : 128 <= x) (h1 : Lib.validRune x = true) (h2 : x ≠ 65533) (w : World) : Calls Tryz.prog 292 #[.string Fe,.int .i32 x] w fun e w' => e = .returned (.int .i64 (-1)) /\ Go.RowKit.Below w.heap.size w w' := by
 have hd0 : decide ((0 : Int) <= x) = true := by simp; omega
 have hd1 : decide (x < (128 : Int)) = false := by simp; omega
 have hd2 : decide ((46 : Int) = d.toNat) = false := by simp; omega
 have e295 : ∀ args w,(callFunc 295 args).run Tryz.prog w = .ok (.enter 295 args) w := enters_of Tryz.func295 Kr rfl;have e294 : ∀ args w,(callFunc 294 args).run Tryz.prog w = .ok (.enter 294 args) w := enters_of Tryz.func294 Kr rfl;have mixed : Tryz.prog.follows .mixedOrders = true := Kr;have hsz : Fe.size = 4 := rfl
 have hne : (((Fe[2]'(by decide)).toNat : Int) != (((⟨#[a,b,d]⟩ : ByteArray)[2]'(by show 2 < 3; omega)).toNat : Int)) = true := by
  show (((46 : Nat) : Int) != ((d.toNat : Nat) : Int)) = true
  simp; omega
 have hix : Lib.indexByte (Fe.extract 3 4).data.toList ((((⟨#[a,b,d]⟩ : ByteArray)[2]'(by show 2 < 3; omega)).toNat : Int)).toNat.toUInt8 = -1 := by
  show Lib.indexByte [63] (d.toNat : Int).toNat.toUInt8 = -1
  rw [fl_,show d.toNat.toUInt8 = d from UInt8.ofNat_toNat]
  exact Ak9 hb (by decide)
 have hI : ∀ w,Calls Tryz.prog 294 #[.string (Fe.extract 3 4),.int .u8 (((⟨#[a,b,d]⟩ : ByteArray)[2]'(by show 2 < 3; omega)).toNat : Int)] w fun e w' => e = .returned (.int .i64 (-1)) /\ w' = w := fun w => by
  have := Ajg (Fe.extract 3 4) (((⟨#[a,b,d]⟩ : ByteArray)[2]'(by show 2 < 3; omega)).toNat : Int) w
  rwa [hix] at this
 clear hix
 have hwr : IntKind.i64.wrap 3 = 3 := by decide
 have kc : ∀ (w : World),(convert 21 9 (.int .i32 x)).run Tryz.prog w = .ok (.string ⟨#[a,b,d]⟩) w := fun w => by rw [← he]; exact run_convert_int_string (P := Tryz.prog) w 21 9 .i32 x (by rw [Tryz.underlying21]; rfl) Tryz.underlying9
 go_enter Tryz.func292,Tryz.ntmps292
 go_wp2_with (first | (go_at_fn 295; refine (Tryz.utf8_ValidRune _ _).mono ?_; rintro e w' ⟨rfl,hw⟩; rw [hw,h1]) | (go_at_fn 294; refine (Any.strings_IndexByte { Tryz.lays151 with } _ _ _).mono ?_; rintro e w' ⟨rfl,hw⟩; rw [hw]))
 refine wp_scope_straight ?_
 go_wp2
 go_loopg [9] 1 (fun gf s9 wx => s9 = .int .i64 2 /\ wx = w)
 case atStart => exact ⟨rfl,rfl⟩
 case round =>
  obtain ⟨rfl,rfl⟩ := hrel
  go_wp2
  refine wp_scope_straight ?_
  go_wp2
  go_quiet (fail)
  go_wp2
  go_quiet ((refine (hI _).mono fun e w'' h => ⟨h.1,_,h.2⟩))
  go_wp2
  simp only [Exit.noGoto,Exit.inBlock,Exit.then]
  go_ret
  exact ⟨rfl,below_drewNg _ _⟩
set_option maxRecDepth 1000000 in
theorem Am2 (x : Int) (a b d e : UInt8) (he : Utf8.encode x = ⟨#[a,b,d,e]⟩) (hb : 128 <= e.toNat) (h0 : 128 <= x) (h1 : Lib.validRune x = true) (h2 : x ≠ 65533) (w : World) : Calls Tryz.prog 292 #[.string Fe,.int .i32 x] w fun e w' => e = .returned (.int .i64 (-1)) /\ Go.RowKit.Below w.heap.size w w' := by
 have hd0 : decide ((0 : Int) <= x) = true := by simp; omega
 have hd1 : decide (x < (128 : Int)) = false := by simp; omega
 have hd2 : decide ((63 : Int) = e.toNat) = false := by simp; omega
 have e295 : ∀ args w,(callFunc 295 args).run Tryz.prog w = .ok (.enter 295 args) w := enters_of Tryz.func295 Kr rfl;have e294 : ∀ args w,(callFunc 294 args).run Tryz.prog w = .ok (.enter 294 args) w := enters_of Tryz.func294 Kr rfl;have mixed : Tryz.prog.follows .mixedOrders = true := Kr;have hsz : Fe.size = 4 := rfl
 have hne : (((Fe[3]'(by decide)).toNat : Int) != (((⟨#[a,b,d,e]⟩ : ByteArray)[3]'(by show 3 < 4; omega)).toNat : Int)) = true := by
  show (((63 : Nat) : Int) != ((e.toNat : Nat) : Int)) = true
  simp; omega
 have hix : Lib.indexByte (Fe.extract 4 4).data.toList ((((⟨#[a,b,d,e]⟩ : ByteArray)[3]'(by show 3 < 4; omega)).toNat : Int)).toNat.toUInt8 = -1 := by
  show Lib.indexByte ([] : List UInt8) (e.toNat : Int).toNat.toUInt8 = -1
  rw [fl_,show e.toNat.toUInt8 = e from UInt8.ofNat_toNat]
  exact Ak9 hb (by decide)
 have hI : ∀ w,Calls Tryz.prog 294 #[.string (Fe.extract 4 4),.int .u8 (((⟨#[a,b,d,e]⟩ : ByteArray)[3]'(by show 3 < 4; omega)).toNat : Int)] w fun e w' => e = .returned (.int .i64 (-1)) /\ w' = w := fun w => by
  have := Ajg (Fe.extract 4 4) (((⟨#[a,b,d,e]⟩ : ByteArray)[3]'(by show 3 < 4; omega)).toNat : Int) w
  rwa [hix] at this
 clear hix
 have hwr : IntKind.i64.wrap 4 = 4 := by decide
 have kc : ∀ (w : World),(convert 21 9 (.int .i32 x)).run Tryz.prog w = .ok (.string ⟨#[a,b,d,e]⟩) w := fun w => by rw [← he]; exact run_convert_int_string (P := Tryz.prog) w 21 9 .i32 x (by rw [Tryz.underlying21]; rfl) Tryz.underlying9
 go_enter Tryz.func292,Tryz.ntmps292
 go_wp2_with (first | (go_at_fn 295; refine (Tryz.utf8_ValidRune _ _).mono ?_; rintro e w' ⟨rfl,hw⟩; rw [hw,h1]) | (go_at_fn 294; refine (Any.strings_IndexByte { Tryz.lays151 with } _ _ _).mono ?_; rintro e w' ⟨rfl,hw⟩; rw [hw]))
 refine wp_scope_straight ?_
 go_wp2
 go_loopg [9] 1 (fun gf s9 wx => s9 = .int .i64 3 /\ wx = w)
 case atStart => exact ⟨rfl,rfl⟩
 case round =>
  obtain ⟨rfl,rfl⟩ := hrel
  go_wp2
  refine wp_scope_straight ?_
  go_wp2
  go_quiet (fail)
  go_wp2
  go_quiet ((refine (hI _).mono fun e w'' h => ⟨h.1,_,h.2⟩))
  go_wp2
  simp only [Exit.noGoto,Exit.inBlock,Exit.then]
  go_ret
  exact ⟨rfl,below_drewNg _ _⟩
theorem Are (x : Int) (h0 : 128 <= x) (w : World) : Calls Tryz.prog 292 #[.string Fe,.int .i32 x] w fun e w' => e = .returned (.int .i64 (-1)) /\ Go.RowKit.Below w.heap.size w w' := by
 by_cases h2 : x = 65533
 ·subst h2; exact Ao3 w
 ·cases h1 : Lib.validRune x with
  | false => exact (Ao4 x h0 h1 h2 w).mono fun e w' h => ⟨h.1,h.2 ▸ Go.RowKit.Below.refl _ _⟩
  | true =>
   rcases Amz x h0 with ⟨a,b,he,hb⟩ | ⟨a,b,d,he,hb⟩ | ⟨a,b,d,e,he,hb⟩
   ·exact Am0 x a b he hb h0 h1 h2 w
   ·exact Am1 x a b d he hb h0 h1 h2 w
   ·exact Am2 x a b d e he hb h0 h1 h2 w
def Ac7 (x : Int) : Bool := decide (x = 45) || decide (x = 95) || decide (x = 46) || decide (x = 63)
theorem Atg (x : Nat) (h : x < 128) : decide ((0 : Int) <= Lib.indexByte Fe.data.toList x.toUInt8) = Ac7 x := by
 have : ∀ x : Fin 128,decide ((0 : Int) <= Lib.indexByte Fe.data.toList x.val.toUInt8) = Ac7 x.val := by decide
 exact this ⟨x,h⟩
set_option maxRecDepth 1000000 in
theorem Arf (x : Nat) (w : World) : Calls Tryz.prog 290 #[.string Fe,.int .i32 x] w fun e w' => e = .returned (.bool (Ac7 x)) /\ Go.RowKit.Below w.heap.size w w' := by
 by_cases h : x < 128
 ·have := Tryz.strings_ContainsRune_ascii Fe (x : Int) w Om Om;rw [fl_,Atg x h] at this;exact this.mono fun e w' h => ⟨h.1,h.2 ▸ Go.RowKit.Below.refl _ _⟩
 ·have e292 : ∀ args w,(callFunc 292 args).run Tryz.prog w = .ok (.enter 292 args) w := enters_of Tryz.func292 Kr rfl
  have hi : Ac7 x = false := by simp [Ac7]; omega
  rw [hi]
  go_enter Tryz.func290,Tryz.ntmps290
  go_wp2_with (go_at_fn 292; refine (Are (x : Int) Om _).mono ?_; rintro e w' ⟨rfl,hw⟩)
  go_ret
  exact ⟨rfl,hw⟩
def prC (n : Int) : Bool := (((decide ((97 : Int) <= n) && decide (n <= 122)) || (decide ((65 : Int) <= n) && decide (n <= 90))) || (decide ((48 : Int) <= n) && decide (n <= 57))) || Ac7 n
end
section
open Go Go.Proofs Go.RowKit
set_option maxRecDepth 1000000 in
theorem g289 (x : Nat) (w : World) : Calls Tryz.prog 289 #[.int .i32 x] w fun e w' => e = .returned (.bool (!prC x)) /\ Go.RowKit.Below w.heap.size w w' := by
  have e290 : ∀ args w,(callFunc 290 args).run Tryz.prog w = .ok (.enter 290 args) w := enters_of Tryz.func290 Kr rfl;obtain ⟨X,hX⟩ : ∃ X : Int,(x : Int) = X := ⟨_,rfl⟩;have hR := Arf x;rw [hX] at hR ⊢;unfold prC;cases h1 : decide ((97 : Int) <= X) <;> cases h2 : decide (X <= 122) <;> cases h3 : decide ((65 : Int) <= X) <;> cases h4 : decide (X <= 90) <;> cases h5 : decide ((48 : Int) <= X) <;> cases h6 : decide (X <= 57) <;>
  (go_enter Tryz.func289,Tryz.ntmps289
   go_wp2_with (go_at_fn 290; refine (hR _).mono ?_; rintro e w' ⟨rfl,hw⟩)
   go_ret
   first | exact ⟨rfl,Go.RowKit.Below.refl _ _⟩ | exact ⟨rfl,hw⟩)
theorem Agz {f : Nat} {args : List AV} {U : Sto} {b : Bool} (he : Q3 Ew.P f) (h : ∀ C w (vs : Array Value),RL C (nx U) w args vs.toList -> Calls Ew.P f vs w (fun e w' => e = .returned (.bool b) /\ Go.RowKit.Below w.heap.size w w')) : Ao Ew f args U fun u τ => u = .bool b /\ τ = U := by
 intro C w vs hs hg ha;refine ⟨he,(h C w vs ha).mono fun e w' hq => ?_⟩
 obtain ⟨rfl,hb⟩ := hq;obtain ⟨k1,k2⟩ := hs.same hb.size hb.block ⟨hb.os,hb.output⟩
 exact ⟨.bool b,U,C,⟨rfl,rfl⟩,k1,k2,by unfold R; rfl⟩
def prS (s : Str) : Bool := decide (0 <= Lib.idxFunc (fun x => !prC x) true ⟨⟨s⟩⟩)
theorem Ath {C : Ctx} {N : Nat} {w : World} {k : Nat} {x : Value} (h : R C N w (.fn (.func k) [] []) x) : x = .func (.func k) #[] #[] := by
 unfold R at h;obtain ⟨a,b,rfl,h1,h2⟩ := h
 have e : ∀ a : Array Value,RL C N w [] a.toList -> a = #[] := fun a h => by
  obtain ⟨l⟩ := a;cases l with
  | nil => rfl
  | cons x r => unfold RL at h; exact h.elim
 rw [e a h1,e b h2]
theorem f288 (s : Str) (U : Sto) : Cv 288 [sV s,.fn (.func 289) [] []] U (.bool (prS s)) := by
 refine Agz ⟨_,Tryz.func288,rfl,rfl⟩ fun C w vs ha => ?_
 obtain ⟨x,y,rfl,hx,hy⟩ := Ajb ha;obtain ⟨a,rfl,rfl⟩ := Agu hx;rw [Ath hy];have e289 : ∀ args w,(callFunc 289 args).run Tryz.prog w = .ok (.enter 289 args) w := enters_of Tryz.func289 Kr rfl;exact Any.strings_ContainsFunc_grows Tryz.laysGw17 289 #[] e289 (fun x => !prC x) a w fun W x _ _ => g289 x W
def Ea (s : Str) : Bool := (decide (s = [40]) || decide (s = [41])) || (!decide (s = []) && !prS s)
end
abbrev e1 (s : Str) : List AV := [sV s]
def Ng (s : Str) : List Str := [[120],[36,112],[120],[36,61],s,[36,46]]
def Aev (s : Str) : Stm := ⟨7,[120],[[120]],[s]⟩
theorem Ke {N : Nat} (s : Str) : AV.unds N (e1 s) = true := rfl
theorem f285 (s : Str) (U : Sto) : Cv 285 [sV s] U (.bool (Ea s)) := by
 refine An Tryz.func285 rfl rfl fun hw hu0 => ?_
 refine G8 ?_;refine O1 (Ud (q := [40]) okC rfl rfl) ?_;refine G ?_;refine TOr 2 ?_ (fun hg => ?_) ?_
 rotate_left
 ·refine Gn hg ?_;refine On hg (Ud (q := [41]) okC rfl rfl) ?_;exact Ez
 refine G ?_;refine Ab rfl ?_ ?_ <;> intro h1
 ·refine G5 ?_;refine Bb hw rfl ?_
  exact congrArg AV.bool (by unfold Ea; rw [show (decide (s = [40]) || decide (s = [41])) = true from h1]; rfl)
 ·refine G4 ?_;refine O1 (Ey (q := []) okC rfl rfl) ?_;refine G ?_;refine TAn 3 ?_ (fun hg => ?_) ?_
  rotate_left
  ·refine Gn hg ?_
   refine Bh rfl rfl rfl (by rw [hg]; rfl) rfl rfl rfl rfl (f288 s _) ?_
   refine Gn hg ?_;exact Ez
  refine G3 ?_;refine Bb hw rfl ?_
  exact congrArg AV.bool (by unfold Ea; rw [show (decide (s = [40]) || decide (s = [41])) = false from h1]; rfl)
theorem f270 (s : Str) (U : Sto) : Cv 270 [.agg (stX s)] U (Aq (Ng s)) := by
 refine An Tryz.func270 rfl rfl fun hw hu0 => ?_
 refine G9 ?_
 refine O1 (Cl Asb rfl rfl (by decide) (n := 7) rfl) ?_
 iterate 13 refine G ?_
 refine Ab rfl ?_ ?_ <;> intro h1
 ·obtain ⟨v1,τ1,ha1,ho1,hb1,_⟩ := ea_ (by' := 16) (enc := e1) (fun _ => rfl) (Nat.le_refl (nx U)) (Own.nil (sz := 1)) [[120]] (by simp [sizeLim])
  have hB1 := hb1
  obtain ⟨v2,τ2,ha2,ho2,hb2,_⟩ := ea_ (by' := 16) (enc := e1) (fun _ => rfl) hB1.1 ho1 [[36,112]] (by simp [sizeLim])
  have hB2 := hB1.trans hb2
  obtain ⟨v3,τ3,ha3,ho3,hb3,_⟩ := ea_ (by' := 16) (enc := e1) (fun _ => rfl) hB2.1 ho2 [[120]] (by simp [sizeLim])
  have hB3 := hB2.trans hb3
  obtain ⟨v4,τ4,ha4,ho4,hb4,_⟩ := ea_ (by' := 16) (enc := e1) (fun _ => rfl) hB3.1 ho3 [[36,61]] (by simp [sizeLim])
  have hB4 := hB3.trans hb4
  obtain ⟨v5,τ5,ha5,ho5,hb5,_⟩ := ea_ (by' := 16) (enc := e1) (fun _ => rfl) hB4.1 ho4 [s] (by simp [sizeLim])
  have hB5 := hB4.trans hb5
  obtain ⟨v6,τ6,ha6,ho6,hb6,_⟩ := ea_ (by' := 16) (enc := e1) (fun _ => rfl) hB5.1 ho5 [[36,46]] (by simp [sizeLim])
  have hB6 := hB5.trans hb6;refine G4 ?_;refine C1 (As elC byW rfl rfl rfl) (D6 (len := 1)) rfl rfl (O1 (A3 elC rfl slC rfl rfl rfl (new := e1 [120]) rfl ha1) ?_);refine G3 ?_;refine Rc (Rr := Dl []) (anns := [⟨.pure,0,0⟩,⟨.pure,0,0⟩,⟨.read,0,0⟩,⟨.pure,0,0⟩,⟨.eff,0,1⟩,⟨.pure,0,1⟩,⟨.read,0,1⟩,⟨.eff,1,2⟩,⟨.pure,2,2⟩]) E8 (Da trivial) Kr ?_;refine G3 ?_;refine DF (As elC byW rfl rfl rfl) (DT (A3 elC rfl slC rfl rfl rfl (new := e1 [36,112]) rfl ha2) ?_);refine G2 ?_;refine DT (A3 elC rfl slC rfl rfl rfl (new := [[120]].flatMap e1) (Vl (enc := e1) (sz := 1) (fun _ => rfl) _ _) ha3) ?_
  refine G2 ?_;refine ⟨⟨trivial,trivial,fun τ _ => ⟨τ,Ad (ldC (t := 9)) rfl rfl rfl⟩,trivial,trivial,trivial,fun τ _ => ⟨τ,Ad (ldC (t := 22)) rfl rfl rfl⟩,trivial,trivial,trivial⟩,?_⟩
  refine G7 ?_;refine Ab rfl ?_ ?_ <;> intro h2
  ·refine Rc (Rr := Dl []) (anns := [⟨.pure,0,0⟩,⟨.pure,0,0⟩,⟨.eff,0,1⟩,⟨.pure,0,1⟩,⟨.read,0,1⟩,⟨.eff,1,2⟩,⟨.pure,2,2⟩]) E8 (Da trivial) Kr ?_;refine G ?_;refine DF (As elC byW rfl rfl rfl) (DT (A3 elC rfl slC rfl rfl rfl (new := e1 [36,61]) rfl ha4) ?_);refine G2 ?_;refine DT (A3 elC rfl slC rfl rfl rfl (new := [s].flatMap e1) (Vl (enc := e1) (sz := 1) (fun _ => rfl) _ _) ha5) ?_
   refine G2 ?_;refine ⟨⟨trivial,trivial,trivial,trivial,fun τ _ => ⟨τ,Ad (ldC (t := 22)) rfl rfl rfl⟩,trivial,trivial,trivial⟩,?_⟩
   refine G7 ?_;refine Ab rfl ?_ ?_ <;> intro h3
   ·refine G2 ?_;refine C1 (As elC byW rfl rfl rfl) (D6 (len := 1)) rfl rfl (O1 (A3 elC rfl slC rfl rfl rfl (new := e1 [36,46]) rfl ha6) ?_);refine G8 ?_;exact ⟨_,rfl,Aq (Ng s),U,as_ hw hB6,nl,ho6.fz (fun _ => rfl) (fun a ha => hw.none ha) (Bi Ke _),rfl,rfl⟩
   ·exact absurd h3 (by decide)
  ·exact absurd h2 (by decide)
 ·exact absurd h1 (by decide)
def outX (s : Str) : Nat -> List Str
 | 0 => []
 | _ + 1 => Ng s
def Ati (s : Str) (b : Bool) : AV := if b = true then Aq (Ng s) else .nil (.slice none 0 0)
theorem f244 (s : Str) (U : Sto) : Cv 244 [slV eSt 4 [Aev s]] U (.tup [Ati s (Ea s),iV (if Ea s = true then 0 else 2)]) := by
 refine An Tryz.func244 rfl rfl fun hw hu0 => ?_
 refine G12 ?_;refine Ab rfl ?_ ?_ <;> intro h1
 ·exact absurd h1 (by simp)
 ·refine G5 ?_
  refine Ag rfl rfl rfl rfl (f267 (fun _ => !Ea s) [Aev s] 268 [] U (by simp) (fun a ha => by simp at ha; subst ha; exact f268 s (Ea s) U (f285 s U))) ?_
  refine G ?_;refine Ab rfl ?_ ?_ <;> intro h2
  ·refine G6 ?_;refine Bb hw rfl ?_
   exact (by rw [show Ea s = false from by simpa using h2]; rfl)
  ·iterate 13 refine G ?_
   refine B3 (fun q : Nat × AV => [(4,q.2),(12,slV eSt 4 [Aev s]),(13,iV (.ofNat [Aev s].length)),(14,iV (.ofNat q.1))]) (fun q U0 => q.1 <= [Aev s].length /\ Own U0 (nx U) e1 1 (outX s q.1) q.2 /\ Below (nx U) U U0) (fun q => [Aev s].length - q.1) (0,.nil (.slice none 0 0)) SL ⟨bh_ _,.nil,.rfl'⟩ ?_
   rintro ⟨i0,v0⟩ U0 hP0;obtain ⟨hi0,c9,cp⟩ : i0 <= [Aev s].length /\ Own U0 (nx U) e1 1 (outX s i0) v0 /\ Below (nx U) U U0 := hP0;refine G5 ?_;refine Ab rfl ?_ ?_ <;> intro h3
   ·have h3n := of_decide_eq_true h3
    have jm : i0 = 0 := by simp at h3n; omega
    subst jm
    have bc : 0 < 1 := by omega
    have ha0 : [Aev s][0]? = some (Aev s) := rfl
    obtain ⟨v1,τ1,ha1,ho1,hb1,_⟩ := ea_ (by' := 16) (enc := e1) (fun _ => rfl) cp.1 c9 (Ng s) (by simp [sizeLim,outX,Ng])
    iterate 13 refine G ?_
    refine Ag rfl rfl rfl rfl (f270 s _) (O1 (A3 elC rfl slC rfl rfl rfl (new := (Ng s).flatMap e1) (Vl (enc := e1) (sz := 1) (fun _ => rfl) _ _) ha1) ?_)
    refine G5 ?_;refine O1 (B0 slC rfl ho1.lenA.1 ho1.lenA.2) ?_;refine G2 ?_;refine Ab rfl ?_ ?_ <;> intro h4
    ·exact absurd h4 (by simp [outX,Ng])
    ·refine G5 ?_
     refine ⟨(0 + 1,v1),by show 1 - 1 < 1 - 0; omega,SL,bc,ho1,cp.trans hb1⟩
   ·have h3n := of_decide_eq_false h3
    have pz : i0 = 1 := by have : i0 <= 1 := hi0; simp at h3n; omega
    subst pz;refine G7 ?_
    have hp : Ea s = true := by simpa using h2
    refine G ?_
    exact ⟨_,rfl,.tup [Aq (Ng s),iV 0],U,as_ hw cp,nl,.tup (.cons (c9.fz (fun _ => rfl) (fun a ha => hw.none ha) (Bi Ke _)) (.cons (.same rfl) .nil)),by rw [hp]; rfl,rfl⟩
theorem f215 (s : Str) (U : Sto) : Cv 215 [sV s] U (.bool (Ea s)) := by
 refine An Tryz.func215 rfl rfl fun hw hu0 => ?_
 refine G6 ?_;refine C1 (As elC byW rfl rfl rfl) (D6 (len := 1)) rfl rfl ?_;refine G ?_;refine C1 (As elC byW rfl rfl rfl) (D6 (len := 1)) rfl rfl ?_;refine G ?_;refine C1 (As elC byW rfl rfl rfl) (D6 (len := 1)) rfl rfl (Ag rfl rfl rfl rfl (f244 s _) ?_)
 iterate 13 refine G ?_
 refine Bb hw rfl ?_
 exact (by cases Ea s <;> rfl)
theorem f214 (s : Str) (U : Sto) : Cv 214 [sV s] U (.bool (!Ea s)) := by
 refine An Tryz.func214 rfl rfl fun hw hu0 => ?_
 refine G7 ?_;refine Ag rfl rfl rfl rfl (f215 s _) ?_;refine G4 ?_;refine Bb hw rfl ?_;exact rfl
theorem K8 {J : Ae} {U : Sto} {Rr : Rec} {t r sz : Nat} {x y : Operand} {agg : Bool} {z : AV} {α : Type} {enc : α -> AV} {m : SM α} {s : Str} {v : α} (h9 : Dy Ew.P 9 = true) (hi : mpI Ew.P t = some (9,z,sz,agg)) (hx : Ak Ew J x = some (.mp r)) (hm : Bf enc U r m) (hy : Ak Ew J y = some (sV s)) (hg : m.get s = some v) :
  A0 Ew Rr (.lookup t x y false) J U (enc v) U := by
 have := Aiu (Rr := Rr) h9 hi hx hm hy
 rwa [hg] at this
theorem Ag0 {J : Ae} {U : Sto} {Rr : Rec} {t r sz : Nat} {x y : Operand} {agg : Bool} {z : AV} {α : Type} {enc : α -> AV} {m : SM α} {s : Str} (h9 : Dy Ew.P 9 = true) (hi : mpI Ew.P t = some (9,z,sz,agg)) (hx : Ak Ew J x = some (.mp r)) (hm : Bf enc U r m) (hy : Ak Ew J y = some (sV s)) (hg : m.get s = none) :
  A0 Ew Rr (.lookup t x y false) J U z U := by
 have := Aiu (Rr := Rr) h9 hi hx hm hy
 rwa [hg] at this
theorem Ao5 {J : Ae} {U : Sto} {Rr : Rec} {x : Operand} {hi : Option Operand} {l : List Hp} {n : Nat} (hx : Ak Ew J x = some (slV eH 3 l)) (h2 : Gp Ew J hi = some (some (iV (.ofNat n)))) (hn : n <= l.length) :
  A0 Ew Rr (.slice 75 x none hi none) J U (slV eH 3 (l.take n)) U := by
 have hb : Ci l.length none none (some (iV (.ofNat n))) none = some (0,n,none) := by
  have h3 : Nat.ble n l.length = true := ap_ hn;have h4 : Nat.ble 0 n = true := rfl;simp only [Ci,iV,Ik,h3,h4,Lf,cond_true,cl_,Il]
 have := Air (Rr := Rr) (U := U) (lo := none) (hi := hi) (mx := none) (elC (t := 75)) O3 hx rfl h2 rfl hb (bh_ _) hn;rw [du_,ed_] at this
 rwa [show slV eH 3 (l.take n) = .sv ((l.take n).flatMap eH) 3 n none by unfold slV; rw [bn_,gw_ hn]]
theorem Ag1 : ∀ {l m : List Str},l.flatMap (fun s => [sV s]) = m.flatMap (fun s => [sV s]) -> l = m
 | [],[],_ => rfl
 | [],_ :: _,h => by simp at h
 | _ :: _,[],h => by simp at h
 | a :: l,b :: m,h => by
  simp only [ca_,az_,bg_,cq_] at h
  have h1 : a = b := by have := h.1; unfold sV at this; injection this with this; exact Fb.1 this
  rw [h1,Ag1 h.2]
theorem Ao6 : ∀ {l m : List Hp},l.flatMap eH = m.flatMap eH -> l = m
 | [],[],_ => rfl
 | [],b :: _,h => by simp [eH] at h
 | a :: _,[],h => by simp [eH] at h
 | a :: l,b :: m,h => by
  simp only [ca_,eH,az_,bg_,cq_] at h;obtain ⟨h1,h2,h3,h4⟩ := h
  have e1 : a.label = b.label := by unfold sV at h1; injection h1 with h1; exact Fb.1 h1
  have e2 : a.floating = b.floating := by injection h2
  have e3 : a.text = b.text := by simp only [Aq,slV,AV.sv.injEq] at h3; exact Ag1 h3.1
  rw [Ao6 h4];cases a; cases b; simp only at e1 e2 e3; subst e1 e2 e3; rfl
theorem Arg {l m : List Hp} (h : slV eH 3 l = slV eH 3 m) : l = m := by unfold slV at h; injection h with h; exact Ao6 h
theorem Ao7 {f : Nat} {a a' : List AV} {s : Sto} {v v' : AV} {r : List (Nat × List AV × Sto × AV × Sto)} (h : a' = a -> v = v') : Dl ((f,a,s,v,s) :: (f,a',s,v',s) :: r) f a' s = some (v',s) := by
 by_cases e : a' = a
 ·unfold Dl; rw [if_pos ⟨rfl,e,rfl⟩,h e]
 ·unfold Dl; rw [if_neg (fun hh => e hh.2.1)]; unfold Dl; rw [if_pos ⟨rfl,rfl,rfl⟩]
def Nh (d : Db) : AV := .tup [slV eH 3 ((Eo d).getD []),.bool (Eo d).isSome]
theorem O5 {d : Db} (hne : d.frames.length ≠ 0) (h : Nf d d.frames 0 ([],[]) = none) : Eo d = none := by unfold Eo; rw [if_neg hne,h]
theorem Ac8 {α : Type} {f : α -> Bool} : ∀ {l : List α} {p : α × List α},p ∈ Fu l -> l.all f = (f p.1 && p.2.all f)
 | [],p,h => by simp [Fu] at h
 | x :: m,p,h => by
  simp only [Fu,aq_,cr_] at h
  rcases h with rfl | ⟨q,hq,rfl⟩
  ·rfl
  ·simp only [dy_,Ac8 hq];cases f x <;> cases f q.1 <;> rfl
theorem X3 {l : List Hp} {h : Hp} (hm : h ∈ flo l) : h ∈ l /\ h.floating = true := by
 have := eg_.1 hm
 exact ⟨this.1,by have h2 := this.2; simpa [Tk] using h2⟩
theorem f185 (h : Hp) (U : Sto) : Cv 185 [.agg (eH h)] U (.bool h.floating) := by
 refine An Tryz.func185 rfl rfl fun hw hu0 => ?_
 refine G12 ?_;refine Bb hw rfl ?_;exact rfl
theorem f153 (d : Db) (U : Sto) (hB : DbB d) (hfl : ∀ f ∈ d.frames,∀ h ∈ f.all,h.floating = true -> ∃ a b,h.text = [a,b]) (jp : d.frames.length ≠ 0 -> ∀ s,Nf d d.frames 0 ([],[]) = some s -> ∀ v ∈ d.vars,(s.1.get v).isSome = true) : Cv 153 [dbV d] U (Nh d) := by
 refine An Tryz.func153 rfl rfl fun hw hu0 => ?_
 refine G6 ?_;refine Aki ?_;refine G8 ?_;refine Ab rfl ?_ ?_ <;> intro h1
 ·refine G ?_;refine X0 ?_;refine G7 ?_;refine ⟨rfl,rfl,?_⟩
  have hfz : d.frames.length = 0 := by simpa using h1
  have e : Nh d = .tup [slV eH 3 [],.bool (decide (Int.ofNat d.vars.length = 0))] := by
   unfold Nh Eo; rw [if_pos hfz]
   by_cases hv : d.vars.length = 0
   ·rw [if_pos hv,hv]; rfl
   ·rw [if_neg hv,decide_eq_false (by simpa using hv)]; rfl
  refine G ?_
  exact ⟨_,rfl,Nh d,U,ag_ hw nl (fun _ _ => rfl),nl,by rw [e]; exact .tup (.cons Dr (.cons (.same rfl) .nil)),rfl,rfl⟩
 ·refine G3 ?_;refine O1 (Bp (n := nx U) O0 rfl) ?_;refine G4 ?_;refine O1 (Bp (n := nx U + 1) Ac1 (nx1 rfl)) ?_;refine G10 ?_;have hbn := hB.n;have hbv := hB.v
  have hne : d.frames.length ≠ 0 := by simpa using h1
  have db : ∃ s,Nn U ((U.new (.map 9 [] 0)).new (.map 9 [] 0)) s /\ Nf d d.frames 0 ([],[]) = Nf d (d.frames.drop 0) 0 s := by
   refine ⟨([],[]),⟨by simp only [Af]; omega,fun b hb => by rw [ab_,if_neg (by rw [Af]; omega),ab_,if_neg Om],⟨0,by rw [ab_,if_neg (by rw [Af]; omega),ab_,if_pos rfl]; rfl⟩,⟨[],⟨⟨0,by rw [ab_,if_pos (by rw [Af])]; rfl⟩,fun _ => rfl,fun _ _ _ h => (by cases h),fun _ _ h => (by cases h),fun _ _ _ h => (by cases h)⟩⟩,fun _ => rfl⟩,rfl⟩
  refine G ?_;refine Bq d.frames.length (fun i0 => [(1,.pv [Aq d.consts,Aq d.vars,slV eF 8 d.frames]),(4,.mp (nx U)),(5,.mp (nx U + 1)),(34,slV eF 8 d.frames),(35,iV (.ofNat d.frames.length)),(36,iV (.ofNat i0))]) (fun i0 U0 => ∃ s,Nn U U0 s /\ Nf d d.frames 0 ([],[]) = Nf d (d.frames.drop i0) i0 s) SL db ?_
  rintro i0 U0 hi0 ⟨s0,hO0,hf0⟩;refine G5 ?_;refine Ab rfl ?_ ?_ <;> intro h2
  ·have bc : i0 < d.frames.length := by simpa using h2
   obtain ⟨a0,ha0⟩ := A6 bc;have hd0 := Ay ha0;have hFa := hB.f a0 (ae_ ha0);have bi := hFa.a
   have hdl : a0.dummies.length < 1000000 := by have := hFa.a; simp [Fr.all] at this; omega
   have hhl := hFa.h;have hs1 := Hb (p := Tk) (l := a0.hyps);have hs2 := Hb (p := Tk) (l := a0.dummies);have hs1' : (flo a0.hyps).length <= a0.hyps.length := hs1;have hs2' : (flo a0.dummies).length <= a0.dummies.length := hs2;refine G8 ?_;refine M5 ziC ldC rfl rfl (fun _ => rfl) rfl (fun _ => rfl) rfl rfl rfl rfl rfl ?_
   refine G2 ?_;refine XI (l := [(184,[slV eH 3 a0.hyps],U0,slV eH 3 (flo a0.hyps),U0),(184,[slV eH 3 a0.dummies],U0,slV eH 3 (flo a0.dummies),U0)]) ⟨f184 a0.hyps U0 hFa.h,f184 a0.dummies U0 hdl,trivial⟩ ?_;refine G5 ?_
   refine DT (Bg rfl rfl (Ao7 (fun e => by have := Arg (List.cons.inj e).1; rw [this]))) ?_
   refine G3 ?_
   refine ⟨rfl,by simp,?_⟩
   refine G7 ?_;refine O1 (Dg okC rfl rfl Om) ?_;refine G5 ?_;refine TOr 6 ?_ (fun hg => ?_) ?_
   rotate_left
   ·iterate 4 refine Gn hg ?_
    refine On hg (Aek elC O3 rfl rfl Hb) (Bh rfl rfl rfl (by rw [hg]; rfl) rfl rfl rfl rfl (f44 (fun h => h.floating) (a0.hyps.drop (flo a0.hyps).length) 185 [] U0 (by rw [cu_]; omega) (fun a _ => f185 a U0)) ?_)
    exact Ez
   refine G ?_;refine Ab rfl ?_ ?_ <;> intro h3
   ·refine G5 ?_
    have hO : Eo d = none := O5 hne (by rw [hf0,hd0,Nf,if_pos (show Ao2 d a0 = true from h3)])
    refine G ?_
    exact ⟨_,rfl,.tup [slV eH 3 [],.bool false],U,as_ hw ⟨by have := hO0.n; omega,hO0.g⟩,nl,.tup (.cons Dr (.cons (.same rfl) .nil)),by unfold Nh; rw [hO]; rfl,rfl⟩
   ·have h3' : Ao2 d a0 = false := h3;refine G5 ?_;refine O1 (Jd (z := [.nil (.slice none 0 0),.nil (.slice none 0 0)]) Kr Asa rfl rfl) ?_;refine G3 ?_;refine Bq 2 (fun i2 => [(1,.pv [Aq d.consts,Aq d.vars,slV eF 8 d.frames]),(4,.mp (nx U)),(5,.mp (nx U + 1)),(6,iV (.ofNat i0)),(34,slV eF 8 d.frames),(35,iV (.ofNat d.frames.length)),(36,iV (.ofNat i0)),(66,.agg [slV eH 3 (flo a0.hyps),slV eH 3 (flo a0.dummies)]),(67,iV (.ofNat i2))]) (fun i2 U2 => ∃ s,Nn U U2 s /\ Nm i0 [flo a0.hyps,flo a0.dummies] s0 = Nm i0 ([flo a0.hyps,flo a0.dummies].drop i2) s) SL ⟨s0,hO0,rfl⟩ ?_
    rintro i2 U2 hi2 ⟨s2,hO2,hf2⟩;refine G5 ?_;refine Ab rfl ?_ ?_ <;> intro h4
    ·have bw : i2 < 2 := by have h9 := of_decide_eq_true h4; simp at h9; omega
     have py : ∀ a2,[flo a0.hyps,flo a0.dummies][i2]? = some a2 -> Jc 1 false (([slV eH 3 (flo a0.hyps),slV eH 3 (flo a0.dummies)] : List AV).drop (i2 * 1)) = some (slV eH 3 a2) := fun a2 ha => by
      match i2,bw,ha with
      | 0,_,ha => cases ha; rfl
      | 1,_,ha => cases ha; rfl
     obtain ⟨a2,ha2⟩ := A6 (show i2 < [flo a0.hyps,flo a0.dummies].length from bw)
     have hd2 := Ay ha2
     have mh : ∀ h ∈ a2,∃ a b,h.text = [a,b] := fun h hh => by
      have hm := ae_ ha2;simp only [aq_,gp_,or_false] at hm
      rcases hm with rfl | rfl
      ·exact hfl a0 (ae_ ha0) h (by simp [Fr.all,(X3 hh).1]) (X3 hh).2
      ·exact hfl a0 (ae_ ha0) h (by simp [Fr.all,(X3 hh).1]) (X3 hh).2
     have hl2 : a2.length < 1000000 := by
      have hm := ae_ ha2;simp only [aq_,gp_,or_false] at hm
      rcases hm with rfl | rfl <;> omega
     refine G5 ?_;refine O1 (Amo (v := slV eH 3 a2) Asa rfl rfl bw (py a2 ha2)) ?_;refine G9 ?_;refine Bq a2.length (fun i4 => [(1,.pv [Aq d.consts,Aq d.vars,slV eF 8 d.frames]),(4,.mp (nx U)),(5,.mp (nx U + 1)),(6,iV (.ofNat i0)),(11,slV eH 3 a2),(34,slV eF 8 d.frames),(35,iV (.ofNat d.frames.length)),(36,iV (.ofNat i0)),(66,.agg [slV eH 3 (flo a0.hyps),slV eH 3 (flo a0.dummies)]),(67,iV (.ofNat i2)),(70,slV eH 3 a2),(71,iV (.ofNat a2.length)),(72,iV (.ofNat i4))]) (fun i4 U4 => ∃ s,Nn U U4 s /\ Wq i0 a2 a2 0 s2 = Wq i0 a2 (a2.drop i4) i4 s) SL ⟨s2,hO2,rfl⟩ ?_
     rintro i4 U4 hi4 ⟨s4,hO4,hf4⟩;refine G5 ?_;refine Ab rfl ?_ ?_ <;> intro h5
     ·have dc : i4 < a2.length := by simpa using h5
      obtain ⟨a4,ha4⟩ := A6 dc;have hd4 := Ay ha4;obtain ⟨t0,t1,htx⟩ := mh a4 (ae_ ha4);have htv : txv a4 = t1 := X2 htx;refine C3 fun hw4 => ?_
      refine G8 ?_;refine M5 ziC ldC rfl rfl (fun _ => rfl) rfl (fun _ => rfl) rfl rfl rfl rfl rfl ?_
      refine G5 ?_
      refine O1 (Ax elC (fun _ => rfl) rfl rfl (by rw [htx]; rfl : a4.text[1]? = some t1) (i := 1)) ?_
      refine G3 ?_;refine Re (fun L τ => L = [(1,.pv [Aq d.consts,Aq d.vars,slV eF 8 d.frames]),(4,.mp (nx U)),(5,.mp (nx U + 1)),(6,iV (.ofNat i0)),(11,slV eH 3 a2),(12,iV (.ofNat i4)),(13,.pv (eH a4)),(14,sV t1),(34,slV eF 8 d.frames),(35,iV (.ofNat d.frames.length)),(36,iV (.ofNat i0)),(66,.agg [slV eH 3 (flo a0.hyps),slV eH 3 (flo a0.dummies)]),(67,iV (.ofNat i2)),(70,slV eH 3 a2),(71,iV (.ofNat a2.length)),(72,iV (.ofNat i4))] /\ Nn U τ (Ns i0 a4 s4)) ?_ ?_
      ·refine G5 ?_;refine Ab rfl ?_ ?_ <;> intro h6
       ·have jm : i0 = 0 := by simpa using h6
        have hn4 := hO4.n;obtain ⟨refs4,hA4⟩ := id hO4.a;obtain ⟨v1,hv1⟩ := id hO4.o;obtain ⟨v2,hv2⟩ := id hA4.m
        have hm1 : (U4.new (.map 9 [] 0)).get (nx U) = some (.map 9 (B6 hV s4.1) v1) := by rw [ab_,if_neg (by have := hO4.n; omega)]; exact hv1
        have hm2 : (((U4.new (.map 9 [] 0)).set (nx U) (.map 9 (Ri hV (.agg [.str [],.bool false,.nil (.slice none 0 0)]) s4.1 t1) (v1 + 1))).new (.stamp (nx U) (v1 + 1) (kS t1))).get (nx (U4.new (.map 9 [] 0))) = some (.stamp (nx U) (v1 + 1) (kS t1)) := by rw [ab_,if_pos (by rw [Ac])]
        have hm3 : (((U4.new (.map 9 [] 0)).set (nx U) (.map 9 (Ri hV (.agg [.str [],.bool false,.nil (.slice none 0 0)]) s4.1 t1) (v1 + 1))).new (.stamp (nx U) (v1 + 1) (kS t1))).get (nx U) = some (.map 9 (Ri hV (.agg [.str [],.bool false,.nil (.slice none 0 0)]) s4.1 t1) (v1 + 1)) := by rw [ab_,if_neg (by rw [Ac,Af]; have := hO4.n; omega),a_,if_pos rfl]
        have hm4 : ((((U4.new (.map 9 [] 0)).set (nx U) (.map 9 (Ri hV (.agg [.str [],.bool false,.nil (.slice none 0 0)]) s4.1 t1) (v1 + 1))).new (.stamp (nx U) (v1 + 1) (kS t1))).set (nx U) (.map 9 (B6 hV (s4.1.put t1 a4)) (v1 + 1 + 1))).get (nx U + 1) = some (.map 9 (B6 (fun q => AV.mp q) refs4) v2) := by rw [a_,if_neg Om,ab_,if_neg (by rw [Ac,Af]; have := hO4.n; omega),a_,if_neg Om,ab_,if_neg (by have := hO4.n; omega)]; exact hv2
        have jq : Nn U (((((U4.new (.map 9 [] 0)).set (nx U) (.map 9 (Ri hV (.agg [.str [],.bool false,.nil (.slice none 0 0)]) s4.1 t1) (v1 + 1))).new (.stamp (nx U) (v1 + 1) (kS t1))).set (nx U) (.map 9 (B6 hV (s4.1.put t1 a4)) (v1 + 1 + 1))).set (nx U + 1) (.map 9 (B6 (fun q => AV.mp q) (refs4.put t1 (nx U4))) (v2 + 1))) (Ns i0 a4 s4) := by
         rw [jm]
         refine hO4.first (ver := v1 + 1 + 1) (ver2 := v2 + 1) hA4 hw4 (by simp only [Ac,Af]; omega) (by rw [htv,a_,if_neg Om,a_,if_pos rfl]) (by rw [htv,a_,if_pos rfl]) ⟨0,?_⟩ (fun b h8 h9 h10 => ?_)
         ·rw [a_,if_neg Om,a_,if_neg Om,ab_,if_neg (by rw [Ac,Af]; omega),a_,if_neg Om,ab_,if_pos rfl]; rfl
         ·rw [a_,if_neg Om,a_,if_neg Om,ab_,if_neg (by rw [Ac,Af]; omega),a_,if_neg Om,ab_,if_neg Om]
        skip
        refine G6 ?_
        refine Ag rfl rfl rfl rfl (f186 a4 U4 (by rw [htx]; simp)) ?_
        refine O1 (M0 Cg) (O1 (Agi (enc := hV) (m := s4.1) (s := t1) st9 O0 rfl (hm1 : (U4.new (.map 9 [] 0)).get (nx U) = some (.map 9 (B6 hV s4.1) v1)) rfl) ?_);refine G ?_;refine O1 (Abr (enc := hV) (m := s4.1) (s := t1) (v := a4) O0 rfl rfl rfl (fun te k1 k2 => F8 k1 k2 rfl) (hm2 : (((U4.new (.map 9 [] 0)).set (nx U) (.map 9 (Ri hV (.agg [.str [],.bool false,.nil (.slice none 0 0)]) s4.1 t1) (v1 + 1))).new (.stamp (nx U) (v1 + 1) (kS t1))).get (nx (U4.new (.map 9 [] 0))) = _) (hm3 : (((U4.new (.map 9 [] 0)).set (nx U) (.map 9 (Ri hV (.agg [.str [],.bool false,.nil (.slice none 0 0)]) s4.1 t1) (v1 + 1))).new (.stamp (nx U) (v1 + 1) (kS t1))).get (nx U) = _)) ?_
        refine O1 (Fl (v := nx U4) (enc := fun q => AV.mp q) st9 Ac1 rfl (hm4 : ((((U4.new (.map 9 [] 0)).set (nx U) (.map 9 (Ri hV (.agg [.str [],.bool false,.nil (.slice none 0 0)]) s4.1 t1) (v1 + 1))).new (.stamp (nx U) (v1 + 1) (kS t1))).set (nx U) (.map 9 (B6 hV (s4.1.put t1 a4)) (v1 + 1 + 1))).get (nx U + 1) = some (.map 9 (B6 (fun q => AV.mp q) refs4) v2)) rfl rfl (fun te k1 k2 => by first | exact Gt k1 k2 | exact Hk k1 k2 | exact Gu k1 k2 | exact H8 k1 k2 | exact F8 k1 k2 rfl)) ?_
        refine G ?_;exact ⟨[(1,.pv [Aq d.consts,Aq d.vars,slV eF 8 d.frames]),(4,.mp (nx U)),(5,.mp (nx U + 1)),(6,iV (.ofNat i0)),(11,slV eH 3 a2),(12,iV (.ofNat i4)),(13,.pv (eH a4)),(14,sV t1),(34,slV eF 8 d.frames),(35,iV (.ofNat d.frames.length)),(36,iV (.ofNat i0)),(66,.agg [slV eH 3 (flo a0.hyps),slV eH 3 (flo a0.dummies)]),(67,iV (.ofNat i2)),(70,slV eH 3 a2),(71,iV (.ofNat a2.length)),(72,iV (.ofNat i4))],SL,rfl,jq⟩
       ·refine G ?_
        exact ⟨[(1,.pv [Aq d.consts,Aq d.vars,slV eF 8 d.frames]),(4,.mp (nx U)),(5,.mp (nx U + 1)),(6,iV (.ofNat i0)),(11,slV eH 3 a2),(12,iV (.ofNat i4)),(13,.pv (eH a4)),(14,sV t1),(34,slV eF 8 d.frames),(35,iV (.ofNat d.frames.length)),(36,iV (.ofNat i0)),(66,.agg [slV eH 3 (flo a0.hyps),slV eH 3 (flo a0.dummies)]),(67,iV (.ofNat i2)),(70,slV eH 3 a2),(71,iV (.ofNat a2.length)),(72,iV (.ofNat i4))],SL,rfl,by have h9 : i0 ≠ 0 := (by simpa using h6); unfold Ns; rw [if_neg h9]; exact hO4⟩
      ·rintro L τ ⟨rfl,hO5⟩;obtain ⟨refs,hA5⟩ := id hO5.a;have hn5 := hO5.n
       rcases hq : refs.get t1 with _ | q
       ·refine G5 ?_;refine O1 (Ag0 st9 Ac1 rfl hA5.m rfl hq) (O1 (Aoh Cg rfl) ?_);refine G ?_;refine Acn 6 true false rfl rfl rfl rfl rfl (Md rfl) (fun hg => ?_) (fun hg => ?_) ?_
        ·cases hg
        ·iterate 6 refine Gn hg ?_
         refine G ?_;exact ⟨rfl,sb⟩
        refine G ?_
        refine Ab rfl (fun h7 => ?_) (fun h7 => by cases h7)
        refine G5 ?_
        have hH : Agy i0 (a2.take i4) a4 s4 = none := by
         have hAn := hA5.s t1;rw [hq] at hAn;unfold Agy; rw [htv];cases hx : (Ns i0 a4 s4).2.get t1 with
         | none => rfl
         | some a => rw [hx] at hAn; cases hAn
        have e1 : Wq i0 a2 a2 0 s2 = none := by rw [hf4,hd4,Wq,hH]
        have e2 : Nm i0 [flo a0.hyps,flo a0.dummies] s0 = none := by rw [hf2,hd2,Nm,e1]
        have e3 : Nf d d.frames 0 ([],[]) = none := by rw [hf0,hd0,Nf,if_neg (fun hh => Bool.noConfusion (h3'.symm.trans hh)),e2]
        have hO : Eo d = none := O5 hne e3;refine G ?_
        exact ⟨_,rfl,.tup [slV eH 3 [],.bool false],U,as_ hw ⟨by omega,hO5.g⟩,nl,.tup (.cons Dr (.cons (.same rfl) .nil)),by unfold Nh; rw [hO]; rfl,rfl⟩
       have hqn := hA5.n t1 q hq;have hAq := hA5.s t1;rw [hq] at hAq;obtain ⟨aS,haS⟩ := br_.1 hAq.symm;have hk5 := hO5.k t1;rw [haS] at hk5;obtain ⟨h1H,h1e⟩ := br_.1 hk5;refine G5 ?_;refine O1 (K8 (v := q) (enc := fun q => AV.mp q) st9 Ac1 rfl hA5.m rfl hq) ?_
       refine O1 (Aog Cg rfl) ?_;refine G ?_;refine Acn 6 _ ?_ rfl rfl rfl rfl rfl (Md rfl) (fun hg => ?_) (fun hg => ?_) ?_
       rotate_left
       ·iterate 2 refine Gn hg ?_
        refine On hg (K8 (v := h1H) (enc := hV) st9 O0 rfl hO5.o rfl h1e) ?_;refine Gn hg ?_
        refine Bh rfl rfl rfl (by rw [hg]; rfl) rfl rfl rfl rfl (f187 h1H a4 τ (by rw [htx]; simp)) ?_
        refine Gn hg ?_;refine G ?_;refine ⟨rfl,?_,?_⟩
        ·exact sb
        ·exact rfl
       ·cases hg
       refine G ?_;refine Ab rfl ?_ ?_ <;> intro h7
       ·refine G5 ?_
        have hH : Agy i0 (a2.take i4) a4 s4 = none := by
         unfold Agy; rw [htv,haS];simp only [h1e]
         rw [if_neg (by show ¬ Ak3 h1H a4 = true; simpa using h7)]
        have e1 : Wq i0 a2 a2 0 s2 = none := by rw [hf4,hd4,Wq,hH]
        have e2 : Nm i0 [flo a0.hyps,flo a0.dummies] s0 = none := by rw [hf2,hd2,Nm,e1]
        have e3 : Nf d d.frames 0 ([],[]) = none := by rw [hf0,hd0,Nf,if_neg (fun hh => Bool.noConfusion (h3'.symm.trans hh)),e2]
        have hO : Eo d = none := O5 hne e3;refine G ?_
        exact ⟨_,rfl,.tup [slV eH 3 [],.bool false],U,as_ hw ⟨by omega,hO5.g⟩,nl,.tup (.cons Dr (.cons (.same rfl) .nil)),by unfold Nh; rw [hO]; rfl,rfl⟩
       ·have hsm : Ak3 h1H a4 = true := by simpa using h7
        refine G5 ?_;refine O1 (Ao5 rfl rfl Om) ?_;refine G4 ?_;refine Bq (a2.take i4).length (fun i6 => [(1,.pv [Aq d.consts,Aq d.vars,slV eF 8 d.frames]),(4,.mp (nx U)),(5,.mp (nx U + 1)),(6,iV (.ofNat i0)),(11,slV eH 3 a2),(14,sV t1),(34,slV eF 8 d.frames),(35,iV (.ofNat d.frames.length)),(36,iV (.ofNat i0)),(66,.agg [slV eH 3 (flo a0.hyps),slV eH 3 (flo a0.dummies)]),(67,iV (.ofNat i2)),(70,slV eH 3 a2),(71,iV (.ofNat a2.length)),(72,iV (.ofNat i4)),(106,slV eH 3 (a2.take i4)),(107,iV (.ofNat (a2.take i4).length)),(108,iV (.ofNat i6))]) (fun i6 U6 => E2 U6 q (Amx aS ((a2.take i4).take i6)) /\ nx U6 = nx τ /\ ∀ b,b ≠ q -> U6.get b = τ.get b) SL ⟨hA5.a t1 q aS hq haS,rfl,fun _ _ => rfl⟩ ?_
        rintro i6 U6 hi6 ⟨hs6,hn6,hg6⟩;refine G5 ?_;refine Ab rfl ?_ ?_ <;> intro h8
        ·have dv : i6 < (a2.take i4).length := by simpa using h8
         obtain ⟨a6,ha6⟩ := A6 dv;have hd6 := Ay ha6;have ha6m : a6 ∈ a2 := dv_ (ae_ ha6);obtain ⟨u0,u1,hux⟩ := mh a6 ha6m;obtain ⟨v6,hv6⟩ := id hs6
         have hlt6' : i6 < a2.length := by have h11 := dv; rw [bn_] at h11; omega
         refine G9 ?_;refine XS (l := []) trivial ?_;refine G2 ?_;refine DF (K8 (v := q) (enc := fun q => AV.mp q) st9 Ac1 rfl (hA5.m.of_get (hg6 _ Om)) rfl hq) ?_
         refine G2 ?_
         refine DF (Ax elC (fun _ => rfl) rfl rfl (by rw [hux]; rfl : a6.text[1]? = some u1) (i := 1)) ?_
         refine G ?_
         refine DT (Fl (v := true) st9 Cg rfl hv6 rfl rfl (fun te k1 k2 => by first | exact Gt k1 k2 | exact Hk k1 k2 | exact Gu k1 k2 | exact H8 k1 k2 | exact F8 k1 k2 rfl)) ?_
         refine G5 ?_
         refine ⟨dv,SL,by rw [B7 ha6,Amy,X2 hux]; exact ds_,by rw [Ac]; exact hn6,fun b hb => by rw [a_,if_neg Om]; exact hg6 b hb⟩
        ·have pt : (a2.take i4).length <= i6 := by simpa using h8
         rw [av_ pt] at hs6;refine G5 ?_
         refine ⟨dc,SL,((Ns i0 a4 s4).1,(Ns i0 a4 s4).2.put t1 (Amx aS (a2.take i4))),hO5.turn hA5 hq (by rw [hn6]; exact nl) hs6 hg6,by rw [hf4,hd4,Wq,Agy,htv,haS]; simp only [h1e]; rw [if_pos (show Ak5 (some h1H) a4 = true from hsm)]⟩
     ·have ic : a2.length <= i4 := by simpa using h5
      have hL4 : Wq i0 a2 a2 0 s2 = some s4 := by rw [hf4,ah_ ic]; rfl
      refine G5 ?_
      refine ⟨bw,SL,s4,hO4,by rw [hf2,hd2,Nm,hL4]⟩
    ·have b6 : 2 <= i2 := by have h9 := of_decide_eq_false h4; simp at h9; omega
     have hLs : Nm i0 [flo a0.hyps,flo a0.dummies] s0 = some s2 := by rw [hf2,ah_ (show [flo a0.hyps,flo a0.dummies].length <= i2 from b6)]; rfl
     refine G5 ?_
     refine ⟨bc,SL,s2,hO2,by rw [hf0,hd0,Nf,if_neg (fun hh => Bool.noConfusion (h3'.symm.trans hh)),hLs]⟩
  ·have bk : d.frames.length <= i0 := by simpa using h2
   have hF : Nf d d.frames 0 ([],[]) = some s0 := by rw [hf0,ah_ bk]; rfl
   have hcv := jp hne s0 hF;obtain ⟨refs,hA0⟩ := id hO0.a;have hn0 := hO0.n;refine C3 fun hw0 => ?_
   refine G7 ?_;refine O1 (Bp (n := nx U0) Cg rfl) ?_;refine G3 ?_;refine Akg ?_;refine G2 ?_;refine B3 (fun q : AV × SM Bool × List Hp => [(1,.pv [Aq d.consts,Aq d.vars,slV eF 8 d.frames]),(4,.mp (nx U)),(5,.mp (nx U + 1)),(17,q.1),(18,.mp (nx U0))])
    (fun q U8 => Own U8 (nx U0 + 1) eH 3 q.2.2 q.1 /\ E2 U8 (nx U0) q.2.1 /\ nx U0 + 1 <= nx U8 /\ (∀ b,b < nx U0 -> U8.get b = U0.get b) /\ q.2.2.length <= d.vars.length /\ Uj d.vars s0 d.vars.length [] [] = Uj d.vars s0 (d.vars.length - q.2.2.length) q.2.1 q.2.2)
    (fun q => d.vars.length - q.2.2.length) (.nil (.slice none 0 0),[],[]) SL ⟨.nil,⟨0,by rw [ab_,if_pos rfl]; rfl⟩,by rw [Af]; exact nl,fun b hb => by rw [ab_,if_neg Om],bh_ _,rfl⟩ ?_
   rintro ⟨vo,done,out⟩ U8 ⟨d4,hd8,hn8,hg8,hl8,hf8⟩;simp only at d4 hd8 hl8 hf8;refine G4 ?_;refine O1 (B0 slC rfl d4.lenA.1 d4.lenA.2) ?_;refine G5 ?_;refine Ab rfl ?_ ?_ <;> intro h3
   ·have gg : out.length < d.vars.length := by simpa using h3
    refine G11 ?_;refine Bq d.vars.length (fun i10 => [(1,.pv [Aq d.consts,Aq d.vars,slV eF 8 d.frames]),(4,.mp (nx U)),(5,.mp (nx U + 1)),(17,vo),(18,.mp (nx U0)),(131,Aq d.vars),(132,iV (.ofNat d.vars.length)),(133,iV (.ofNat i10))])
     (fun i10 U10 => Own U10 (nx U0 + 1) eH 3 out vo /\ E2 U10 (nx U0) done /\ nx U0 + 1 <= nx U10 /\ (∀ b,b < nx U0 -> U10.get b = U0.get b) /\ d.vars.find? (rdy s0.2 done) = (d.vars.drop i10).find? (rdy s0.2 done)) SL ⟨d4,hd8,hn8,hg8,rfl⟩ ?_
    rintro i10 U10 hi10 ⟨jv,me,hn10,bl,jw⟩;refine C3 fun hw10 => ?_
    refine G5 ?_;refine Ab rfl ?_ ?_ <;> intro h4
    ·have iu : i10 < d.vars.length := by simpa using h4
     obtain ⟨v10,ig⟩ := A6 iu;have ia := Ay ig;obtain ⟨h1H,h1e⟩ := br_.1 (hcv v10 (ae_ ig));have hk0 := hO0.k v10;rw [h1e] at hk0;obtain ⟨aS,haS⟩ := br_.1 hk0.symm;have mi := hA0.s v10;rw [haS] at mi;obtain ⟨q,hq⟩ := br_.1 mi;have hqs := hA0.a v10 q aS hq haS;have pu : q < nx U0 := hqs.lt hw0;obtain ⟨vq,hvq⟩ := hqs;have gj : U10.get q = some (.map 9 (B6 bV aS) vq) := (bl q pu).trans hvq
     iterate 13 refine G ?_
     refine O1 (Cx st9 Cg rfl me rfl) ?_;refine G8 ?_;refine O1 (K8 (v := q) (enc := fun q => AV.mp q) st9 Ac1 rfl (hA0.m.of_get (bl _ Om)) rfl hq) ?_
     refine O1 (Agg Cg rfl gj) ?_;refine G2 ?_;refine B3 (fun q12 : Bool × SM Bool => [(1,.pv [Aq d.consts,Aq d.vars,slV eF 8 d.frames]),(4,.mp (nx U)),(5,.mp (nx U + 1)),(17,vo),(18,.mp (nx U0)),(20,sV v10),(21,.bool q12.1),(131,Aq d.vars),(132,iV (.ofNat d.vars.length)),(133,iV (.ofNat i10)),(144,.it (nx U10))])
      (fun q12 U12 => (∃ cur,U12.get (nx U10) = some (.iter (some q) vq (B6 bV q12.2) cur)) /\ nx U12 = nx U10 + 1 /\ (∀ b,b < nx U10 -> U12.get b = U10.get b) /\ rdy s0.2 done v10 = (q12.1 && q12.2.all fun p => done.has p.1))
      (fun q12 => q12.2.length) (!done.has v10,aS) SL
      ⟨⟨none,by rw [ab_,if_pos rfl]⟩,Af _ _,fun b hb => by rw [ab_,if_neg Om],by unfold rdy; rw [haS]; rfl⟩ ?_
     rintro ⟨ready,left⟩ U12 ⟨⟨cur,hit⟩,ph,ez,jx⟩;simp only at hit jx;have m7 : E2 U12 (nx U0) done := me.of_get (ez _ Om);have jz : Own U12 (nx U0 + 1) eH 3 out vo := jv.mono Om fun a tl _ _ h9 _ => ez a h9
     refine G ?_
     refine Aol rfl rfl rfl hit (by show (match U12.get q with | some (.map _ _ v) => Nat.beq v vq | _ => false) = true; rw [ez q Om,gj]; exact bf_ _) (fun h0 => ?_) (fun p hp => ?_)
     ·have h0' : left = [] := by cases left with
       | nil => rfl
       | cons x l => cases h0
      subst h0'
      have hr : rdy s0.2 done v10 = ready := by rw [jx]; simp
      have ij : E2 (U12.set (nx U10) (.iter (some q) vq [] none)) (nx U0) done := m7.set Om
      have gp : Own (U12.set (nx U10) (.iter (some q) vq [] none)) (nx U0 + 1) eH 3 out vo := jz.mono (by rw [Ac]; exact nl) fun a tl _ _ h9 h10 => by
       rw [a_,if_neg]; intro hh; have hh : a = nx U10 := by omega
       subst hh; rw [hit] at h10; cases h10
      refine G3 ?_
      refine Ab rfl (fun h5 => by cases h5) (fun h5 => ?_)
      refine G5 ?_;refine Ab rfl ?_ ?_ <;> intro h6
      ·have hr6 : ready = true := h6
       have hfd : d.vars.find? (rdy s0.2 done) = some v10 := by rw [jw,ia,List.find?_cons,hr,hr6]
       obtain ⟨vd,hvd⟩ := id ij
       have jy : Own ((U12.set (nx U10) (.iter (some q) vq [] none)).set (nx U0) (.map 9 (B6 bV (done.put v10 true)) (vd + 1))) (nx U0 + 1) eH 3 out vo := gp.mono (by simp only [Ac]; exact nl) fun a tl _ h8 h9 _ => by rw [a_,if_neg Om]
       have m8 : nx U0 + 1 <= nx ((U12.set (nx U10) (.iter (some q) vq [] none)).set (nx U0) (.map 9 (B6 bV (done.put v10 true)) (vd + 1))) := by rw [Ac,Ac]; omega
       have bz : (out.length + [h1H].length) * (48 + 1) <= sizeLim := by simp [sizeLim]; omega
       obtain ⟨v1,τ1,hap,ho1,hb1,_⟩ := jy.app (by' := 48) O3 m8 [h1H] bz
       have bs : ∀ b,b < nx U0 -> ((U12.set (nx U10) (.iter (some q) vq [] none)).set (nx U0) (.map 9 (B6 bV (done.put v10 true)) (vd + 1))).get b = U0.get b := fun b hb => by
        rw [a_,if_neg Om,a_,if_neg Om,ez b Om,bl b hb]
       refine G4 ?_;refine O1 (Fl (v := true) st9 Cg rfl hvd rfl rfl (fun te k1 k2 => Gt k1 k2)) ?_
       refine G6 ?_;refine O1 (K8 (v := h1H) (enc := hV) st9 O0 rfl (hO0.o.of_get (bs _ Om)) rfl h1e) ?_;refine C1 (As elC byW rfl rfl rfl) (D6 (len := 1)) rfl rfl (O1 (A3 elC rfl slC rfl rfl rfl (new := eH h1H) rfl hap) ?_);refine G3 ?_
       refine ⟨(v1,done.put v10 true,out ++ [h1H]),by show d.vars.length - (out ++ [h1H]).length < d.vars.length - out.length; rw [ao_]; simp; omega,SL,ho1,⟨vd + 1,?_⟩,ax_ m8 hb1.1,fun b hb => (hb1.2 b Om).trans (bs b hb),by show (out ++ [h1H]).length <= _; rw [ao_]; simp; omega,?_⟩
       ·rw [hb1.2 (nx U0) Om,a_,if_pos rfl]
       ·rw [hf8]
        show _ = Uj d.vars s0 (d.vars.length - (out ++ [h1H]).length) (done.put v10 true) (out ++ [h1H])
        rw [show d.vars.length - out.length = (d.vars.length - (out ++ [h1H]).length) + 1 by rw [ao_]; simp; omega,Uj,hfd]
        simp only [h1e]
      ·have hr6 : ready = false := h6;refine G5 ?_
       refine ⟨iu,SL,gp,ij,by rw [Ac]; omega,fun b hb => by rw [a_,if_neg Om,ez b Om,bl b hb],?_⟩
       rw [jw,ia,List.find?_cons,hr,hr6]
     ·obtain ⟨pq,hpq,rfl⟩ := Rh hp;obtain ⟨_,_,hpl⟩ := Pz hpq;have ij : E2 (U12.set (nx U10) (.iter (some q) vq (B6 bV pq.2) (some (kS pq.1.1,bV pq.1.2)))) (nx U0) done := m7.set Om;refine G3 ?_
      refine Ab rfl (fun h5 => ?_) (fun h5 => by cases h5)
      refine G4 ?_
      refine O1 (Agh rfl (by rw [a_,if_pos rfl]) (by rw [a_,if_neg Om,ez q Om]; exact gj)) ?_
      refine G6 ?_;refine Lx 3 _ ?_ rfl rfl rfl rfl rfl (Md rfl) (fun hg => ?_) (fun hg => ?_) ?_
      rotate_left
      ·refine Zj rfl rfl rfl rfl (by rw [show ready = _ from hg]; rfl) noR rfl rfl (Al rfl) ?_
       refine Zj rfl rfl rfl rfl (by rw [show ready = _ from hg]; rfl) noR rfl rfl (Al rfl) ?_
       refine Zj rfl rfl rfl rfl (by rw [show ready = _ from hg]; rfl) noR rfl rfl (Cx (s := pq.1.1) st9 Cg rfl ij rfl) ?_
       refine G ?_;refine ⟨rfl,?_,?_⟩
       ·exact sb
       ·exact rfl
      ·refine Ra rfl rfl rfl rfl (by rw [show ready = _ from hg]; rfl) rfl ?_
       refine Ra rfl rfl rfl rfl (by rw [show ready = _ from hg]; rfl) rfl ?_
       refine Ra rfl rfl rfl rfl (by rw [show ready = _ from hg]; rfl) rfl ?_
       refine G ?_;exact ⟨rfl,sb⟩
      refine G2 ?_
      refine ⟨(ready && done.has pq.1.1,pq.2),by show pq.2.length < left.length; omega,SL,⟨_,by rw [a_,if_pos rfl]⟩,by rw [Ac]; exact ph,fun b hb => by rw [a_,if_neg Om]; exact ez b hb,?_⟩
      rw [jx,Ac8 hpq];cases ready <;> simp
    ·have m9 : d.vars.length <= i10 := by simpa using h4
     have hfd : d.vars.find? (rdy s0.2 done) = none := by rw [jw,ah_ m9]; rfl
     have hO : Eo d = none := by
      unfold Eo; rw [if_neg hne,hF]
      show Uj d.vars s0 d.vars.length [] [] = none
      rw [hf8,show d.vars.length - out.length = (d.vars.length - out.length - 1) + 1 by omega,Uj,hfd]
     refine G7 ?_
     exact ⟨_,rfl,.tup [slV eH 3 [],.bool false],U,as_ hw ⟨by omega,fun b hb => (bl b Om).trans (hO0.g b hb)⟩,nl,.tup (.cons Dr (.cons (.same rfl) .nil)),by unfold Nh; rw [hO]; rfl,rfl⟩
   ·have hge8 : d.vars.length <= out.length := by simpa using h3
    have hO : Eo d = some out := by
     unfold Eo; rw [if_neg hne,hF]
     show Uj d.vars s0 d.vars.length [] [] = some out
     rw [hf8,show d.vars.length - out.length = 0 by omega]; rfl
    refine G8 ?_
    exact ⟨_,rfl,.tup [slV eH 3 out,.bool true],U,as_ hw ⟨by omega,fun b hb => (hg8 b Om).trans (hO0.g b hb)⟩,nl,.tup (.cons (d4.fz O3 (fun a ha => hw.none Om) (Bi Nb _)) (.cons (.same rfl) .nil)),by unfold Nh; rw [hO]; rfl,rfl⟩
theorem O6 {α : Type} [BEq α] [LawfulBEq α] : ∀ {L V : List α},L.Nodup -> (∀ x ∈ L,x ∈ V) -> V.length <= L.length -> ∀ x ∈ V,x ∈ L
 | [],V,_,_,h,x,hx => by
  have : V = [] := bl_ (by simpa using h)
  rw [this] at hx; cases hx
 | a :: L,V,hn,hs,h,x,hx => by
  have ha : a ∈ V := hs a (ar_ ..);obtain ⟨h1,h2⟩ := gu_.1 hn
  have hl : (V.erase a).length <= L.length := by rw [List.length_erase_of_mem ha]; simp only [at_] at h; omega
  have ih := O6 (V := V.erase a) h2 (fun y hy => (List.mem_erase_of_ne (fun e => by subst e; exact h1 hy)).2 (hs y (ak_ _ hy))) hl
  by_cases e : x = a
  ·subst e; exact ar_ ..
  ·exact ak_ _ (ih x ((List.mem_erase_of_ne e).2 hx))
theorem Atj {k : Kn} {lab : SM Bool} {ty : SM Str} {h : Hp} {du : Bool} (h0 : Tn k lab ty h du = 0) (hf : h.floating = true) : k.vars.has (txv h) = true /\ ty.get (txv h) = none := by
 unfold Tn at h0
 split at h0
 ·cases h0
 ·split at h0
  ·cases h0
  ·split at h0
   ·cases h0
   ·rename_i h3
    split at h0
    ·cases h0
    ·split at h0
     ·cases h0
     ·rename_i h5
      simp only [ce_,co_,not_or,Bool.not_eq_false] at h3
      exact ⟨h3.2,by simpa [txv] using h5⟩
abbrev flt (l : List Hp) : List Str := (l.filter (·.floating)).map txv
theorem Ag2 {k : Kn} {nh : Nat} : ∀ {l : List Hp} {i : Nat} {lab : SM Bool} {ty : SM Str},(Ia k nh l i lab ty).1 = 0 ->
  (∀ h ∈ l,h.floating = true -> (∃ a b,h.text = [a,b]) /\ k.vars.has (txv h) = true /\ ty.get (txv h) = none) /\ (flt l).Nodup
 | [],_,_,_,_ => ⟨fun _ h => (by cases h),gc_⟩
 | h :: r,i,lab,ty,h0 => by
  unfold Ia at h0
  split at h0
  ·rename_i hc; simp only at h0; rw [h0] at hc; exact absurd hc (by decide)
  ·rename_i hc
   have hz : Tn k lab ty h (decide (Int.ofNat nh <= Int.ofNat i)) = 0 := by simpa using hc
   obtain ⟨ih1,ih2⟩ := Ag2 h0;cases hf : h.floating with
   | false =>
    rw [hf] at ih1;refine ⟨fun x hx hxf => ?_,?_⟩
    ·rcases aq_.1 hx with rfl | hx
     ·rw [hf] at hxf; cases hxf
     ·exact ih1 x hx hxf
    ·show ((h :: r).filter (·.floating)).map txv |>.Nodup
     rw [List.filter_cons_of_neg (by simp [hf])]; exact ih2
   | true =>
    rw [hf] at ih1;obtain ⟨g1,g2⟩ := Atj hz hf;have g3 := Agx hz hf
    have key : ∀ x ∈ r,x.floating = true -> txv x ≠ txv h /\ ty.get (txv x) = none := fun x hx hxf => by
     have := (ih1 x hx hxf).2.2;rw [if_pos rfl,ci_] at this
     split at this
     ·cases this
     ·rename_i e; exact ⟨e,this⟩
    refine ⟨fun x hx hxf => ?_,?_⟩
    ·rcases aq_.1 hx with rfl | hx
     ·exact ⟨g3,g1,g2⟩
     ·exact ⟨(ih1 x hx hxf).1,(ih1 x hx hxf).2.1,(key x hx hxf).2⟩
    ·show ((h :: r).filter (·.floating)).map txv |>.Nodup
     rw [List.filter_cons_of_pos (by simp [hf]),ck_,gu_]
     refine ⟨fun hm => ?_,ih2⟩
     obtain ⟨x,hx,e⟩ := cr_.1 hm;have := eg_.1 hx
     exact (key x this.1 (by simpa using this.2)).1 e
theorem Ao8 {pw : Str -> Bool} {k : Kn} {f : Fr} {before : List Hp} (h : Em pw k f before = 0) : (Ia (k.fr f.label) f.hyps.length f.all 0 [] []).1 = 0 := by
 unfold Em at h
 split at h
 ·cases h
 ·split at h
  ·cases h
  ·split at h
   ·cases h
   ·split at h
    ·exact h
    ·rename_i hc; simpa using hc
theorem Ro {pw : Str -> Bool} : ∀ {fs : List Fr} {k : Kn} {be : List Hp},Hm pw fs k be = 0 -> ∀ f ∈ fs,∃ k' be',k'.vars = k.vars /\ Em pw k' f be' = 0
 | [],_,_,_,f,hf => by cases hf
 | g :: r,k,be,h,f,hf => by
  unfold Hm at h
  split at h
  ·rename_i hc; rw [h] at hc; exact absurd hc (by decide)
  ·rename_i hc
   rcases aq_.1 hf with rfl | hf
   ·exact ⟨k,be,rfl,by simpa using hc⟩
   ·obtain ⟨k',be',h1,h2⟩ := Ro h f hf;exact ⟨k',be',h1,h2⟩
theorem Uk : ∀ (l : List Str) (k : Kn),(Na l k).2.vars = k.vars
 | [],_ => rfl
 | c :: r,k => by unfold Na; cases Nr c <;> cases k.consts.has c <;> simp [Uk r]
theorem Ac9 : ∀ (l : List Str) (k : Kn) (v : Str),(O2 l k).2.vars.has v = true -> v ∈ l ∨ k.vars.has v = true
 | [],_,v,h => .inr h
 | c :: r,k,v,h => by
  unfold O2 at h;cases hs : Nr c with
  | false => rw [hs] at h; exact .inr h
  | true =>
   rw [hs] at h;cases hk : k.isSym c with
   | true => rw [hk] at h; exact .inr h
   | false =>
    rw [hk] at h
    rcases Ac9 r _ v h with h | h
    ·exact .inl (ak_ _ h)
    ·have h : (k.vars.put c true).has v = true := h;rw [SM.has_put] at h;simp only [ce_,decide_eq_true_eq] at h
     rcases h with rfl | h
     ·exact .inl (ar_ ..)
     ·exact .inr h
theorem Am3 {d : Db} {v : Str} (h : (Jo d kn0).2.vars.has v = true) : v ∈ d.vars := by
 unfold Jo at h
 split at h
 ·rcases Ac9 _ _ _ h with h | h
  ·exact h
  ·rw [Uk] at h; cases h
 ·rw [Uk] at h; cases h
theorem Ag3 {pw : Str -> Bool} {d : Db} (h : En pw d = 0) : Hm pw d.frames (Jo d kn0).2 [] = 0 := by
 unfold En at h
 split at h
 ·cases h
 ·split at h
  ·rename_i hc; rw [h] at hc; exact absurd hc (by decide)
  ·exact h
theorem To {pw : Str -> Bool} {d : Db} (h : En pw d = 0) {f : Fr} (hf : f ∈ d.frames) : (∀ h ∈ f.all,h.floating = true -> (∃ a b,h.text = [a,b]) /\ txv h ∈ d.vars) /\ (flt f.all).Nodup := by
 obtain ⟨k',be',h1,h2⟩ := Ro (Ag3 h) f hf;obtain ⟨g1,g2⟩ := Ag2 (Ao8 h2);refine ⟨fun x hx hxf => ?_,g2⟩
 obtain ⟨a1,a2,_⟩ := g1 x hx hxf
 exact ⟨a1,Am3 (by rw [← h1]; exact a2)⟩
theorem Tp (l : List Hp) : flo l = l.filter (·.floating) := by
 unfold flo D9 Tk
 congr 1; funext x; simp
theorem Arh (f : Fr) : flt f.all = (flo f.hyps ++ flo f.dummies).map txv := by
 rw [Tp,Tp]; simp [flt,Fr.all]
def O7 (s : Ord) : Prop := ∀ v h,s.1.get v = some h -> txv h = v /\ ∃ a b,h.text = [a,b]
theorem Ari {i : Nat} {pre : List Hp} {h : Hp} {s s' : Ord} (e : Agy i pre h s = some s') (h2 : ∃ a b,h.text = [a,b]) (hs : O7 s) :
  O7 s' /\ (∀ v,(s.1.get v).isSome = true -> (s'.1.get v).isSome = true) /\ (i = 0 -> (s'.1.get (txv h)).isSome = true) := by
 have h0 : O7 (Ns i h s) /\ (∀ v,(s.1.get v).isSome = true -> ((Ns i h s).1.get v).isSome = true) /\ (i = 0 -> ((Ns i h s).1.get (txv h)).isSome = true) := by
  unfold Ns
  split
  ·refine ⟨fun v x hx => ?_,fun v hv => ?_,fun _ => ?_⟩
   ·simp only [ci_] at hx
    split at hx
    ·rename_i e; cases hx; exact ⟨e.symm,h2⟩
    ·exact hs v x hx
   ·simp only [ci_]; split <;> first | rfl | exact hv
   ·simp [ci_]
  ·rename_i hi; exact ⟨hs,fun _ h => h,fun e => absurd e hi⟩
 unfold Agy at e
 split at e
 ·cases e
 ·split at e
  ·cases e; exact h0
  ·cases e
theorem Ala {i : Nat} {all : List Hp} : ∀ {l : List Hp} {n : Nat} {s s' : Ord},Wq i all l n s = some s' -> (∀ h ∈ l,∃ a b,h.text = [a,b]) -> O7 s ->
  O7 s' /\ (∀ v,(s.1.get v).isSome = true -> (s'.1.get v).isSome = true) /\ (i = 0 -> ∀ h ∈ l,(s'.1.get (txv h)).isSome = true)
 | [],_,s,s',e,_,hs => by cases e; exact ⟨hs,fun _ h => h,fun _ _ h => by cases h⟩
 | h :: r,n,s,s',e,h2,hs => by
  unfold Wq at e
  split at e
  ·cases e
  ·rename_i s1 e1
   obtain ⟨a1,a2,a3⟩ := Ari e1 (h2 h (ar_ ..)) hs;obtain ⟨b1,b2,b3⟩ := Ala e (fun x hx => h2 x (ak_ _ hx)) a1
   refine ⟨b1,fun v hv => b2 v (a2 v hv),fun hi x hx => ?_⟩
   rcases aq_.1 hx with rfl | hx
   ·exact b2 _ (a3 hi)
   ·exact b3 hi x hx
theorem Ag4 {i : Nat} : ∀ {ls : List (List Hp)} {s s' : Ord},Nm i ls s = some s' -> (∀ l ∈ ls,∀ h ∈ l,∃ a b,h.text = [a,b]) -> O7 s ->
  O7 s' /\ (∀ v,(s.1.get v).isSome = true -> (s'.1.get v).isSome = true) /\ (i = 0 -> ∀ l ∈ ls,∀ h ∈ l,(s'.1.get (txv h)).isSome = true)
 | [],s,s',e,_,hs => by cases e; exact ⟨hs,fun _ h => h,fun _ _ h => by cases h⟩
 | l :: r,s,s',e,h2,hs => by
  unfold Nm at e
  split at e
  ·cases e
  ·rename_i s1 e1
   obtain ⟨a1,a2,a3⟩ := Ala e1 (h2 l (ar_ ..)) hs;obtain ⟨b1,b2,b3⟩ := Ag4 e (fun x hx => h2 x (ak_ _ hx)) a1
   refine ⟨b1,fun v hv => b2 v (a2 v hv),fun hi x hx => ?_⟩
   rcases aq_.1 hx with rfl | hx
   ·exact fun h hh => b2 _ (a3 hi h hh)
   ·exact b3 hi x hx
theorem Alb {d : Db} : ∀ {fs : List Fr} {i : Nat} {s s' : Ord},Nf d fs i s = some s' -> (∀ f ∈ fs,∀ h ∈ f.all,h.floating = true -> ∃ a b,h.text = [a,b]) -> O7 s ->
  O7 s' /\ (∀ v,(s.1.get v).isSome = true -> (s'.1.get v).isSome = true) /\ (i = 0 -> ∀ f r,fs = f :: r -> Ao2 d f = false /\ ∀ h,h ∈ flo f.hyps ++ flo f.dummies -> (s'.1.get (txv h)).isSome = true)
 | [],_,s,s',e,_,hs => by cases e; exact ⟨hs,fun _ h => h,fun _ _ _ h => by cases h⟩
 | f :: r,i,s,s',e,h2,hs => by
  unfold Nf at e
  split at e
  ·cases e
  ·rename_i hb
   split at e
   ·cases e
   ·rename_i s1 e1
    have hm : ∀ l ∈ [flo f.hyps,flo f.dummies],∀ h ∈ l,∃ a b,h.text = [a,b] := fun l hl h hh => by
     simp only [aq_,gp_,or_false] at hl
     rcases hl with rfl | rfl <;> rw [Tp] at hh <;> (have := eg_.1 hh; exact h2 f (ar_ ..) h (by simp [Fr.all,this.1]) (by simpa using this.2))
    obtain ⟨a1,a2,a3⟩ := Ag4 e1 hm hs;obtain ⟨b1,b2,_⟩ := Alb e (fun x hx => h2 x (ak_ _ hx)) a1
    refine ⟨b1,fun v hv => b2 v (a2 v hv),fun hi f' r' he => ?_⟩
    cases he
    refine ⟨by simpa using hb,fun h hh => b2 _ ?_⟩
    rcases b_.1 hh with hh | hh
    ·exact a3 hi (flo f.hyps) (by simp) h hh
    ·exact a3 hi (flo f.dummies) (by simp) h hh
theorem Ada {pw : Str -> Bool} {d : Db} (hc : En pw d = 0) (hn : d.frames ≠ []) {s : Ord} (hs : Nf d d.frames 0 ([],[]) = some s) : O7 s /\ ∀ v ∈ d.vars,(s.1.get v).isSome = true := by
 obtain ⟨a1,_,a3⟩ := Alb hs (fun f hf h hh hff => ((To hc hf).1 h hh hff).1) (fun v h hv => by cases hv)
 refine ⟨a1,fun v hv => ?_⟩
 cases hfs : d.frames with
 | nil => exact absurd hfs hn
 | cons f r =>
  obtain ⟨b1,b2⟩ := a3 rfl f r hfs
  have hf : f ∈ d.frames := by rw [hfs]; exact ar_ ..
  obtain ⟨c1,c2⟩ := To hc hf;rw [Arh] at c2
  have bv : d.vars.length <= ((flo f.hyps ++ flo f.dummies).map txv).length := by
   unfold Ao2 at b1;simp only [bt_,ec_,decide_eq_true_eq] at b1;have := di_ b1.1;simp only [bs_,ao_];omega
  have b8 : ∀ x ∈ (flo f.hyps ++ flo f.dummies).map txv,x ∈ d.vars := fun x hx => by
   obtain ⟨h,hh,rfl⟩ := cr_.1 hx
   have hm : h ∈ f.all /\ h.floating = true := by
    rw [Tp,Tp] at hh
    rcases b_.1 hh with hh | hh <;> (have := eg_.1 hh; exact ⟨by simp [Fr.all,this.1],by simpa using this.2⟩)
   exact (c1 h hm.1 hm.2).2
  obtain ⟨h,hh,rfl⟩ := cr_.1 (O6 c2 b8 bv v hv);exact b2 h hh
theorem Alc {vars : List Str} {s : Ord} (hs : O7 s) : ∀ {n : Nat} {done : SM Bool} {out l : List Hp},Uj vars s n done out = some l -> (out.map txv).Nodup -> (∀ x ∈ out.map txv,x ∈ vars /\ done.has x = true) -> (∀ h ∈ out,∃ a b,h.text = [a,b]) ->
  l.length = out.length + n /\ (l.map txv).Nodup /\ (∀ x ∈ l.map txv,x ∈ vars) /\ ∀ h ∈ l,∃ a b,h.text = [a,b]
 | 0,done,out,l,e,h1,h2,h3 => by cases e; exact ⟨rfl,h1,fun x hx => (h2 x hx).1,h3⟩
 | n + 1,done,out,l,e,h1,h2,h3 => by
  unfold Uj at e
  split at e
  ·cases e
  ·rename_i v hv
   split at e
   ·cases e
   ·rename_i h hh
    obtain ⟨g1,g2⟩ := hs v h hh;have hm : v ∈ vars := List.mem_of_find?_eq_some hv;have hr := List.find?_some hv
    have hnd : done.has v = false := by
     unfold rdy at hr;simp only [af_,co_] at hr;exact hr.1
    obtain ⟨k1,k2,k3,k4⟩ := Alc hs e (by
      rw [cz_,el_]
      refine ⟨h1,by simp,fun x hx y hy => ?_⟩
      simp only [ck_,dq_,am_] at hy;rw [hy,g1];intro e; subst e;have := (h2 x hx).2; rw [hnd] at this; cases this)
     (fun x hx => by
      rw [cz_,b_] at hx;rw [SM.has_put]
      rcases hx with hx | hx
      ·exact ⟨(h2 x hx).1,by rw [(h2 x hx).2]; simp⟩
      ·simp only [ck_,dq_,am_] at hx
       rw [hx,g1]; exact ⟨hm,by simp⟩)
     (fun x hx => by
      rcases b_.1 hx with hx | hx
      ·exact h3 x hx
      ·rw [am_] at hx; subst hx; exact g2)
    exact ⟨by rw [k1,ao_]; simp; omega,k2,k3,k4⟩
theorem Ag5 {pw : Str -> Bool} {d : Db} (hc : En pw d = 0) {l : List Hp} (h : Eo d = some l) : (∀ h ∈ l,∃ a b,h.text = [a,b]) /\ ∀ v ∈ d.vars,∃ h ∈ l,txv h = v := by
 unfold Eo at h
 split at h
 ·split at h
  ·rename_i hv; cases h
   exact ⟨fun _ h => (by cases h),fun v hv' => by rw [bl_ hv] at hv'; cases hv'⟩
  ·cases h
 ·rename_i hn
  split at h
  ·cases h
  ·rename_i s hs
   obtain ⟨a1,a2⟩ := Ada hc (fun e => hn (by rw [e]; rfl)) hs
   obtain ⟨k1,k2,k3,k4⟩ := Alc a1 h gc_ (fun _ h => by cases h) (fun _ h => by cases h)
   refine ⟨k4,fun v hv => ?_⟩
   obtain ⟨x,hx,e⟩ := cr_.1 (O6 k2 k3 (by rw [bs_,k1]; simp) v hv)
   exact ⟨x,hx,e⟩
theorem f214' : ∀ s U,Cv 214 [sV s] U (.bool (!Ea s)) := f214
theorem Ag6 {d : Db} (h : En Ea d = 0) : (∀ f ∈ d.frames,∀ h ∈ f.all,h.floating = true -> ∃ a b,h.text = [a,b]) /\ (d.frames.length ≠ 0 -> ∀ s,Nf d d.frames 0 ([],[]) = some s -> ∀ v ∈ d.vars,(s.1.get v).isSome = true) :=
 ⟨fun f hf x hx hxf => ((To h hf).1 x hx hxf).1,fun hn s hs v hv => (Ada h (fun e => hn (by rw [e]; rfl)) hs).2 v hv⟩
def Ds (d : Db) : Int := if En Ea d = 0 then (if (Eo d).isSome = true then 0 else 13) else En Ea d
def Bu (d : Db) : List Hp := if En Ea d = 0 then (Eo d).getD [] else []
def Adb (s : Str) : Bool := !decide (s = []) && decide (Int.ofNat s.length <= 60)
def Ag7 (ss : List Str) (p : Pt) : Bool := if p.sort = [] then (Adb p.symbol && decide (p.arg = 0)) else (decide (p.symbol = []) && decide (p.sort ∈ ss))
theorem f156 (s : Str) (U : Sto) : Cv 156 [sV s] U (.bool (Adb s)) := by
 refine An Tryz.func156 rfl rfl fun hw hu0 => ?_
 refine G7 ?_;refine O1 (Ey (q := []) okC rfl rfl) ?_;refine G ?_;refine TAn 3 ?_ (fun hg => ?_) ?_
 rotate_left
 ·iterate 2 refine Gn hg ?_
  refine On hg (T9 (q := 60) okC rfl rfl) ?_;exact Ez
 refine G3 ?_;refine Bb hw rfl ?_;exact rfl
theorem f136 (d : Db) (U : Sto) (hB : DbB d) : Cv 136 [dbV d] U (.tup [slV eH 3 (Bu d),iV (Ds d)]) := by
 refine An Tryz.func136 rfl rfl fun hw hu0 => ?_
 refine G10 ?_;refine Ag rfl rfl rfl rfl (f152 Ea f214' d U hB) ?_;refine G7 ?_;refine Ab rfl ?_ ?_ <;> intro h1
 ·refine G6 ?_
  have hE : Ds d = En Ea d := if_neg (by simpa using h1)
  have hL : Bu d = [] := if_neg (by simpa using h1)
  refine G ?_
  exact ⟨_,rfl,.tup [slV eH 3 (Bu d),iV (Ds d)],U,ag_ hw nl (fun _ _ => rfl),nl,by rw [hE,hL]; exact .tup (.cons Dr (.cons (.same rfl) .nil)),rfl,rfl⟩
 ·have hc : En Ea d = 0 := by simpa using h1
  refine G4 ?_;refine Ag rfl rfl rfl rfl (f153 d U hB (Ag6 hc).1 (Ag6 hc).2) ?_;refine G12 ?_;refine Ab rfl ?_ ?_ <;> intro h2
  ·refine G5 ?_
   have hE : Ds d = 13 := by unfold Ds; rw [if_pos hc,if_neg (by simpa using h2)]
   have hL : Bu d = [] := by unfold Bu; rw [if_pos hc]; have h3 : (Eo d).isSome = false := (by simpa using h2); cases ho : Eo d with | none => rfl | some x => rw [ho] at h3; cases h3
   refine G ?_
   exact ⟨_,rfl,.tup [slV eH 3 (Bu d),iV (Ds d)],U,ag_ hw nl (fun _ _ => rfl),nl,by rw [hE,hL]; exact .tup (.cons Dr (.cons (.same rfl) .nil)),rfl,rfl⟩
  ·refine G7 ?_
   have hE : Ds d = 0 := by unfold Ds; rw [if_pos hc,if_pos (by simpa using h2)]
   have hL : Bu d = (Eo d).getD [] := by unfold Bu; rw [if_pos hc]
   refine G ?_
   exact ⟨_,rfl,.tup [slV eH 3 (Bu d),iV (Ds d)],U,ag_ hw nl (fun _ _ => rfl),nl,by rw [hE,hL]; exact .tup (.cons (.same (Aoz _)) (.cons (.same rfl) .nil)),rfl,rfl⟩
theorem Arj (s : Str) (l : List Str) : (l.any fun x => decide (s = x)) = decide (s ∈ l) := by
 rw [ex_]; simp [fo_]
theorem f191 (p : Pt) (g : Gr) (U : Sto) (hb : g.sorts.length < 1000000) : Cv 191 [.agg (ePt p),grV g] U (.bool (Ag7 g.sorts p)) := by
 refine An Tryz.func191 rfl rfl fun hw hu0 => ?_
 iterate 13 refine G ?_
 refine Ab rfl ?_ ?_ <;> intro h1
 ·refine G4 ?_;refine Ag rfl rfl rfl rfl (f156 p.symbol _) ?_;refine G ?_;refine TAn 3 ?_ (fun hg => ?_) ?_
  rotate_left
  ·iterate 3 refine Gn hg ?_
   exact Ez
  refine G3 ?_;refine Bb hw rfl ?_
  exact congrArg AV.bool (by have h : p.sort = [] := (by simpa using h1); exact (if_pos h).symm)
 ·refine G7 ?_;refine TAn 5 ?_ (fun hg => ?_) ?_
  rotate_left
  ·iterate 4 refine Gn hg ?_
   refine Bh rfl rfl rfl (by rw [hg]; rfl) rfl rfl rfl rfl (f30 g.sorts p.sort U Om) ?_
   exact Ez
  refine G3 ?_;refine Bb hw rfl ?_
  exact congrArg AV.bool (by have h : ¬ p.sort = [] := (by simpa using h1); unfold Ag7; rw [if_neg h,← Arj])
theorem f190 (p : Pt) (g : Gr) (U : Sto) (hb : g.sorts.length < 1000000) : Cv 190 [.agg (ePt p),.pv [Aq g.sorts,slV eR 4 g.rules]] U (.bool (!Ag7 g.sorts p)) := by
 refine An Tryz.func190 rfl rfl fun hw hu0 => ?_
 refine G9 ?_;refine Ag rfl rfl rfl rfl (f191 p g U hb) ?_;refine G4 ?_;refine Bb hw rfl ?_;exact rfl
theorem f137 (h : Hp) (U : Sto) : Cv 137 [.agg (eH h)] U (.bool (!h.floating)) := by
 refine An Tryz.func137 rfl rfl fun hw hu0 => ?_
 iterate 13 refine G ?_
 refine Bb hw rfl ?_;exact rfl
def L1 (p : Pt) : Bool := !decide (p.sort = [])
def C5 (l : List Pt) : List Pt := l.filter L1
theorem Iy {l : List Pt} {i : Nat} {p : Pt} (h : l[i]? = some p) : C5 (l.take (i + 1)) = C5 (l.take i) ++ (if L1 p = true then [p] else []) := by
 unfold C5; rw [B7 h,fy_]; cases hb : L1 p <;> simp [hb]
theorem it225 (L : RF) (r : Rl) (U : Sto) (S : List Pt -> Sto -> Prop) (hb : r.parts.length < 1000000) (h0 : S [] U)
  (hy : ∀ (i : Nat) (p : Pt) (U' : Sto),r.parts[i]? = some p -> L1 p = true -> nx U <= nx U' -> S (C5 (r.parts.take i)) U' -> YTo Ew L [.agg (ePt p)] U' (fun U'' => S (C5 (r.parts.take i) ++ [p]) U'')) :
  K5 Ew L 225 [.yl L.aY,.pv (eR r)] U (S (C5 r.parts)) := by
 refine Ai1 Tryz.func225 rfl rfl rfl fun hw hu0 => ?_
 refine Cd (Ek (Cm ?_));refine G5 ?_;refine Kl ?_;refine Ug (fun i => [(0,.yl L.aY),(6,slV ePt 3 r.parts),(7,iV (.ofNat r.parts.length)),(8,iV (.ofNat i))]) (fun i U0 => i <= r.parts.length /\ S (C5 (r.parts.take i)) U0 /\ nx U <= nx U0) (fun i => r.parts.length - i) 0 SL ⟨bh_ _,h0,nl⟩ ?_
 rintro i U0 ⟨hi0,hS0,hn0⟩;refine Cd (Ek (Cm ?_));refine G2 ?_;refine Cd ?_;refine Jf rfl ?_ ?_ <;> intro h1
 ·have bc : i < r.parts.length := by simpa using h1
  obtain ⟨p,hp⟩ := A6 bc;refine Je ?_;refine Cd ?_;refine Kl ?_;refine Cd (Ek (Cm ?_));refine G4 ?_;refine Cd (K4 ?_);refine D8 noR rfl rfl (Aj fdC rfl rfl) ?_;refine D8 noR rfl rfl (Ad ldC rfl rfl rfl) ?_;refine D8 noR rfl rfl (Ey (q := []) okC rfl rfl) ?_;refine D8 noR rfl rfl (Al rfl) ?_;have fin : ∀ (J : Ae) (U' : Sto),Ae.at J 8 = some (iV (.ofNat i)) -> Ae.at J 0 = some (.yl L.aY) -> Ae.at J 6 = some (slV ePt 3 r.parts) -> Ae.at J 7 = some (iV (.ofNat r.parts.length)) -> S (C5 (r.parts.take (i + 1))) U' -> nx U <= nx U' ->
    Lw [(0,.yl L.aY),(6,slV ePt 3 r.parts),(7,iV (.ofNat r.parts.length)),(8,iV (.ofNat i))] J /\ S (C5 (r.parts.take (i + 1))) U' /\ nx U <= nx U' := fun J U' e8 e0 e6 e7 hs hn => ⟨⟨e0,e6,e7,e8,trivial⟩,hs,hn⟩
  clear fin;cases hb : L1 p with
  | true =>
   have hb' : (!decide (p.sort = [])) = true := hb
   refine Ai0 rfl rfl rfl rfl (by rw [hb']; rfl) noR rfl rfl (Al rfl) ?_
   refine Ai0 rfl rfl rfl rfl (by rw [hb']; rfl) noR rfl rfl (Ad ldC rfl rfl rfl) ?_
   refine Uh (fun tm ht => by rw [Gf ht rfl rfl rfl rfl]; rw [hb']; rfl) rfl rfl rfl rfl (hy i p U0 hp hb hn0 hS0) fun U1 hS1 hn1 => ?_
   refine Ai0 rfl rfl rfl rfl (by rw [hb']; rfl) noR rfl rfl (F4 rfl) ?_
   refine D8 noR rfl rfl (B8 rfl hb' rfl) ?_;refine P0 ?_
   refine Jf rfl (fun h2 => by cases h2) (fun h2 => ?_)
   refine Je ?_;refine Ek (Cm ?_);refine G3 ?_
   exact ⟨i + 1,by omega,SL,bc,by rw [Iy hp,if_pos hb]; exact hS1,ax_ hn0 hn1⟩
  | false =>
   have hb' : (!decide (p.sort = [])) = false := hb
   refine Xy rfl rfl rfl rfl rfl (by rw [hb']; rfl) rfl ?_
   refine Xy rfl rfl rfl rfl rfl (by rw [hb']; rfl) rfl ?_
   refine Xy rfl rfl rfl rfl rfl (by rw [hb']; rfl) rfl ?_
   refine Xy rfl rfl rfl rfl rfl (by rw [hb']; rfl) rfl ?_
   refine D8 noR rfl rfl (A7 rfl hb' rfl) ?_;refine P0 ?_
   refine Jf rfl (fun h2 => by cases h2) (fun h2 => ?_)
   refine Je ?_;refine Ek (Cm ?_);refine G3 ?_
   exact ⟨i + 1,by omega,SL,bc,by rw [Iy hp,if_neg (by rw [hb]; simp),bi_]; exact hS0,hn0⟩
 ·have bk : r.parts.length <= i := by simpa using h1
  refine Z0 ?_
  show S (C5 r.parts) U0
  rw [av_ bk] at hS0; exact hS0
section
open Go Go.Proofs Go.Sort
abbrev eI (i : Int) : List AV := [iV i]
def Dm (l : List Int) : List Int := l.mergeSort fun x y => decide (x <= y)
theorem Ao9 {C : Ctx} {N : Nat} {w : World} {c : Nat} : ∀ {vs : List AV} {o j : Nat} {x : AV},RC C N w c vs o -> vs[j]? = some x -> ∃ v,w.cell? ⟨c,o + j,none⟩ = some v /\ v.oneCell = true /\ R C N w x v
 | [],_,_,_,_,h => by simp at h
 | y :: r,o,0,x,hr,h => by
  unfold RC at hr
  simp at h; subst h
  simpa using hr.1
 | y :: r,o,j + 1,x,hr,h => by
  unfold RC at hr
  have := Ao9 hr.2 (show r[j]? = some x by simpa using h)
  rwa [show o + 1 + j = o + (j + 1) by omega] at this
theorem Ase {C : Ctx} {N : Nat} {w : World} {c : Nat} : ∀ {vs : List AV} {o : Nat},(∀ j x,vs[j]? = some x -> ∃ v,w.cell? ⟨c,o + j,none⟩ = some v /\ v.oneCell = true /\ R C N w x v) -> RC C N w c vs o
 | [],_,_ => by unfold RC; trivial
 | y :: r,o,h => by
  unfold RC
  refine ⟨by simpa using h 0 y rfl,Ase fun j x hx => ?_⟩
  have := h (j + 1) x (by simpa using hx)
  rwa [show o + (j + 1) = o + 1 + j by omega] at this
theorem Apa : ∀ l : List Int,l.flatMap eI = l.map iV
 | [] => rfl
 | x :: l => by simp [Apa l]
theorem Asf (l : List Int) (tl : List AV) (j : Nat) (h : j < l.length) : (l.flatMap eI ++ tl)[j]? = some (iV l[j]) := by
 rw [Apa,bk_ (by simpa using h)]; simp [h]
theorem Apb (l : List Int) : (l.flatMap eI).length = l.length := by induction l with
 | nil => rfl
 | cons x l ih => simp [ih]
theorem Ul (l : List Int) : (Dm l).length = l.length := List.length_mergeSort l
theorem f193n (U : Sto) : Cv 193 [.nil (.slice none 0 0)] U Au := by
 refine Rm ⟨_,Tryz.func193,rfl,rfl⟩ fun C w vs ha => ?_
 obtain ⟨v,rfl,hv⟩ := Aom ha;unfold R at hv;obtain ⟨rfl,_⟩ := hv;exact ⟨_,Tryz.slices_Sort_int_none none 0 w,Sv⟩
theorem f193 (l : List Int) (a : Nat) (tl : List AV) (U : Sto) (hg : U.get a = some (.cells (l.flatMap eI ++ tl))) (hne : l ≠ []) (hl : l.length < 1000000) :
  Ao Ew 193 [.sr a 0 1 l.length none] U fun v U' => v = Au /\ U' = U.set a (.cells ((Dm l).flatMap eI ++ tl)) := by
 intro C w vs hs hgl ha;refine ⟨⟨_,Tryz.func193,rfl,rfl⟩,?_⟩;obtain ⟨v,rfl,hv⟩ := Aom ha;unfold R at hv;obtain ⟨ad,k,rfl,hN,hlk,_,bq⟩ := hv;obtain ⟨c,o,cs,T,hl1,hh,hrc⟩ := hs.obj a _ hg;have cv : 0 < l.length := List.length_pos_iff.2 hne;have had := (bq c o hl1).1 Om;subst had;rw [ev_]
 have hH : Holds (Value.int .i64) w c o l.toArray := fun j hj => by
  have hj : j < l.length := by simpa using hj
  obtain ⟨v,h1,_,h3⟩ := Ao9 hrc (Asf l tl j hj);unfold iV R at h3;subst h3
  refine ⟨by rw [h1]; simp [hj],?_⟩
  unfold World.frozen?;rw [hh]; simp
 refine (Tryz.slices_Sort_int c o k l w hH (hs.lt a c o hl1) Om).mono fun e w' he => ?_
 obtain ⟨rfl,n,os,rfl⟩ := he;have hd : (Dm l).length = l.length := Ul l;obtain ⟨s1,e1⟩ := hs.same (w' := Go.Sort.ahead w n) nl (fun b _ => rfl) ⟨rfl,rfl⟩
 have hH1 : Holds (Value.int .i64) (Go.Sort.ahead w n) c o l.toArray := hH
 have hwr : Wr (Go.Sort.ahead w n) (putRow (Value.int .i64) (Go.Sort.ahead w n) c o (Dm l).toArray) c (.cells (putCells (Value.int .i64) o (Dm l).toArray cs) T (0,0)) := by
  refine ⟨size_putRow ..,?_,fun b hb => ?_,rfl,rfl⟩
  ·show ((Go.Sort.ahead w n).heap.modify c (onCells _))[c]? = _
   rw [dp_,if_pos rfl]
   show (w.heap[c]?).map _ = _
   rw [hh]; rfl
  ·show ((Go.Sort.ahead w n).heap.modify c (onCells _))[b]? = _
   rw [dp_,if_neg (fi_ hb)]
 obtain ⟨s2,e2⟩ := s1.upd (O₀ := .cells (l.flatMap eI ++ tl)) hl1 hwr (by
   unfold csize;rw [hwr.here]
   show _ = (match w.heap[c]? with | some (.cells cs _ _) => cs.size | _ => 0)
   rw [hh]; simp [putCells]) hg (.cells ((Dm l).flatMap eI ++ tl)) rfl (fun _ _ _ h => by cases h) (fun e => by
   refine ⟨c,o,_,T,hl1,hwr.here,Ase fun j x hx => ?_⟩
   rw [Ac]
   by_cases hj : j < (Dm l).length
   ·rw [Asf _ tl j hj] at hx; cases hx
    refine ⟨_,cell?_putRow (Value.int .i64) (Go.Sort.ahead w n) c o l.toArray (Dm l).toArray hH1 (by simpa using hd) j (by simpa using hj),rfl,?_⟩
    unfold iV R; simp [hj]
   ·have hx' : (l.flatMap eI ++ tl)[j]? = some x := by
     rw [ch_ (by rw [Apb]; omega),Apb] at hx ⊢
     rw [← hd]; exact hx
    obtain ⟨v,h1,h2,h3⟩ := Ao9 hrc hx';refine ⟨v,?_,h2,R.ext (e1.trans e) _ _ h3⟩
    rw [cell?_putRow_other _ _ _ _ _ _ (.inr (.inr (by show o + (Dm l).toArray.size <= o + j; simp; omega)))]
    exact h1)
 obtain ⟨s3,e3⟩ := s2.same (w' := Go.Sort.grow (putRow (Value.int .i64) (Go.Sort.ahead w n) c o (Dm l).toArray) os) (by simp [Go.Sort.grow]) (fun b hb => by
   show (_ ++ os)[b]? = _
   rw [cw_ hb]) ⟨rfl,rfl⟩
 refine ⟨Au,_,C,⟨rfl,rfl⟩,s3,?_,Sv⟩;rw [Ac] at e3 ⊢;exact (e1.trans e2).trans e3
end
def Aew : List Int -> Nat -> Bool
 | [],_ => false
 | a :: r,i => !decide (a = Int.ofNat i) || Aew r (i + 1)
def D7 (r : Rl) : List Int := (C5 r.parts).map (·.arg)
def Gv (g : Gr) (r : Rl) : Bool :=
 if ((!Adb r.label || !(g.sorts.any fun x => decide (r.sort = x))) || r.parts.any (fun p => !Ag7 g.sorts p)) = true then false
 else if Aew (Dm (D7 r)) 0 = true then false
 else !r.var || (decide (Int.ofNat r.parts.length = 1) && decide (Int.ofNat (D7 r).length = 0))
theorem Aad {N : Nat} (p : Pt) : AV.unds N (ePt p) = true := rfl
theorem Aex {N : Nat} (r : Rl) : AV.unds N (eR r) = true := by
 show (true && (true && (AV.und N (slV ePt 3 r.parts) && (true && true)))) = true
 rw [Ka Aad r.parts]; rfl
theorem f192 (r : Rl) (U : Sto) : Cv 192 [.agg (eR r)] U (.fn (.func 225) [] [.pv (eR r)]) := by
 refine An Tryz.func192 rfl rfl fun hw hu0 => ?_
 refine G11 ?_
 exact ⟨_,rfl,_,_,ag_ hw nl (fun _ _ => rfl),nl,.same (by show (true && ((AV.unds (nx U) (eR r)) && true)) = true; rw [Aex]; rfl),rfl,rfl⟩
theorem f154 (r : Rl) (U : Sto) : Cv 154 [.agg (eR r)] U (.bool (decide ((200 : Int) < Int.ofNat r.parts.length))) := by
 refine An Tryz.func154 rfl rfl fun hw hu0 => ?_
 iterate 14 refine G ?_
 refine Bb hw rfl ?_;exact rfl
structure Apc (U : Sto) (l : List Pt) (U' : Sto) : Prop where
 mk' ::
 ex : ∃ v,U'.get (nx U + 1) = some (.cells [v]) /\ Own U' (nx U + 4) eI 1 (l.map (·.arg)) v /\ (l = [] -> v = .nil (.slice none 0 0)) /\ U'.get (nx U + 3) = some (.loop .ready) /\ (∀ b,b < nx U -> U'.get b = U.get b) /\ nx U + 4 <= nx U'
theorem Apc.rd {U U' : Sto} {l : List Pt} (h : Apc U l U') : U'.get (nx U + 3) = some (.loop .ready) := by obtain ⟨_,_,_,_,h,_⟩ := h.ex; exact h
theorem K5.post {E : Env} {L : RF} {f : Nat} {args : List AV} {U : Sto} {P P' : Sto -> Prop} (h : K5 E L f args U P) (k : ∀ U',P U' -> P' U') : K5 E L f args U P' := fun C w vs hi hs hg ha => (h C w vs hi hs hg ha).mono fun e w' he => by
 cases e with
 | returned x => obtain ⟨U',C',h1,h2⟩ := he; exact ⟨U',C',k _ h1,h2⟩
 | panicked _ => exact he.elim
 | outgrown => exact he.elim
abbrev gm_ := @K5.post
theorem K9 {U : Sto} {N sz : Nat} {α : Type} {enc : α -> List AV} {l : List α} {v : AV} (h : Own U N enc sz l v) : v.cellsN 1 = some [v] := by
 rcases h with ⟨_,rfl | rfl⟩ | ⟨a,tl,_,_,rfl,_⟩ <;> rfl
theorem f157 (r : Rl) (g : Gr) (U : Sto) (hb : r.parts.length < 1000000) (hgs : g.sorts.length < 1000000) : Cv 157 [.agg (eR r),grV g] U (.bool (Gv g r)) := by
 refine Ar7 Tryz.func157 (Oh _ _ Tryz.func157) rfl rfl fun hw hu0 => ?_
 refine Z1 ?_;refine G5 ?_;refine Z1 ?_;refine G4 ?_;refine Ag rfl rfl rfl rfl (f156 r.label _) ?_;refine G2 ?_;refine TOr 6 ?_ (fun hg => ?_) ?_
 rotate_left
 ·iterate 4 refine Gn hg ?_
  refine Bh rfl rfl rfl (by rw [hg]; rfl) rfl rfl rfl rfl (f30 g.sorts r.sort _ Om) ?_
  refine Gn hg ?_;exact Ez
 refine G ?_;refine TOr 4 ?_ (fun hg => ?_) ?_
 rotate_left
 ·iterate 3 refine Gn hg ?_
  refine Bh rfl rfl rfl (by rw [hg]; rfl) rfl rfl rfl rfl (f189 (fun p => !Ag7 g.sorts p) r.parts 190 [.pv [Aq g.sorts,slV eR 4 g.rules]] _ Om (fun p _ => f190 p g _ hgs)) ?_
  exact Ez
 refine G ?_;refine Ab rfl ?_ ?_ <;> intro h1
 ·refine G4 ?_;have hV : Gv g r = false := if_pos h1;refine G ?_
  exact ⟨_,rfl,.bool false,U,ag_ hw (by rw [A8]; omega) (fun a _ => Cy U a),nl,.same rfl,congrArg AV.bool hV.symm,rfl⟩
 ·refine G ?_;refine Z1 ?_;refine G ?_;refine O1 (Ct ziC) ?_;refine G ?_;refine Acv ?_;refine G2 ?_;refine Ag rfl rfl rfl rfl (f192 r _) ?_;refine G ?_
  -- U1: behind the variable
  have hA : nx U.bump = nx U + 1 := A8 U
  have h1n : nx (U.bump.new (.cells [.nil (.slice none 0 0)])) = nx U + 2 := by rw [Af,hA]
  have hsn : nx ((U.bump.new (.cells [.nil (.slice none 0 0)])).bump.new (.loop .ready)) = nx U + 4 := by rw [Af,A8,h1n]
  refine ⟨225,[.pv (eR r)],_,fun U' => Apc U (C5 r.parts) U',rfl,Tryz.func225,Oh _ _ Tryz.func225,rfl,fun tm ht => ?_,fun U' aD hS hn => ?_⟩
  ·rw [h1n];refine gm_ (it225 _ r _ (fun l U' => Apc U l U') hb ?_ ?_) fun U' hS => ⟨hS.rd,hS⟩
   ·refine ⟨⟨.nil (.slice none 0 0),?_,.nil,fun _ => rfl,?_,fun b hb' => ?_,by rw [hsn]; exact nl⟩⟩
    ·rw [ab_,A8,if_neg (by rw [h1n]; omega),Cy,ab_,if_pos hA.symm]
    ·rw [ab_,A8,if_pos (by rw [h1n])]
    ·rw [ab_,A8,if_neg (by rw [h1n]; omega),Cy,ab_,if_neg (by rw [hA]; omega),Cy]
   ·intro i p U' hp hpb hn' hS;obtain ⟨v,cg,bp,d6,hrd,cx,hnn⟩ := hS.ex;rw [hsn] at hn';have hnb : nx (U'.set (nx U + 3) (.loop .busy)) = nx U' := Ac _ _ _
    refine Aiz (JL := _) ht rfl rfl hrd (by show nx U + 3 < nx U'; omega) ?_
    refine Fc Kr ?_;refine G2 ?_;refine ⟨hrd,?_⟩;refine Uf (Fc Kr ?_)
    have cr : Own (U'.set (nx U + 3) (.loop .busy)) (nx U + 4) eI 1 ((C5 (r.parts.take i)).map (·.arg)) v := bp.mono (by rw [hnb]; exact nl) fun a tl _ h8 h9 _ => by rw [a_,if_neg Om]
    have bv : ((C5 (r.parts.take i)).map (·.arg)).length <= i := by
     rw [bs_]
     exact ax_ (dt_ _ _) (by rw [bn_]; omega)
    have hil : i < r.parts.length := (aa_.1 hp).1
    have bz : (((C5 (r.parts.take i)).map (·.arg)).length + [p.arg].length) * (8 + 1) <= sizeLim := by simp only [bv_,sizeLim]; omega
    obtain ⟨v1,τ1,hap,ho1,hb1,hk1⟩ := cr.app (by' := 8) (enc := eI) (sz := 1) (fun _ => rfl) (by rw [hnb]; omega) [p.arg] bz
    have cz : (U'.set (nx U + 3) (.loop .busy)).get (nx U + 1) = some (.cells [v]) := by rw [a_,if_neg Om]; exact cg
    have ey : τ1.get (nx U + 1) = some (.cells [v]) := (hb1.2 _ Om).trans cz
    refine O1 (Ad (u := .pr (nx U + 1) 0) (cs := [v]) ldC (by rw [← hA]; rfl) (by simp only [Bk,Sto.cells,cz]; rfl) rfl) ?_
    refine G2 ?_
    refine C1 (As elC byW rfl rfl rfl) (D6 (len := 1)) rfl rfl (O1 (A3 elC rfl slC rfl rfl rfl (new := eI p.arg) rfl hap) (O1 (Aw (ad := nx U + 1) (off := 0) (vs := [v]) (vs' := [v1]) (cs := [v1]) ldC (by rw [← hA]; rfl) rfl (K9 ho1) (by simp only [Sto.cells,ey]) rfl) ?_))
    refine G ?_
    have hn1 : nx U + 4 <= nx τ1 := ax_ (by rw [hnb]; omega) hb1.1
    refine ⟨by rw [a_,if_neg (by show ¬ nx U + 3 = nx U + 1; omega),hb1.2 _ (by show nx U + 3 < nx U + 4; omega),a_,if_pos rfl],⟨v1,?_,?_,fun h => (by simp at h),by rw [a_,if_pos rfl],fun b hb' => ?_,by rw [Ac,Ac]; exact hn1⟩⟩
    ·rw [a_,if_neg (by show ¬ nx U + 1 = nx U + 3; omega),a_,if_pos rfl]
    ·rw [cz_]
     exact ho1.mono (by rw [Ac,Ac]; exact nl) fun a tl _ h8 h9 _ => by rw [a_,if_neg (by show ¬ a = nx U + 3; omega),a_,if_neg Om]
    ·rw [a_,if_neg (by show ¬ b = nx U + 3; omega),a_,if_neg Om,hb1.2 b Om,a_,if_neg Om]
     exact cx b hb'
  ·have hS' : Apc U (C5 r.parts) U' := hS;obtain ⟨v,cg,bp,d6,hrd,cx,hnn⟩ := hS'.ex;rw [h1n];have hnk : nx (U'.kill (nx U + 2 + 1)) = nx U' := Bn _ _
   have hgk : ∀ b,b ≠ nx U + 3 -> (U'.kill (nx U + 2 + 1)).get b = U'.get b := fun b hb' => by rw [cp_,if_neg hb']
   have bv : (D7 r).length < 1000000 := by
    unfold D7 C5;rw [bs_];exact dd_ (dt_ _ _) hb
   have d7 : Own (U'.kill (nx U + 2 + 1)) (nx U + 4) eI 1 (D7 r) v := bp.mono (by rw [hnk]; exact nl) fun a tl _ h8 h9 _ => hgk a Om
   obtain ⟨Us,dh,hcs,d9,nf,hns⟩ : ∃ Us,(Ao Ew 193 [v] (U'.kill (nx U + 2 + 1)) fun u τ => u = Au /\ τ = Us) /\ Us.get (nx U + 1) = some (.cells [v]) /\ Own Us (nx U + 4) eI 1 (Dm (D7 r)) v /\ (∀ b,b < nx U -> Us.get b = U.get b) /\ nx U + 4 <= nx Us := by
    by_cases hne : D7 r = []
    ·have hv : v = .nil (.slice none 0 0) := d6 (by unfold D7 at hne; exact List.map_eq_nil_iff.1 hne)
     subst hv
     refine ⟨_,f193n _,(hgk _ Om).trans cg,?_,fun b hb' => (hgk b Om).trans (cx b hb'),by rw [hnk]; exact hnn⟩
     rw [hne] at d7 ⊢
     rw [show Dm [] = [] by simp [Dm]]
     exact d7
    ·rcases d7 with ⟨h0,_⟩ | ⟨a,tl,ha1,ha2,rfl,ha3⟩
     ·exact absurd h0 hne
     ·refine ⟨_,f193 (D7 r) a tl _ ha3 hne bv,?_,.inr ⟨a,tl,ha1,by rw [Ac]; exact ha2,by rw [Ul],by rw [a_,if_pos rfl]⟩,fun b hb' => ?_,by rw [Ac,hnk]; exact hnn⟩
      ·rw [a_,if_neg Om,hgk _ Om]; exact cg
      ·rw [a_,if_neg Om,hgk _ Om]; exact cx b hb'
   have hsl : (Dm (D7 r)).length = (D7 r).length := Ul _
   have bt : nx U <= nx Us /\ ∀ b,b < nx U -> Us.get b = U.get b := ⟨by omega,nf⟩
   have hld : ∀ τ : Sto,τ.get (nx U + 1) = some (.cells [v]) -> Bk τ (.pr (nx U + 1) 0) = some [v] := fun τ h => by simp only [Bk,Sto.cells,h]; rfl
   have hno : ∀ b : Bool,Gv g r = b -> T Ew Tryz.f157.ntmps [(Fo,[.yl aD,.yl (nx U)])] (nx U + 1) .ret (Aiq (Wo Ew Tryz.f157 (nx U) fun v U' => v = .bool (Gv g r) /\ U' = U)) [(4,.bool b)] Us := fun b hb' => by
    refine G ?_;exact ⟨_,rfl,.bool b,U,ag_ hw bt.1 bt.2,nl,.same rfl,congrArg AV.bool hb'.symm,rfl⟩
   refine G2 ?_
   refine O1 (Ad (u := .pr (nx U + 1) 0) (cs := [v]) ldC (by rw [← hA]; rfl) (hld _ ((hgk _ Om).trans cg)) rfl) ?_
   refine Ag rfl rfl rfl rfl dh ?_;refine G4 ?_
   refine O1 (Ad (u := .pr (nx U + 1) 0) (cs := [v]) ldC (by rw [← hA]; rfl) (hld _ hcs) rfl) ?_
   refine O1 (B0 slC rfl d9.lenA.1 d9.lenA.2) ?_;refine G3 ?_
   refine Bq (Dm (D7 r)).length (fun i2 => [(2,.pv (eR r)),(5,.pr (nx U + 1) 0),(37,v),(38,iV (.ofNat (Dm (D7 r)).length)),(39,iV (.ofNat i2))]) (fun i2 U2 => U2 = Us /\ Aew (Dm (D7 r)) 0 = Aew ((Dm (D7 r)).drop i2) i2) ⟨rfl,by rw [← hA]; rfl,rfl,rfl,rfl,trivial⟩ ⟨rfl,rfl⟩ ?_
   rintro i2 U2 hi2 ⟨rfl,hf2⟩;refine G5 ?_;refine Ab rfl ?_ ?_ <;> intro h2
   ·have bw : i2 < (Dm (D7 r)).length := by simpa using h2
    obtain ⟨u2,ha2⟩ := A6 bw;have hd2 := Ay ha2
    have hov : ∃ a tl,v = .sr a 0 1 (Dm (D7 r)).length none /\ U2.get a = some (.cells ((Dm (D7 r)).flatMap eI ++ tl)) := by
     rcases d9 with ⟨h0,_⟩ | ⟨a,tl,_,_,k3,k4⟩
     ·rw [h0] at bw; exact absurd bw (by simp)
     ·exact ⟨a,tl,k3,k4⟩
    obtain ⟨a,tl,hv,hga⟩ := hov;refine G6 ?_;refine O1 (Cj (a := a) (m := (Dm (D7 r)).length) (cap := none) elC (congrArg some hv) rfl bw) (O1 (Jn (l := Dm (D7 r)) (enc := eI) (u := u2) (v := iV u2) (fun _ => rfl) ldC rfl hga ha2 (fun _ => rfl)) ?_)
    refine G9 ?_;refine Ab rfl ?_ ?_ <;> intro h3
    ·refine G4 ?_
     have hV : Gv g r = false := (if_neg (by rw [h1]; simp)).trans (if_pos (by rw [hf2,hd2,Aew,show (!decide (u2 = Int.ofNat i2)) = true from h3]; rfl))
     refine G ?_;exact ⟨_,rfl,.bool false,U,ag_ hw bt.1 bt.2,nl,.same rfl,congrArg AV.bool hV.symm,rfl⟩
    ·refine G5 ?_
     refine ⟨bw,SL,rfl,by rw [hf2,hd2,Aew,show (!decide (u2 = Int.ofNat i2)) = false from h3]; rfl⟩
   ·have b6 : (Dm (D7 r)).length <= i2 := by simpa using h2
    have jl : Aew (Dm (D7 r)) 0 = false := by rw [hf2,ah_ b6]; rfl
    have hV : Gv g r = (!r.var || (decide (Int.ofNat r.parts.length = 1) && decide (Int.ofNat (D7 r).length = 0))) := (if_neg (by rw [h1]; simp)).trans (if_neg (by rw [jl]; simp))
    have hV' : Gv g r = (!r.var || (decide (Int.ofNat r.parts.length = 1) && decide (Int.ofNat (Dm (D7 r)).length = 0))) := by rw [hV,hsl]
    refine G7 ?_
    rcases au_ (!r.var) with hg | hg
    ·iterate 9 refine Gn hg ?_
     refine O1 (B8 rfl hg rfl) ?_;refine G2 ?_
     exact (hno true (by rw [hV',hg]; rfl)).sub ⟨rfl,trivial⟩
    ·iterate 5 refine Gn hg ?_
     rcases (au_ (decide (Int.ofNat r.parts.length = 1))).symm with h1l | h1l
     ·refine Ra rfl rfl rfl rfl (by rw [h1l]; rfl) rfl ?_
      refine Ra rfl rfl rfl rfl (by rw [h1l]; rfl) rfl ?_
      refine Ra rfl rfl rfl rfl (by rw [h1l]; rfl) rfl ?_
      refine On hg (A7 rfl h1l rfl) (O1 (A7 rfl hg rfl) ?_);refine G2 ?_
      exact (hno false (by rw [hV',hg,h1l]; rfl)).sub ⟨rfl,trivial⟩
     ·refine Zj rfl rfl rfl rfl (by rw [h1l]; rfl) noR rfl rfl (Ad (u := .pr (nx U + 1) 0) (cs := [v]) ldC rfl (hld _ hcs) rfl) ?_
      refine Zj rfl rfl rfl rfl (by rw [h1l]; rfl) noR rfl rfl (B0 slC rfl d9.lenA.1 d9.lenA.2) ?_
      refine Zj rfl rfl rfl rfl (by rw [h1l]; rfl) noR rfl rfl (Mz (q := 0) okC rfl rfl) ?_
      refine On hg (B8 rfl h1l rfl) (O1 (A7 rfl hg rfl) ?_);refine G2 ?_
      exact (hno (decide (Int.ofNat (Dm (D7 r)).length = 0)) (by rw [hV',hg,h1l]; rfl)).sub ⟨rfl,trivial⟩
def Aae : List Str -> SM Bool -> Bool
 | [],_ => false
 | s :: r,m => (!Adb s || m.has s) || Aae r (m.put s true)
def Tq (g : Gr) : List Rl -> SM Bool -> Bool
 | [],_ => false
 | r :: l,m => (!Gv g r || m.has r.label) || Tq g l (m.put r.label true)
def Ni (g : Gr) : Int :=
 if ((decide ((32 : Int) < Int.ofNat g.sorts.length) || decide ((600 : Int) < Int.ofNat g.rules.length)) || g.rules.any (fun r => decide ((200 : Int) < Int.ofNat r.parts.length))) = true then 4
 else if Aae g.sorts [] = true then 151 else if Tq g g.rules [] = true then 151 else 0
structure GrB (g : Gr) : Prop where
 s : g.sorts.length < 1000000
 r : g.rules.length < 1000000
 p : ∀ r ∈ g.rules,r.parts.length < 1000000
theorem f139 (g : Gr) (U : Sto) (hB : GrB g) : Cv 139 [grV g] U (iV (Ni g)) := by
 refine An Tryz.func139 rfl rfl fun hw hu0 => ?_
 have hbs := hB.s;have hbr := hB.r
 iterate 17 refine G ?_
 refine TOr 4 ?_ (fun hg => ?_) ?_
 rotate_left
 ·iterate 4 refine Gn hg ?_
  exact Ez
 refine G ?_;refine TOr 4 ?_ (fun hg => ?_) ?_
 rotate_left
 ·iterate 3 refine Gn hg ?_
  refine Bh rfl rfl rfl (by rw [hg]; rfl) rfl rfl rfl rfl (f155 (fun r => decide ((200 : Int) < Int.ofNat r.parts.length)) g.rules 154 [] U (by have := hB.r; omega) (fun r _ => f154 r U)) ?_
  exact Ez
 refine G ?_;refine Ab rfl ?_ ?_ <;> intro h1
 ·refine G4 ?_;have hE : Ni g = 4 := (if_pos h1);refine G ?_;exact ⟨_,rfl,_,U,as_ hw fj_,nl,.same rfl,congrArg iV hE.symm,rfl⟩
 ·refine G3 ?_;refine O1 (M0 Th) ?_;refine G11 ?_
  refine Bq g.sorts.length (fun i0 => [(1,.pv [Aq g.sorts,slV eR 4 g.rules]),(4,.mp (nx U)),(27,Aq g.sorts),(28,iV (.ofNat g.sorts.length)),(29,iV (.ofNat i0))]) (fun i0 U0 => ∃ m,E2 U0 (nx U) m /\ nx U <= nx U0 /\ (∀ b,b < nx U -> U0.get b = U.get b) /\ Aae g.sorts [] = Aae (g.sorts.drop i0) m) SL ⟨[],⟨0,by rw [ab_,if_pos rfl]; rfl⟩,by rw [Af]; omega,fun b hb => by rw [ab_,if_neg Om],rfl⟩ ?_
  rintro i0 U0 hi0 ⟨m,hm0,hn0,hg0,hf0⟩;refine G5 ?_;refine Ab rfl ?_ ?_ <;> intro h2
  ·have bc : i0 < g.sorts.length := by simpa using h2
   obtain ⟨a0,ha0⟩ := A6 bc;have hd0 := Ay ha0;obtain ⟨vm,hvm⟩ := id hm0
   iterate 13 refine G ?_
   refine Ag rfl rfl rfl rfl (f156 a0 _) ?_;refine G2 ?_;refine TOr 3 ?_ (fun hg => ?_) ?_
   rotate_left
   ·iterate 2 refine Gn hg ?_
    refine On hg (Cx st9 Th rfl hm0 rfl) ?_;exact Ez
   refine G ?_;refine Ab rfl ?_ ?_ <;> intro h3
   ·refine G4 ?_
    have hE : Ni g = 151 := ((if_neg (fun hh => Bool.noConfusion (h1.symm.trans hh))).trans (if_pos (by rw [hf0,hd0,Aae,show (!Adb a0 || m.has a0) = true from h3]; rfl)))
    refine G ?_;exact ⟨_,rfl,_,U,as_ hw ⟨hn0,hg0⟩,nl,.same rfl,congrArg iV hE.symm,rfl⟩
   ·refine G4 ?_
    refine O1 (Fl (v := true) st9 Th rfl hvm rfl rfl (fun te k1 k2 => by first | exact Gt k1 k2 | exact Hk k1 k2 | exact Gu k1 k2 | exact H8 k1 k2 | exact F8 k1 k2 rfl)) ?_
    refine G5 ?_
    refine ⟨bc,SL,m.put a0 true,ds_,by rw [Ac]; exact hn0,fun b hb => by rw [a_,if_neg Om]; exact hg0 b hb,by rw [hf0,hd0,Aae,show (!Adb a0 || m.has a0) = false from h3]; rfl⟩
  ·have bk : g.sorts.length <= i0 := by simpa using h2
   have hs1 : Aae g.sorts [] = false := by rw [hf0,ah_ bk]; rfl
   obtain ⟨vm,hvm⟩ := id hm0;refine G4 ?_;refine O1 (Ami Th rfl hvm) ?_;refine G10 ?_
   refine Bq g.rules.length (fun i2 => [(1,.pv [Aq g.sorts,slV eR 4 g.rules]),(4,.mp (nx U)),(46,slV eR 4 g.rules),(47,iV (.ofNat g.rules.length)),(48,iV (.ofNat i2))]) (fun i2 U2 => ∃ m,E2 U2 (nx U) m /\ nx U <= nx U2 /\ (∀ b,b < nx U -> U2.get b = U.get b) /\ Tq g g.rules [] = Tq g (g.rules.drop i2) m) SL ⟨[],⟨vm + 1,by rw [a_,if_pos rfl]; rfl⟩,by rw [Ac]; exact hn0,fun b hb => by rw [a_,if_neg Om]; exact hg0 b hb,rfl⟩ ?_
   rintro i2 U2 hi2 ⟨m2,hm2,hn2,hg2,hf2⟩;refine G5 ?_;refine Ab rfl ?_ ?_ <;> intro h3
   ·have bw : i2 < g.rules.length := by simpa using h3
    obtain ⟨a2,ha2⟩ := A6 bw;have hd2 := Ay ha2;obtain ⟨vm2,pe⟩ := id hm2
    iterate 14 refine G ?_
    refine Ag rfl rfl rfl rfl (f157 a2 g _ (hB.p a2 (ae_ ha2)) hB.s) ?_;refine G2 ?_;refine TOr 4 ?_ (fun hg => ?_) ?_
    rotate_left
    ·iterate 3 refine Gn hg ?_
     refine On hg (Cx st9 Th rfl hm2 rfl) ?_;exact Ez
    refine G ?_;refine Ab rfl ?_ ?_ <;> intro h4
    ·refine G4 ?_
     have hE : Ni g = 151 := ((if_neg (fun hh => Bool.noConfusion (h1.symm.trans hh))).trans ((if_neg (by rw [hs1]; simp)).trans (if_pos (by rw [hf2,hd2,Tq,show (!Gv g a2 || m2.has a2.label) = true from h4]; rfl))))
     refine G ?_;exact ⟨_,rfl,_,U,as_ hw ⟨hn2,hg2⟩,nl,.same rfl,congrArg iV hE.symm,rfl⟩
    ·refine G5 ?_
     refine O1 (Fl (v := true) st9 Th rfl pe rfl rfl (fun te k1 k2 => by first | exact Gt k1 k2 | exact Hk k1 k2 | exact Gu k1 k2 | exact H8 k1 k2 | exact F8 k1 k2 rfl)) ?_
     refine G5 ?_
     refine ⟨bw,SL,m2.put a2.label true,ds_,by rw [Ac]; exact hn2,fun b hb => by rw [a_,if_neg Om]; exact hg2 b hb,by rw [hf2,hd2,Tq,show (!Gv g a2 || m2.has a2.label) = false from h4]; rfl⟩
   ·have b6 : g.rules.length <= i2 := by simpa using h3
    have hs2 : Tq g g.rules [] = false := by rw [hf2,ah_ b6]; rfl
    refine G5 ?_
    have hE : Ni g = 0 := ((if_neg (fun hh => Bool.noConfusion (h1.symm.trans hh))).trans ((if_neg (by rw [hs1]; simp)).trans (if_neg (by rw [hs2]; simp))))
    refine G ?_;exact ⟨_,rfl,_,U,as_ hw ⟨hn2,hg2⟩,nl,.same rfl,congrArg iV hE.symm,rfl⟩
end Go.AM
