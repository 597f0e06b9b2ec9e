/- A part of the proof; shortened by program. -/
import Derived.Shelf.Strings.FuncGrows
import Derived.Laws.Runes
import Derived.Deep.QuietTactic
import Derived.BigQuiet
import Derived.Test.YtadnlmhnjfmleaaGreatDoorP18
set_option maxRecDepth 100000
set_option maxHeartbeats 4000000
set_option linter.unusedSimpArgs false
set_option linter.unusedVariables false
namespace Go.AM
open Go Go.Proofs
theorem Amx {N : Nat} : ∀ m : SM Str,H9 N (B1 sV m) = true := fun m => Acr (fun _ => rfl) m
theorem f141 (a b va : Nat) (M N : SM Str) (J : Sto) (ha : J.get a = some (.map 9 (B1 sV M) va)) (hb : A8 sV J b N) (hab : a ≠ b) (sM : SM.Srt M) (sN : SM.Srt N) :
  Aq Ew 141 [.mp a,.mp b] J fun v J' => v = An /\ J' = J.set a (.map 9 (B1 sV (SM.over N M)) (va + N.length)) := by
 refine Ak Tryz.func141 rfl rfl fun hw hu0 => ?_
 refine T_itv fun hi => ?_
 obtain ⟨vb,hb⟩ := hb;have hla : a < nx J := (hw _ _ ha).1;have hlb : b < nx J := (hw _ _ hb).1;refine G3 ?_;refine O1 (Ag6 Ac6 rfl hb) ?_;refine G2 ?_;refine Dt (fun q : SM Str × SM Str => [(0,.mp a),(7,.it (nx J))])
  (fun q J0 => (∃ cur,J0.get (nx J) = some (.iter (some b) vb (B1 sV q.1) cur)) /\ J0.get a = some (.map 9 (B1 sV q.2) (va + (N.length - q.1.length))) /\ q.1.length <= N.length /\ nx J <= nx J0 /\ (∀ c,c < nx J -> c ≠ a -> J0.get c = J.get c) /\ SM.Srt q.2 /\ SM.Key1 q.1 /\ (q.1 = N -> q.2 = M) /\ ∀ s,(q.1.get s).or (q.2.get s) = (N.get s).or (M.get s))
  (fun q => q.1.length) (N,M) SL
  ⟨⟨none,by rw [ab_,if_pos rfl]⟩,by rw [ab_,if_neg Om,ha,Nat.sub_self]; rfl,nl,by rw [Ac]; omega,fun c hc _ => by rw [ab_,if_neg Om],sM,sN.key1,fun _ => rfl,fun _ => rfl⟩ ?_
 rintro ⟨left,M1⟩ J0 ⟨⟨cur,hit⟩,hM,hln,hn,hk,hs,hk1,hid,hg⟩;simp only at hit hM hln hs hk1 hid hg;refine G ?_
 refine Aor rfl rfl rfl hit (by show (match J0.get b with | some (.map _ _ v) => Nat.beq v vb | _ => false) = true; rw [hk b hlb (go_ hab),hb]; exact bm_ _) (fun h0 => ?_) (fun p hp => ?_)
 ·have h0' : left = [] := by cases left with
   | nil => rfl
   | cons x l => cases h0
  subst h0';refine G3 ?_
  refine Ab rfl (fun h1 => by cases h1) (fun h1 => ?_)
  refine G ?_
  have hO : M1 = SM.over N M := hs.ext (SM.Srt.over sM) fun s => by rw [SM.get_over sN.key1,← hg s]; simp [SM.get]
  subst hO
  refine ⟨_,rfl,An,J.set a (.map 9 (B1 sV (SM.over N M)) (va + N.length)),Hl.setMap hw hi ha (Amx _) ?_ (by rw [Ae]; exact hn) (fun c hc hne => ?_) ?_,by rw [Ae]; exact nl,.same rfl,rfl,rfl⟩
  ·cases N with
   | nil => exact .inr ⟨rfl,rfl⟩
   | cons x l => exact .inl (by simp only [ap_]; omega)
  ·rw [a_,if_neg Om]; exact hk c hc hne
  ·rw [a_,if_neg Om,hM]; simp
 ·obtain ⟨q,hq,rfl⟩ := Si hp;obtain ⟨q1,q2,q3⟩ := Aab hk1 hq;obtain ⟨_,_,q4⟩ := Qu hq
  have hM' : (J0.set (nx J) (.iter (some b) vb (B1 sV q.2) (some (kS q.1.1,sV q.1.2)))).get a = some (.map 9 (B1 sV M1) (va + (N.length - left.length))) := by rw [a_,if_neg Om]; exact hM
  refine G3 ?_
  refine Ab rfl (fun h1 => ?_) (fun h1 => by cases h1)
  refine G4 ?_
  refine O1 (Ag7 rfl (by rw [a_,if_pos rfl]) (by rw [a_,if_neg Om,hk b hlb (go_ hab)]; exact hb)) ?_
  refine G9 ?_;refine O1 (Ec (v := q.1.2) st9 Ac6 rfl hM' rfl rfl (fun te k1 k2 => Ey k1 k2)) ?_
  refine G ?_
  refine ⟨(q.2,M1.put q.1.1 q.1.2),by show q.2.length < left.length; omega,SL,⟨_,by rw [a_,if_neg Om,a_,if_pos rfl]⟩,?_,by show q.2.length <= N.length; omega,by rw [Ae,Ae]; exact hn,fun c hc hne => ?_,hs.put,q1,fun hh => ?_,fun s => ?_⟩
  ·rw [a_,if_pos rfl]
   show some _ = some (AO.map 9 _ (va + (N.length - q.2.length)))
   congr 2; omega
  ·rw [a_,if_neg Om,a_,if_neg Om]; exact hk c hc hne
  ·have : q.2.length = N.length := congrArg List.length hh;omega
  ·show (SM.get q.2 s).or ((M1.put q.1.1 q.1.2).get s) = _
   rw [← hg s,q3 s,cc_]
   by_cases hs : s = q.1.1
   ·subst hs; simp [q2]
   ·simp [hs]
def Kn.fr (k : Kn) (s : Str) : Kn := { k with frames := k.frames.put s true }
def Ji (k : Kn) (nh : Nat) : List Hp -> Nat -> SM Bool -> SM Str -> Int × SM Str
 | [],_,_,ty => (0,ty)
 | h :: r,i,lab,ty => if (!decide (Xv k lab ty h (decide (Int.ofNat nh <= Int.ofNat i)) = 0)) = true then (Xv k lab ty h (decide (Int.ofNat nh <= Int.ofNat i)),ty)
  else Ji k nh r (i + 1) (lab.put h.label true) (if h.floating = true then ty.put (h.text.tail.headD []) (h.text.headD []) else ty)
def prfB (pw : Str -> Bool) (f : Fr) : Bool := decide ((0 : Int) < Int.ofNat f.proof.length) && ((!f.thm || decide ((8000 : Int) < Int.ofNat f.proof.length)) || f.proof.any (fun s => !pw s))
def Fr.all (f : Fr) : List Hp := [f.hyps,f.dummies].flatten
def Kn.hyps' (k : Kn) (l : List Hp) : Kn := { k with hyps := l.foldl (fun m h => m.put h.label h) k.hyps }
def Ajs (f : Fr) : List Hp := D0 (fun h => h.floating) f.hyps
def Alc (f : Fr) (before : List Hp) : List Hp := (Ajs f).drop (G0 before (Ajs f))
def knF (k : Kn) (f : Fr) : Kn := { (k.fr f.label).hyps' f.all with types := SM.over (Ji (k.fr f.label) f.hyps.length f.all 0 [] []).2 k.types }
def E2 (pw : Str -> Bool) (k : Kn) (f : Fr) (before : List Hp) : Int :=
 if (!Kt [2] f.label) = true then 2
 else if (((k.hyps.get f.label).isSome || k.isSym f.label) || k.frames.has f.label) = true then 6
 else if (decide ((40 : Int) < Int.ofNat f.hyps.length) || decide ((40 : Int) < Int.ofNat f.dummies.length)) = true then 4
 else if (!decide ((Ji (k.fr f.label) f.hyps.length f.all 0 [] []).1 = 0)) = true then (Ji (k.fr f.label) f.hyps.length f.all 0 [] []).1
 else if (!decide ((k.fr f.label).textF f.text = 0)) = true then (k.fr f.label).textF f.text
 else if (!decide (Kv (k.fr f.label) f = 0)) = true then Kv (k.fr f.label) f
 else if prfB pw f = true then 2
 else if ((Alc f before).any fun h => ((k.fr f.label).hyps.get h.label).isSome) = true then 7 else 0
structure FrB (f : Fr) : Prop where
 h : f.hyps.length < 1000000
 a : f.all.length < 1000000
 t : f.text.length < 1000000
 x : ∀ h ∈ f.all,h.text.length < 1000000
 w : f.wide.length < 1000000
 p : f.proof.length < 1000000
def Ald (m : Nat) (J J' : Sto) : Prop := nx J <= nx J' /\ ∀ b,b < nx J -> (b < m ∨ m + 5 <= b) -> J'.get b = J.get b
theorem nx1 {J : Sto} {n : Nat} {o : AO} (h : nx J = n) : nx (J.new o) = n + 1 := by rw [Ac,h]
theorem Bq {ρ : Ad} {J : Sto} {Rr : Rec} {t n kt sz : Nat} {agg : Bool} {z : AV} (hi : mpI Ew.P t = some (kt,z,sz,agg)) (hn : nx J = n) : A0 Ew Rr (.makeMap t none) ρ J (.mp n) (J.new (.map kt [] 0)) := by subst hn; exact Kl hi
theorem Gc.fr {J J' : Sto} {m : Nat} {k : Kn} {s : Str} {ver : Nat} (hk : Gc J m k) (hw : WFS J) (hf : J'.get (m + 2) = some (.map 9 (B1 bV (k.frames.put s true)) ver)) (hg : ∀ b,b < nx J -> b ≠ m + 2 -> J'.get b = J.get b) : Gc J' m (k.fr s) :=
 ⟨hk.c.of_get (hg _ (hk.c.lt hw) Om),hk.v.of_get (hg _ (hk.v.lt hw) Om),⟨ver,hf⟩,hk.h.of_get (hg _ (hk.h.lt hw) Om),hk.t.of_get (hg _ (hk.t.lt hw) Om)⟩
theorem Gc.hi {J : Sto} {m a : Nat} {k : Kn} {O : AO} (hk : Gc J m k) (h : m + 5 <= a) : Gc (J.set a O) m k := ⟨hk.c.set Om,hk.v.set Om,hk.f.set Om,hk.h.set Om,hk.t.set Om⟩
theorem Gc.hp {J : Sto} {m ver : Nat} {k : Kn} {h : Hp} (hk : Gc J m k) : Gc (J.set (m + 3) (.map 9 (B1 hV (k.hyps.put h.label h)) ver)) m { k with hyps := k.hyps.put h.label h } :=
 ⟨hk.c.set Om,hk.v.set Om,hk.f.set Om,dj_,hk.t.set Om⟩
theorem Gc.ty {J : Sto} {m ver : Nat} {k : Kn} {ty : SM Str} (hk : Gc J m k) : Gc (J.set (m + 4) (.map 9 (B1 sV ty) ver)) m { k with types := ty } :=
 ⟨hk.c.set Om,hk.v.set Om,hk.f.set Om,hk.h.set Om,dj_⟩
structure Amy (J J0 : Sto) (m : Nat) (k : Kn) (lab : SM Bool) (ty : SM Str) : Prop where
 n : nx J0 = nx J + 2
 g : ∀ b,b < nx J -> b ≠ m + 2 -> J0.get b = J.get b
 k : Gc J0 m k
 l : Eo J0 (nx J) lab
 t : A8 sV J0 (nx J + 1) ty
 s : SM.Srt ty
theorem Amy.up {J J0 : Sto} {m : Nat} {k : Kn} {lab : SM Bool} {ty : SM Str} (h : Amy J J0 m k lab ty) : Ald m J J0 := ⟨by rw [h.n]; omega,fun b hb hm => h.g b hb Om⟩
theorem Ahg {k : Kn} {lab : SM Bool} {ty : SM Str} {h : Hp} {du : Bool} (h0 : Xv k lab ty h du = 0) (hf : h.floating = true) : ∃ a b,h.text = [a,b] := by
 have h2 : h.text.length = 2 := by
  unfold Xv at h0
  split at h0
  ·cases h0
  ·rename_i hb
   simp [Asi,hf] at hb
   omega
 match h.text,h2 with
 | [a,b],_ => exact ⟨a,b,rfl⟩
theorem Ajt (k : Kn) (l : List Hp) (h : Hp) : k.hyps' (l ++ [h]) = { k.hyps' l with hyps := (k.hyps' l).hyps.put h.label h } := by
 unfold Kn.hyps'; rw [dp_]; rfl
theorem FrB.ess {f : Fr} (h : FrB f) : ∀ t ∈ f.text :: He f.hyps,t.length < 1000000 := fun t ht => by
 rcases ai_.1 ht with rfl | ht
 ·exact h.t
 ·obtain ⟨x,hx,rfl⟩ := cf_.1 ht
  exact h.x x (List.mem_flatten.2 ⟨f.hyps,by simp,(cx_.1 hx).1⟩)
theorem Ao9 {e : Int} (h : (!decide (e = 0)) = false) : e = 0 := by simpa using h
theorem Arn {ρ : Ad} {J : Sto} {Rr : Rec} {x : Operand} {lo hi mx : Option Operand} {own : List Hp} {n : Nat} (hx : Ai Ew ρ x = some (slV eH 3 own)) (h1 : Iy Ew ρ lo = some (some (iV (.ofNat n)))) (h2 : Iy Ew ρ hi = some (some (iV (.ofNat own.length)))) (h3 : Iy Ew ρ mx = some (some (iV (.ofNat own.length)))) (hn : n <= own.length) :
  A0 Ew Rr (.slice 58 x lo hi mx) ρ J (.sv ((own.drop n).flatMap eH) 3 (own.drop n).length (some (own.length - n))) J := by
 have hb : C1 own.length none (some (iV (.ofNat n))) (some (iV (.ofNat own.length))) (some (iV (.ofNat own.length))) = some (n,own.length,some (own.length - n)) := by
  have h2 : Nat.ble n own.length = true := bd_ hn;have h3 : Nat.ble own.length own.length = true := bd_ nl;simp only [C1,iV,Lj,h2,Ow,h3,cond_true,cy_]
 have := Ajd (Rr := Rr) (J := J) (lo := lo) (hi := hi) (mx := mx) (elC (t := 58)) Pp hx h1 h2 h3 hb hn nl;rw [eh_] at this
 rwa [cz_]
theorem f102 (pw : Str -> Bool) (hpw : ∀ s J,Cv 137 [sV s] J (.bool (!pw s))) (m : Nat) (k : Kn) (f : Fr) (before : List Hp) (J : Sto) (hk : Gc J m k) (hsr : SM.Srt k.types) (hB : FrB f) (hbe : before.length < 1000000) : Aq Ew 102 [knV m,.agg (eF f),slV eH 3 before] J fun v J' => v = iV (E2 pw k f before) /\ Ald m J J' /\ (E2 pw k f before = 0 -> Gc J' m (knF k f) /\ SM.Srt (knF k f).types) := by
 refine Ak Tryz.func102 rfl rfl fun hw hu0 => ?_
 obtain ⟨vf,hvf⟩ := id hk.f;have hm5 : m + 4 < nx J := hk.t.lt hw;have hba := hB.a;refine G11 ?_;refine Af rfl rfl rfl rfl (f132 f.label _) ?_;refine G2 ?_;refine Ab rfl ?_ ?_ <;> intro h1
 ·refine G4 ?_;have hE : E2 pw k f before = 2 := (if_pos h1);refine Co fun hw9 => ?_
  refine G ?_
  exact ⟨_,rfl,_,_,ag_ hw9 nl (fun _ _ => rfl),nl,.same rfl,congrArg iV hE.symm,⟨nl,fun _ _ _ => rfl⟩,fun hh => absurd (hE.symm.trans hh) (by decide)⟩
 ·refine G2 ?_;refine Ed 7 zH (hcs (k.hyps.get f.label)) [(8,.bool (k.hyps.get f.label).isSome)] (Um _) rfl (fun hw => ?_) ?_
  ·refine XX 1 (l := []) trivial ?_;refine G6 ?_;refine DF (Un rfl hk.h rfl) ?_;refine G3 ?_;refine DT (B6 ziC) (DT (A6 (vs := zH) (vs' := hcs (k.hyps.get f.label)) ldC rfl rfl (Bk (It _)) Bj (Cx (It _))) ?_);refine G2 ?_
   exact ⟨(by intro e he; simp at he; rcases he with rfl | rfl <;> first | exact .refl | exact H1 hw),⟨rfl,trivial⟩,sb,rfl,rfl⟩
  refine D3 [(48,.bool (((k.hyps.get f.label).isSome || k.isSym f.label) || k.frames.has f.label))] ?_ ?_
  ·rcases al_ ((k.hyps.get f.label).isSome) with hg1 | hg1
   ·refine XS (l := [(131,[knV m,sV f.label],J,.bool (k.isSym f.label),J)]) ⟨Ahb m k f.label J hk,trivial⟩ ?_;refine G5 ?_
    refine Qr rfl rfl rfl rfl (by first|rfl|simp only [hg1]<;>rfl|simp [hg1]) rfl rfl ?_
    refine G11 ?_;exact ⟨⟨Cb,trivial⟩,sb,rfl⟩
   ·rcases al_ (k.isSym f.label) with hg7 | hg7
    ·refine XS (l := [(131,[knV m,sV f.label],J,.bool (k.isSym f.label),J)]) ⟨Ahb m k f.label J hk,trivial⟩ ?_;refine G5 ?_
     refine Se rfl rfl rfl rfl (by first|rfl|simp only [hg7,hg1]<;>rfl|simp [hg7,hg1]) rfl rfl (Bo rfl rfl Bx) ?_
     refine DF (Am rfl (by first|rfl|simp only [hg7,hg1]<;>rfl|simp [hg7,hg1]) rfl) ?_
     refine G10 ?_;exact ⟨⟨Cb,trivial⟩,sb,rfl⟩
    ·refine XS (l := [(131,[knV m,sV f.label],J,.bool (k.isSym f.label),J)]) ⟨Ahb m k f.label J hk,trivial⟩ ?_;refine G5 ?_
     refine Se rfl rfl rfl rfl (by first|rfl|simp only [hg7,hg1]<;>rfl|simp [hg7,hg1]) rfl rfl (Bo rfl rfl Bx) ?_
     refine DF (Am rfl (by first|rfl|simp only [hg7,hg1]<;>rfl|simp [hg7,hg1]) rfl) ?_
     refine G7 ?_
     refine Wn (w := by first|rfl|simp only [hg7,hg1]<;>rfl|simp [hg7,hg1]) (Cr st9 Cd rfl hk.f rfl) ?_
     refine DF (Am rfl (by first|rfl|simp only [hg7,hg1]<;>rfl|simp [hg7,hg1]) rfl) ?_
     refine Ii ?_
     exact ⟨⟨congrArg (fun b => some (AV.bool b)) (by first|rfl|simp only [hg7,hg1]<;>rfl|simp [hg7,hg1]),trivial⟩,sb,rfl⟩
  refine Ab rfl ?_ ?_ <;> intro h2
  ·refine G4 ?_;have hE : E2 pw k f before = 6 := ((if_neg (fun hh => Bool.noConfusion (h1.symm.trans hh))).trans (if_pos h2))
   refine Co fun hw9 => ?_
   refine G ?_
   exact ⟨_,rfl,_,_,ag_ hw9 nl (fun _ _ => rfl),nl,.same rfl,congrArg iV hE.symm,⟨nl,fun _ _ _ => rfl⟩,fun hh => absurd (hE.symm.trans hh) (by decide)⟩
  ·refine G9 ?_;refine TOr 4 ?_ (fun hg => ?_) ?_
   rotate_left
   ·iterate 4 refine Gn hg ?_
    exact Ez
   refine G ?_;refine Ab rfl ?_ ?_ <;> intro h3
   ·refine G4 ?_;have hE : E2 pw k f before = 4 := ((if_neg (fun hh => Bool.noConfusion (h1.symm.trans hh))).trans ((if_neg (fun hh => Bool.noConfusion (h2.symm.trans hh))).trans (if_pos h3)))
    refine Co fun hw9 => ?_
    refine G ?_
    exact ⟨_,rfl,_,_,ag_ hw9 nl (fun _ _ => rfl),nl,.same rfl,congrArg iV hE.symm,⟨nl,fun _ _ _ => rfl⟩,fun hh => absurd (hE.symm.trans hh) (by decide)⟩
   ·refine G2 ?_;refine XS (l := []) trivial ?_;refine G6 ?_
    refine DT (Ec (v := true) st9 Cd rfl hvf rfl rfl (fun te k1 k2 => by first | exact Ex k1 k2 | exact Ey k1 k2 | exact Fc k1 k2 | exact Fe k1 k2 | exact E1 k1 k2 rfl)) ?_
    refine G3 ?_;refine O1 (Bq (n := nx J) Cd (Ae J _ _)) (O1 (Bq (n := nx J + 1) Ac6 (nx1 (Ae J _ _))) ?_);refine G10 ?_
    refine Dz (Ay elC byW rfl rfl rfl) (Fk (len := 2)) rfl rfl (Af rfl rfl rfl rfl (f133 [f.hyps,f.dummies] _ (by simp) hB.a) ?_)
    refine G3 ?_
    have dz : ∃ lab ty,Amy J (((J.set (m + 2) (.map 9 (B1 bV (k.frames.put f.label true)) (vf + 1))).new (.map 9 [] 0)).new (.map 9 [] 0)) m (k.fr f.label) lab ty /\ Ji (k.fr f.label) f.hyps.length f.all 0 [] [] = Ji (k.fr f.label) f.hyps.length (f.all.drop 0) 0 lab ty /\ ∀ h ∈ f.all.take 0,h.floating = true -> ∃ a b,h.text = [a,b] := by
     have hg : ∀ b,b < nx J -> b ≠ m + 2 -> (((J.set (m + 2) (.map 9 (B1 bV (k.frames.put f.label true)) (vf + 1))).new (.map 9 [] 0)).new (.map 9 [] 0)).get b = J.get b := fun b h8 h9 => by
      rw [ab_,if_neg (by rw [Ac,Ae]; omega),ab_,if_neg (by rw [Ae]; omega),a_,if_neg Om]
     refine ⟨[],[],⟨by rw [Ac,Ac,Ae],hg,hk.fr (ver := vf + 1) hw ?_ hg,⟨0,?_⟩,⟨0,?_⟩,.nil⟩,rfl,fun h hh => by simp at hh⟩
     ·rw [ab_,if_neg (by rw [Ac,Ae]; omega),ab_,if_neg (by rw [Ae]; omega),a_,if_pos rfl]
     ·rw [ab_,if_neg (by rw [Ac,Ae]; omega),ab_,if_pos (by rw [Ae])]; rfl
     ·rw [ab_,if_pos (by rw [Ac,Ae])]; rfl
    refine G ?_;refine Bh f.all.length (fun i0 => [(2,slV eH 3 before),(3,.pv [knV m]),(4,.pv (eF f)),(9,.pv [.mp (nx J),.mp (nx J + 1)]),(73,slV eH 3 f.all),(74,iV (.ofNat f.all.length)),(75,iV (.ofNat i0))]) (fun i0 J0 => ∃ lab ty,Amy J J0 m (k.fr f.label) lab ty /\ Ji (k.fr f.label) f.hyps.length f.all 0 [] [] = Ji (k.fr f.label) f.hyps.length (f.all.drop i0) i0 lab ty /\ ∀ h ∈ f.all.take i0,h.floating = true -> ∃ a b,h.text = [a,b]) SL dz ?_
    rintro i0 J0 hi0 ⟨lab,ty,⟨hn0,hg0,hk0,hl0,ht0,hs0⟩,hf0,h20⟩;refine G5 ?_;refine Ab rfl ?_ ?_ <;> intro h4
    ·have bc : i0 < f.all.length := by simpa using h4
     obtain ⟨a0,ha0⟩ := A3 bc;have hd0 := Av ha0;have hne0 : a0 ∈ f.all := af_ ha0;obtain ⟨vl,hvl⟩ := id hl0;obtain ⟨vt0,oq⟩ := id ht0;refine G8 ?_;refine Ub ziC ldC rfl rfl (fun _ => rfl) rfl (fun _ => rfl) rfl rfl rfl rfl rfl ?_
     refine G12 ?_;refine Af rfl rfl rfl rfl (f134 m (k.fr f.label) (nx J) (nx J + 1) lab ty a0 _ J0 hk0 hl0 ht0 (hB.x a0 (af_ ha0))) ?_;refine G7 ?_;refine Ab rfl ?_ ?_ <;> intro h5
     ·refine G5 ?_
      have hH : Ji (k.fr f.label) f.hyps.length f.all 0 [] [] = ((Xv (k.fr f.label) lab ty a0 (decide (Int.ofNat f.hyps.length <= Int.ofNat i0))),ty) := by rw [hf0,hd0,Ji,if_pos h5]
      have hup : Ald m J J0 := Amy.up ⟨hn0,hg0,hk0,hl0,ht0,hs0⟩
      have hE : E2 pw k f before = (Xv (k.fr f.label) lab ty a0 (decide (Int.ofNat f.hyps.length <= Int.ofNat i0))) := ((if_neg (fun hh => Bool.noConfusion (h1.symm.trans hh))).trans ((if_neg (fun hh => Bool.noConfusion (h2.symm.trans hh))).trans ((if_neg (fun hh => Bool.noConfusion (h3.symm.trans hh))).trans (by rw [hH]; exact if_pos h5))))
      refine Co fun hw9 => ?_
      refine G ?_
      exact ⟨_,rfl,_,_,ag_ hw9 nl (fun _ _ => rfl),(by rw [hn0]; omega),.same rfl,congrArg iV hE.symm,hup,fun hh => by have h9 : (!decide ((Xv (k.fr f.label) lab ty a0 (decide (Int.ofNat f.hyps.length <= Int.ofNat i0))) = 0)) = true := h5; rw [hE.symm.trans hh] at h9; exact absurd h9 (by decide)⟩
     ·refine G7 ?_
      refine O1 (Ec (v := true) st9 Cd rfl hvl rfl rfl (fun te k1 k2 => by first | exact Ex k1 k2 | exact Ey k1 k2 | exact Fc k1 k2 | exact Fe k1 k2 | exact E1 k1 k2 rfl)) ?_
      refine G6 ?_;refine Ab rfl ?_ ?_ <;> intro h6
      ·have h6f : a0.floating = true := h6;obtain ⟨t0,t1,htx⟩ := Ahg (Ao9 h5) h6f
       have htw : ∀ h ∈ f.all.take (i0 + 1),h.floating = true -> ∃ a b,h.text = [a,b] := fun h hh hf => by
        rw [Bb ha0] at hh
        rcases bq_.1 hh with hh | hh
        ·exact h20 h hh hf
        ·cases an_.1 hh; exact ⟨t0,t1,htx⟩
       refine XS (l := []) trivial ?_;refine G4 ?_
       refine DF (Bn elC (fun _ => rfl) rfl rfl (by rw [htx]; rfl : a0.text[1]? = some t1) (i := 1)) ?_
       refine G3 ?_
       refine DF (Bn elC (fun _ => rfl) rfl rfl (by rw [htx]; rfl : a0.text[0]? = some t0) (i := 0)) ?_
       refine G ?_
       refine DT (Ec (v := t0) st9 Ac6 rfl (by rw [a_,if_neg Om]; exact oq) rfl rfl (fun te k1 k2 => by first | exact Ex k1 k2 | exact Ey k1 k2 | exact Fc k1 k2 | exact Fe k1 k2 | exact E1 k1 k2 rfl)) ?_
       refine G5 ?_
       refine ⟨bc,SL,⟨lab.put a0.label true,ty.put t1 t0,⟨by rw [Ae,Ae]; exact hn0,fun b h7 h8 => by rw [a_,if_neg Om,a_,if_neg Om]; exact hg0 b h7 h8,(hk0.hi Om).hi Om,A8.set dj_ Om,dj_,hs0.put⟩,by rw [hf0,hd0,Ji,if_neg (fun hh => Bool.noConfusion (h5.symm.trans hh)),if_pos h6f,htx]; rfl,htw⟩⟩
      ·have h6f : a0.floating = false := h6
       have htw : ∀ h ∈ f.all.take (i0 + 1),h.floating = true -> ∃ a b,h.text = [a,b] := fun h hh hf => by
        rw [Bb ha0] at hh
        rcases bq_.1 hh with hh | hh
        ·exact h20 h hh hf
        ·cases an_.1 hh; rw [h6f] at hf; cases hf
       refine G5 ?_
       refine ⟨bc,SL,⟨lab.put a0.label true,ty,⟨by rw [Ae]; exact hn0,fun b h7 h8 => by rw [a_,if_neg Om]; exact hg0 b h7 h8,hk0.hi Om,dj_,ht0.set Om,hs0⟩,by rw [hf0,hd0,Ji,if_neg (fun hh => Bool.noConfusion (h5.symm.trans hh)),if_neg (by rw [h6f]; simp)],htw⟩⟩
    ·have bm : f.all.length <= i0 := by simpa using h4
     have hH : Ji (k.fr f.label) f.hyps.length f.all 0 [] [] = (0,ty) := by rw [hf0,ah_ bm]; rfl
     have hup : Ald m J J0 := Amy.up ⟨hn0,hg0,hk0,hl0,ht0,hs0⟩;have hb2 : ∀ t ∈ f.text :: He f.hyps,t.length < 1000000 := hB.ess
     have hfl : ∀ h ∈ f.hyps,h.floating = true -> ∃ a b,h.text = [a,b] := fun h hh => h20 h (by rw [ar_ bm]; simp [Fr.all,hh])
     have hrl : (Alc f before).length < 4611686018427387904 := by have := hB.h; have h9 := Gz (p := fun h : Hp => h.floating) (l := f.hyps); unfold Alc Ajs; rw [cz_]; omega
     refine G7 ?_
     refine Af rfl rfl rfl rfl (f135 m (k.fr f.label) f.text J0 hk0 (by have := hB.t; omega)) ?_
     refine G7 ?_;refine Ab rfl ?_ ?_ <;> intro h5
     ·refine G5 ?_
      have hE : E2 pw k f before = (k.fr f.label).textF f.text := ((if_neg (fun hh => Bool.noConfusion (h1.symm.trans hh))).trans ((if_neg (fun hh => Bool.noConfusion (h2.symm.trans hh))).trans ((if_neg (fun hh => Bool.noConfusion (h3.symm.trans hh))).trans ((if_neg (by rw [hH]; simp)).trans (if_pos h5)))))
      refine Co fun hw9 => ?_
      refine G ?_
      exact ⟨_,rfl,_,_,ag_ hw9 nl (fun _ _ => rfl),(by rw [hn0]; omega),.same rfl,congrArg iV hE.symm,hup,fun hh => by have h9 : (!decide ((k.fr f.label).textF f.text = 0)) = true := h5; rw [hE.symm.trans hh] at h9; exact absurd h9 (by decide)⟩
     ·refine G6 ?_;refine Af rfl rfl rfl rfl (f136 m (k.fr f.label) f J0 hk0 hB.h hb2 hB.w hfl) ?_;refine G7 ?_;refine Ab rfl ?_ ?_ <;> intro h6
      ·refine G5 ?_
       have hE : E2 pw k f before = Kv (k.fr f.label) f := ((if_neg (fun hh => Bool.noConfusion (h1.symm.trans hh))).trans ((if_neg (fun hh => Bool.noConfusion (h2.symm.trans hh))).trans ((if_neg (fun hh => Bool.noConfusion (h3.symm.trans hh))).trans ((if_neg (by rw [hH]; simp)).trans ((if_neg (fun hh => Bool.noConfusion (h5.symm.trans hh))).trans (if_pos h6))))))
       refine Co fun hw9 => ?_
       refine G ?_
       exact ⟨_,rfl,_,_,ag_ hw9 nl (fun _ _ => rfl),(by rw [hn0]; omega),.same rfl,congrArg iV hE.symm,hup,fun hh => by have h9 : (!decide (Kv (k.fr f.label) f = 0)) = true := h6; rw [hE.symm.trans hh] at h9; exact absurd h9 (by decide)⟩
      ·refine G9 ?_;refine TAn 14 ?_ (fun hg => ?_) ?_
       rotate_left
       ·iterate 4 refine Gn hg ?_
        refine Zt 4 _ ?_ rfl rfl rfl rfl rfl (Jq rfl rfl rfl rfl (by rw [hg]; rfl)) (fun hg => ?_) (fun hg => ?_) ?_
        rotate_left
        ·iterate 4 refine Gn hg ?_
         refine G ?_;refine ⟨rfl,?_,?_⟩
         ·exact sb
         ·exact rfl
        ·iterate 4 refine Gn hg ?_
         refine G ?_;exact ⟨rfl,sb⟩
        refine Gn hg ?_
        refine Zt 3 _ ?_ rfl rfl rfl rfl rfl (Jq rfl rfl rfl rfl (by rw [hg]; rfl)) (fun hg => ?_) (fun hg => ?_) ?_
        rotate_left
        ·iterate 2 refine Gn hg ?_
         refine Bg rfl rfl rfl (by rw [hg]; rfl) rfl rfl rfl rfl (f19 (fun s => !pw s) f.proof 137 [] J0 (by have := hB.p; omega) (fun a _ => hpw a J0)) ?_
         refine G ?_;refine ⟨rfl,?_,?_⟩
         ·exact sb
         ·exact rfl
        ·iterate 3 refine Gn hg ?_
         refine G ?_;exact ⟨rfl,sb⟩
        exact Ez
       refine G ?_;refine Ab rfl ?_ ?_ <;> intro h7
       ·refine G4 ?_
        have hE : E2 pw k f before = 2 := ((if_neg (fun hh => Bool.noConfusion (h1.symm.trans hh))).trans ((if_neg (fun hh => Bool.noConfusion (h2.symm.trans hh))).trans ((if_neg (fun hh => Bool.noConfusion (h3.symm.trans hh))).trans ((if_neg (by rw [hH]; simp)).trans ((if_neg (fun hh => Bool.noConfusion (h5.symm.trans hh))).trans ((if_neg (fun hh => Bool.noConfusion (h6.symm.trans hh))).trans (if_pos h7)))))))
        refine Co fun hw9 => ?_
        refine G ?_
        exact ⟨_,rfl,_,_,ag_ hw9 nl (fun _ _ => rfl),(by rw [hn0]; omega),.same rfl,congrArg iV hE.symm,hup,fun hh => absurd (hE.symm.trans hh) (by decide)⟩
       ·refine G4 ?_;refine Af rfl rfl rfl rfl (f103 f J0 hB.h) ?_;refine G7 ?_;refine Af rfl rfl rfl rfl (f139 before (Ajs f) J0 hbe) ?_;refine G4 ?_;refine Dz (Arn rfl rfl rfl rfl (Aaj _ _)) Fk rfl rfl ?_;refine G7 ?_;refine Af rfl rfl rfl rfl (f18 (fun h => ((k.fr f.label).hyps.get h.label).isSome) (Alc f before) 140 [.pv [knV m]] J0 hrl (fun a _ => f140 m (k.fr f.label) a J0 hk0)) ?_
        refine G ?_;refine Ab rfl ?_ ?_ <;> intro h8
        ·refine G4 ?_
         have hE : E2 pw k f before = 7 := ((if_neg (fun hh => Bool.noConfusion (h1.symm.trans hh))).trans ((if_neg (fun hh => Bool.noConfusion (h2.symm.trans hh))).trans ((if_neg (fun hh => Bool.noConfusion (h3.symm.trans hh))).trans ((if_neg (by rw [hH]; simp)).trans ((if_neg (fun hh => Bool.noConfusion (h5.symm.trans hh))).trans ((if_neg (fun hh => Bool.noConfusion (h6.symm.trans hh))).trans ((if_neg (fun hh => Bool.noConfusion (h7.symm.trans hh))).trans (if_pos h8))))))))
         refine Co fun hw9 => ?_
         refine G ?_
         exact ⟨_,rfl,_,_,ag_ hw9 nl (fun _ _ => rfl),(by rw [hn0]; omega),.same rfl,congrArg iV hE.symm,hup,fun hh => absurd (hE.symm.trans hh) (by decide)⟩
        ·refine G8 ?_
         refine Dz (Ay elC byW rfl rfl rfl) (Fk (len := 2)) rfl rfl (Af rfl rfl rfl rfl (f133 [f.hyps,f.dummies] _ (by simp) hB.a) ?_)
         refine G4 ?_;refine Bh f.all.length (fun i2 => [(3,.pv [knV m]),(9,.pv [.mp (nx J),.mp (nx J + 1)]),(161,slV eH 3 f.all),(162,iV (.ofNat f.all.length)),(163,iV (.ofNat i2))]) (fun i2 J2 => nx J2 = nx J + 2 /\ (∀ b,b < nx J -> b ≠ m + 2 -> b ≠ m + 3 -> J2.get b = J.get b) /\ Gc J2 m ((k.fr f.label).hyps' (f.all.take i2)) /\ A8 sV J2 (nx J + 1) ty) SL ⟨hn0,fun b h9 h10 _ => hg0 b h9 h10,hk0,ht0⟩ ?_
         rintro i2 J2 hi2 ⟨hn2,hg2,hk2,ht2⟩;refine G5 ?_;refine Ab rfl ?_ ?_ <;> intro h9
         ·have bz : i2 < f.all.length := by simpa using h9
          obtain ⟨a2,ha2⟩ := A3 bz;have hd2 := Av ha2;obtain ⟨vh,hvh⟩ := id hk2.h;refine G9 ?_;refine XX 1 (l := [(106,[.agg (eH a2)],J2,.agg (eH a2),J2)]) ⟨f106 a2 J2 (hB.x a2 (af_ ha2)),trivial⟩ ?_;refine G8 ?_
          refine DT (Ec (v := a2) st9 Po rfl hvh rfl rfl (fun te k1 k2 => by first | exact Ex k1 k2 | exact Ey k1 k2 | exact Fc k1 k2 | exact Fe k1 k2 | exact E1 k1 k2 rfl)) ?_
          refine G ?_
          refine ⟨(by intro e he; simp at he; subst he; exact .refl),?_⟩
          refine G4 ?_
          refine ⟨bz,SL,by rw [Ae]; exact hn2,fun b h11 h12 h13 => by rw [a_,if_neg Om]; exact hg2 b h11 h12 h13,by rw [Bb ha2,Ajt]; exact hk2.hp,ht2.set Om⟩
         ·have b9 : f.all.length <= i2 := by simpa using h9
          rw [ar_ b9] at hk2;obtain ⟨vt,hvt⟩ := id hk2.t;refine G2 ?_;refine XS (l := [(141,[.mp (m + 4),.mp (nx J + 1)],J2,An,(J2.set (m + 4) (.map 9 (B1 sV (SM.over ty k.types)) (vt + ty.length))))]) ⟨f141 (m + 4) (nx J + 1) vt k.types ty J2 hvt ht2 Om hsr hs0,trivial⟩ ?_;refine G12 ?_
          have hE : E2 pw k f before = 0 := ((if_neg (fun hh => Bool.noConfusion (h1.symm.trans hh))).trans ((if_neg (fun hh => Bool.noConfusion (h2.symm.trans hh))).trans ((if_neg (fun hh => Bool.noConfusion (h3.symm.trans hh))).trans ((if_neg (by rw [hH]; simp)).trans ((if_neg (fun hh => Bool.noConfusion (h5.symm.trans hh))).trans ((if_neg (fun hh => Bool.noConfusion (h6.symm.trans hh))).trans ((if_neg (fun hh => Bool.noConfusion (h7.symm.trans hh))).trans (if_neg (fun hh => Bool.noConfusion (h8.symm.trans hh))))))))))
          refine Co fun hw9 => ?_
          refine G ?_
          exact ⟨_,rfl,_,_,ag_ hw9 nl (fun _ _ => rfl),(by rw [Ae,hn2]; omega),.same rfl,congrArg iV hE.symm,⟨by rw [Ae,hn2]; omega,fun b h10 h11 => by rw [a_,if_neg Om]; exact hg2 b h10 Om Om⟩,fun _ => ⟨by unfold knF; rw [hH]; exact hk2.ty,by unfold knF; exact SM.Srt.over hsr⟩⟩
def kn0 : Kn := ⟨[],[],[],[],[]⟩
def Jb (pw : Str -> Bool) : List Fr -> Kn -> List Hp -> Int
 | [],_,_ => 0
 | f :: r,k,before => if (!decide (E2 pw k f before = 0)) = true then E2 pw k f before else Jb pw r (knF k f) (Ajs f)
def E3 (pw : Str -> Bool) (d : Db) : Int :=
 if ((decide ((400 : Int) < Int.ofNat d.frames.length) || decide ((8000 : Int) < Int.ofNat d.consts.length)) || decide ((8000 : Int) < Int.ofNat d.vars.length)) = true then 8
 else if (!decide ((K1 d kn0).1 = 0)) = true then (K1 d kn0).1 else Jb pw d.frames (K1 d kn0).2 []
structure DbB (d : Db) : Prop where
 f : ∀ f ∈ d.frames,FrB f
 c : d.consts.length < 1000000
 v : d.vars.length < 1000000
 n : d.frames.length < 1000000
theorem Ss : ∀ (l : List Str) (k : Kn),(Sp l k).2.types = k.types
 | [],_ => rfl
 | c :: r,k => by unfold Sp; cases Q9 c <;> cases k.consts.has c <;> simp [Ss r]
theorem Aak : ∀ (l : List Str) (k : Kn),(Ui l k).2.types = k.types
 | [],_ => rfl
 | c :: r,k => by unfold Ui; cases Q9 c <;> cases k.isSym c <;> simp [Aak r]
theorem Aju (d : Db) (k : Kn) : (K1 d k).2.types = k.types := by
 unfold K1; split
 ·rw [Aak,Ss]
 ·rw [Ss]
theorem f77 (pw : Str -> Bool) (hpw : ∀ s J,Cv 137 [sV s] J (.bool (!pw s))) (d : Db) (J : Sto) (hB : DbB d) : Cv 77 [dbV d] J (iV (E3 pw d)) := by
 refine Ak Tryz.func77 rfl rfl fun hw hu0 => ?_
 iterate 13 refine G ?_
 refine TOr 4 ?_ (fun hg => ?_) ?_
 rotate_left
 ·iterate 4 refine Gn hg ?_
  exact Ez
 refine G ?_;refine TOr 4 ?_ (fun hg => ?_) ?_
 rotate_left
 ·iterate 4 refine Gn hg ?_
  exact Ez
 refine G ?_;refine Ab rfl ?_ ?_ <;> intro h1
 ·refine G4 ?_;have hE : E3 pw d = 8 := (if_pos h1);refine G ?_;exact ⟨_,rfl,_,J,as_ hw dv_,nl,.same rfl,congrArg iV hE.symm,rfl⟩
 ·refine G ?_;have hbn := hB.n
  have hg5 : ∀ b,b < nx J -> (((((J.new (.map 9 [] 0)).new (.map 9 [] 0)).new (.map 9 [] 0)).new (.map 9 [] 0)).new (.map 9 [] 0)).get b = J.get b := fun b hb => by
   rw [ab_,if_neg (by simp only [Ac]; omega),ab_,if_neg (by simp only [Ac]; omega),ab_,if_neg (by simp only [Ac]; omega),ab_,if_neg (by simp only [Ac]; omega),ab_,if_neg Om]
  have ow : Gc (((((J.new (.map 9 [] 0)).new (.map 9 [] 0)).new (.map 9 [] 0)).new (.map 9 [] 0)).new (.map 9 [] 0)) (nx J) kn0 := by
   refine ⟨⟨0,?_⟩,⟨0,?_⟩,⟨0,?_⟩,⟨0,?_⟩,⟨0,?_⟩⟩ <;> simp only [ab_,Ac] <;> simp <;> rfl
  refine G2 ?_;refine O1 (Bq (n := nx J) Cd rfl) (O1 (Bq (n := nx J + 1) Cd (nx1 rfl)) (O1 (Bq (n := nx J + 2) Cd (nx1 (nx1 rfl))) (O1 (Bq (n := nx J + 3) Po (nx1 (nx1 (nx1 rfl)))) (O1 (Bq (n := nx J + 4) Ac6 (nx1 (nx1 (nx1 (nx1 rfl))))) ?_))));refine G9 ?_
  refine Bu rfl rfl rfl rfl (f101 (nx J) kn0 d (((((J.new (.map 9 [] 0)).new (.map 9 [] 0)).new (.map 9 [] 0)).new (.map 9 [] 0)).new (.map 9 [] 0)) ow (by have := hB.c; omega) (by have := hB.v; omega)) fun v τ ⟨hv,iw,hk1⟩ => ?_
  subst hv;refine G7 ?_;refine Ab rfl ?_ ?_ <;> intro h2
  ·refine G5 ?_;have hE : E3 pw d = (K1 d kn0).1 := ((if_neg (fun hh => Bool.noConfusion (h1.symm.trans hh))).trans (if_pos h2))
   refine G ?_
   exact ⟨_,rfl,_,J,as_ hw ⟨by rw [iw.1]; simp only [Ac]; omega,fun b hb => (iw.2 b (.inl hb)).trans (hg5 b hb)⟩,nl,.same rfl,congrArg iV hE.symm,rfl⟩
  ·refine G3 ?_;refine Dz (L6 rfl) (Ae3 (sz := 3)) rfl rfl ?_;refine G9 ?_
   have hn1 : nx J + 5 <= nx τ := by rw [iw.1]; simp only [Ac]; omega
   have hg1 : ∀ b,b < nx J -> τ.get b = J.get b := fun b hb => (iw.2 b (.inl hb)).trans (hg5 b hb)
   have hs1 : SM.Srt (K1 d kn0).2.types := by rw [Aju]; exact .nil
   refine G ?_
   refine Dt (fun q : Nat × AV => [(3,knV (nx J)),(5,q.2),(39,slV eF 8 d.frames),(40,iV (.ofNat d.frames.length)),(41,iV (.ofNat q.1))]) (fun q J0 => q.1 <= d.frames.length /\ ∃ k be,q.2 = slV eH 3 be /\ be.length < 1000000 /\ nx J + 5 <= nx J0 /\ (∀ b,b < nx J -> J0.get b = J.get b) /\ Gc J0 (nx J) k /\ SM.Srt k.types /\ Jb pw d.frames (K1 d kn0).2 [] = Jb pw (d.frames.drop q.1) k be) (fun q => d.frames.length - q.1) (0,slV eH 3 []) SL ⟨ca_ _,(K1 d kn0).2,[],rfl,by simp,hn1,hg1,hk1,hs1,rfl⟩ ?_
   rintro ⟨i0,v0⟩ J0 hP0;obtain ⟨hi0,k,be,hbe,hbl,hn0,hg0,hk0,hs0,hf0⟩ : i0 <= d.frames.length /\ ∃ k be,v0 = slV eH 3 be /\ be.length < 1000000 /\ nx J + 5 <= nx J0 /\ (∀ b,b < nx J -> J0.get b = J.get b) /\ Gc J0 (nx J) k /\ SM.Srt k.types /\ Jb pw d.frames (K1 d kn0).2 [] = Jb pw (d.frames.drop i0) k be := hP0;refine G5 ?_;refine Ab rfl ?_ ?_ <;> intro h3
   ·have bc : i0 < d.frames.length := by simpa using h3
    obtain ⟨a0,ha0⟩ := A3 bc;have hd0 := Av ha0;subst hbe
    iterate 15 refine G ?_
    refine Bu rfl rfl rfl rfl (f102 pw hpw (nx J) k a0 be J0 hk0 hs0 (hB.f a0 (af_ ha0)) hbl) fun v2 τ2 ⟨hv2,hup,hkn⟩ => ?_
    subst hv2;refine G7 ?_;refine Ab rfl ?_ ?_ <;> intro h4
    ·refine G5 ?_
     have hE : E3 pw d = E2 pw k a0 be := ((if_neg (fun hh => Bool.noConfusion (h1.symm.trans hh))).trans ((if_neg (fun hh => Bool.noConfusion (h2.symm.trans hh))).trans (by rw [hf0,hd0,Jb]; exact if_pos h4)))
     refine G ?_
     exact ⟨_,rfl,_,J,as_ hw ⟨by have := hup.1; omega,fun b hb => (hup.2 b Om (.inl hb)).trans (hg0 b hb)⟩,nl,.same rfl,congrArg iV hE.symm,rfl⟩
    ·refine G3 ?_;refine Af rfl rfl rfl rfl (f103 a0 _ (hB.f a0 (af_ ha0)).h) ?_;refine G6 ?_
     refine ⟨(i0 + 1,slV eH 3 (Ajs a0)),by show d.frames.length - (i0 + 1) < d.frames.length - i0; omega,SL,bc,knF k a0,Ajs a0,rfl,ek_ Gz (hB.f a0 (af_ ha0)).h,bc_ hn0 hup.1,fun b hb => (hup.2 b Om (.inl hb)).trans (hg0 b hb),(hkn (Ao9 h4)).1,(hkn (Ao9 h4)).2,by rw [hf0,hd0,Jb,if_neg (fun hh => Bool.noConfusion (h4.symm.trans hh))]⟩
   ·have bm : d.frames.length <= i0 := by simpa using h3
    have hH : Jb pw d.frames (K1 d kn0).2 [] = 0 := by rw [hf0,ah_ bm]; rfl
    refine G5 ?_;have hE : E3 pw d = 0 := ((if_neg (fun hh => Bool.noConfusion (h1.symm.trans hh))).trans ((if_neg (fun hh => Bool.noConfusion (h2.symm.trans hh))).trans (hH)))
    refine G ?_
    exact ⟨_,rfl,_,J,as_ hw ⟨by omega,hg0⟩,nl,.same rfl,congrArg iV hE.symm,rfl⟩
end Go.AM
namespace Go.AM
open Go Go.Proofs
def txv (h : Hp) : Str := h.text.tail.headD []
def Amz (s : SM Bool) (l : List Hp) : SM Bool := l.foldl (fun m b => m.put (txv b) true) s
abbrev Ord := SM Hp × SM (SM Bool)
def N9 (i : Nat) (h : Hp) (s : Ord) : Ord := if i = 0 then (s.1.put (txv h) h,s.2.put (txv h) []) else s
def Ahh (i : Nat) (pre : List Hp) (h : Hp) (s : Ord) : Option Ord :=
 match (N9 i h s).2.get (txv h) with
 | none => none
 | some a => if Ala ((N9 i h s).1.get (txv h)) h = true then some ((N9 i h s).1,(N9 i h s).2.put (txv h) (Amz a pre)) else none
def Xw (i : Nat) (all : List Hp) : List Hp -> Nat -> Ord -> Option Ord
 | [],_,s => some s
 | h :: r,n,s => match Ahh i (all.take n) h s with
  | none => none
  | some s' => Xw i all r (n + 1) s'
def N5 (i : Nat) : List (List Hp) -> Ord -> Option Ord
 | [],s => some s
 | l :: r,s => match Xw i l l 0 s with
  | none => none
  | some s' => N5 i r s'
def flo (l : List Hp) : List Hp := D0 Uk l
def Apa (d : Db) (f : Fr) : Bool := !decide (Int.ofNat ((flo f.hyps).length + (flo f.dummies).length) = Int.ofNat d.vars.length) || (f.hyps.drop (flo f.hyps).length).any (fun h => h.floating)
def Nc (d : Db) : List Fr -> Nat -> Ord -> Option Ord
 | [],_,s => some s
 | f :: r,i,s => if Apa d f = true then none else match N5 i [flo f.hyps,flo f.dummies] s with
  | none => none
  | some s' => Nc d r (i + 1) s'
def rdy (a : SM (SM Bool)) (done : SM Bool) (v : Str) : Bool := !done.has v && ((a.get v).getD []).all (fun p => done.has p.1)
def Vx (vars : List Str) (s : Ord) : Nat -> SM Bool -> List Hp -> Option (List Hp)
 | 0,_,out => some out
 | n + 1,done,out => match vars.find? (rdy s.2 done) with
  | none => none
  | some v => match s.1.get v with
   | none => none
   | some h => Vx vars s n (done.put v true) (out ++ [h])
def Ee (d : Db) : Option (List Hp) :=
 if d.frames.length = 0 then (if d.vars.length = 0 then some [] else none)
 else match Nc d d.frames 0 ([],[]) with
  | none => none
  | some s => Vx d.vars s d.vars.length [] []
structure Aff (J : Sto) (N r : Nat) (A : SM (SM Bool)) (refs : SM Nat) : Prop where
 m : A8 (fun q => AV.mp q) J r refs
 s : ∀ v,(refs.get v).isSome = (A.get v).isSome
 a : ∀ v q s,refs.get v = some q -> A.get v = some s -> Eo J q s
 n : ∀ v q,refs.get v = some q -> N <= q
 i : ∀ v v' q,refs.get v = some q -> refs.get v' = some q -> v = v'
theorem Aff.new {J J' : Sto} {N r q ver : Nat} {A : SM (SM Bool)} {refs : SM Nat} {v : Str} (h : Aff J N r A refs) (hw : WFS J) (hr : r < N) (hN : N <= nx J) (hq : q = nx J) (hm : J'.get r = some (.map 9 (B1 (fun q => AV.mp q) (refs.put v q)) ver)) (hs : Eo J' q [])
  (hg : ∀ b,N <= b -> b < nx J -> J'.get b = J.get b) : Aff J' N r (A.put v []) (refs.put v q) := by
 refine ⟨⟨ver,hm⟩,fun u => ?_,fun u p s k1 k2 => ?_,fun u p k1 => ?_,fun u u' p k1 k2 => ?_⟩
 ·rw [cc_,cc_]; split <;> first | rfl | exact h.s u
 ·rw [cc_] at k1 k2
  split at k1
  ·rename_i e; rw [if_pos e] at k2; cases k1; cases k2; exact hs
  ·rename_i e; rw [if_neg e] at k2
   exact (h.a u p s k1 k2).of_get (hg p (h.n u p k1) ((h.a u p s k1 k2).lt hw))
 ·rw [cc_] at k1
  split at k1
  ·cases k1; omega
  ·exact h.n u p k1
 ·have lt : ∀ w p,refs.get w = some p -> p < nx J := fun w p hh => by
   have := h.s w; rw [hh] at this;obtain ⟨s,hs⟩ := bp_.1 this.symm;exact (h.a w p s hh hs).lt hw
  rw [cc_] at k1 k2
  split at k1 <;> split at k2
  ·rename_i e1 e2; rw [e1,e2]
  ·cases k1; have := lt _ _ k2; omega
  ·cases k2; have := lt _ _ k1; omega
  ·exact h.i u u' p k1 k2
theorem Aff.upd {J J' : Sto} {N r q : Nat} {A : SM (SM Bool)} {refs : SM Nat} {v : Str} {s : SM Bool} (h : Aff J N r A refs) (hq : refs.get v = some q) (hr : J'.get r = J.get r) (hs : Eo J' q s)
  (hg : ∀ b,N <= b -> b ≠ q -> J'.get b = J.get b) : Aff J' N r (A.put v s) refs := by
 refine ⟨h.m.of_get hr,fun u => ?_,fun u p t k1 k2 => ?_,h.n,h.i⟩
 ·rw [cc_]
  split
  ·rename_i e; subst e; rw [hq]; rfl
  ·exact h.s u
 ·rw [cc_] at k2
  split at k2
  ·rename_i e; subst e; rw [hq] at k1; cases k1; cases k2; exact hs
  ·rename_i e
   refine (h.a u p t k1 k2).of_get (hg p (h.n u p k1) fun hh => e ?_)
   subst hh; exact h.i u v p k1 hq
end Go.AM
namespace Go.AM
open Go Go.Proofs
structure N6 (J τ : Sto) (s : Ord) : Prop where
 n : nx J + 2 <= nx τ
 g : ∀ b,b < nx J -> τ.get b = J.get b
 o : A8 hV τ (nx J) s.1
 a : ∃ refs,Aff τ (nx J + 2) (nx J + 1) s.2 refs
 k : ∀ v,(s.1.get v).isSome = (s.2.get v).isSome
theorem Am0 {s : SM Bool} {l : List Hp} {b : Hp} : Amz s (l ++ [b]) = (Amz s l).put (txv b) true := by unfold Amz; rw [dp_]; rfl
theorem X9 {h : Hp} {a b : Str} (e : h.text = [a,b]) : txv h = b := by unfold txv; rw [e]; rfl
theorem Atd {i : Nat} {h : Hp} {s : Ord} (hk : ∀ v,(s.1.get v).isSome = (s.2.get v).isSome) : ∀ v,((N9 i h s).1.get v).isSome = ((N9 i h s).2.get v).isSome := fun v => by
 unfold N9
 split
 ·simp only [cc_]; split <;> first | rfl | exact hk v
 ·exact hk v
theorem N6.first {J τ τ' : Sto} {s : Ord} {h : Hp} {ver ver2 : Nat} {refs : SM Nat} (hO : N6 J τ s) (hA : Aff τ (nx J + 2) (nx J + 1) s.2 refs) (hw : WFS τ) (hn : nx τ <= nx τ') (ho : τ'.get (nx J) = some (.map 9 (B1 hV (s.1.put (txv h) h)) ver))
  (hr : τ'.get (nx J + 1) = some (.map 9 (B1 (fun q => AV.mp q) (refs.put (txv h) (nx τ))) ver2)) (hs : Eo τ' (nx τ) []) (hg : ∀ b,b < nx τ -> b ≠ nx J -> b ≠ nx J + 1 -> τ'.get b = τ.get b) : N6 J τ' (N9 0 h s) := by
 have hN := hO.n
 refine ⟨by omega,fun b hb => (hg b Om Om Om).trans (hO.g b hb),⟨ver,ho⟩,⟨_,hA.new hw Om hN rfl hr hs fun b h1 h2 => hg b h2 Om Om⟩,Atd hO.k⟩
theorem N6.turn {J τ τ' : Sto} {s : Ord} {a : SM Bool} {v : Str} {q : Nat} {refs : SM Nat} (hO : N6 J τ s) (hA : Aff τ (nx J + 2) (nx J + 1) s.2 refs) (hq : refs.get v = some q) (hn : nx τ <= nx τ') (hs : Eo τ' q a) (hg : ∀ b,b ≠ q -> τ'.get b = τ.get b) : N6 J τ' (s.1,s.2.put v a) := by
 have hN := hO.n;have hqn := hA.n v q hq
 refine ⟨by omega,fun b hb => (hg b Om).trans (hO.g b hb),hO.o.of_get (hg _ Om),⟨refs,hA.upd hq (hg _ Om) hs fun b _ h2 => hg b h2⟩,fun u => ?_⟩
 show (s.1.get u).isSome = _
 rw [cc_,hO.k u]
 split
 ·rename_i e; subst e
  have := hA.s u; rw [hq] at this; rw [← this]; rfl
 ·rfl
section
open Go Go.Proofs Go.RowKit
def E6 : ByteArray := ⟨#[45,95,46,63]⟩
theorem Aro (p : Nat) (h : p < E6.size) : (Utf8.decode E6 p).2 = 1 /\ ((Utf8.decode E6 p).1 : Int) ≠ 65533 := by
 have h4 : p < 4 := h
 match p,h4 with
 | 0,_ => decide
 | 1,_ => decide
 | 2,_ => decide
 | 3,_ => decide
set_option maxRecDepth 1000000 in
theorem Apb (w : World) : Calls Tryz.prog 211 #[.string E6,.int .i32 65533] w fun e w' => e = .returned (.int .i64 (-1)) /\ Go.RowKit.Below w.heap.size w w' := by
 go_enter Tryz.func211,Tryz.ntmps211
 go_wp2
 go_loopg [] 4 (fun gf wx => ∃ pos : Nat,wx.heap[w.heap.size]? = some (.stringIter E6 pos) /\ Go.RowKit.Below w.heap.size w wx /\ E6.size <= pos + gf)
 case atStart => exact ⟨0,World.iter_heap w E6 0,(Go.RowKit.Below.refl _ w).alloc nl _,nl⟩
 case round =>
  obtain ⟨pos,hit,hbw,hfu⟩ := hrel
  by_cases hps : pos < E6.size
  ·obtain ⟨g',rfl⟩ : ∃ g',gk = g' + 1 := ⟨gk - 1,by omega⟩
   have hnx : ∀ ty,(Instr.next (.pointer (some ⟨w.heap.size,0,none⟩)) true ty).run Tryz.prog wr = _ := fun ty => Lib.run_next_any_at wr w.heap.size E6 pos ty hit hps
   obtain ⟨hd1,hd2⟩ := Aro pos hps;obtain ⟨R,hR⟩ : ∃ R,(Utf8.decode E6 pos).1 = R := ⟨_,rfl⟩;rw [hR] at hd2;rw [hR,hd1] at hnx;have mj := Lib.iterAt_heap wr w.heap.size E6 pos (pos + 1) hit;have mm := Lib.below_iterAt hbw (k := w.heap.size) nl E6 (pos + 1);obtain ⟨W,hWd⟩ : ∃ W,wr.iterAt w.heap.size E6 (pos + 1) = W := ⟨_,rfl⟩;rw [hWd] at hnx mj mm
   go_wp2
   go_roundg g'
   case measure => omega
   case rel => exact ⟨pos + 1,mj,mm,by omega⟩
  ·have hnx : ∀ ty,(Instr.next (.pointer (some ⟨w.heap.size,0,none⟩)) true ty).run Tryz.prog wr = _ := fun ty => Lib.run_next_end_at wr w.heap.size E6 pos ty hit hps
   go_wp2
   go_ret
   exact ⟨rfl,hbw⟩
set_option maxRecDepth 1000000 in
theorem Apc (x : Int) (h0 : 128 <= x) (h1 : Lib.validRune x = false) (h2 : x ≠ 65533) (w : World) : Calls Tryz.prog 211 #[.string E6,.int .i32 x] w fun e w' => e = .returned (.int .i64 (-1)) /\ w' = w := by
 have hd0 : decide ((0 : Int) <= x) = true := by simp; omega
 have hd1 : decide (x < (128 : Int)) = false := by simp; omega
 have e295 : ∀ args w,(callFunc 214 args).run Tryz.prog w = .ok (.enter 214 args) w := enters_of Tryz.func214 Kr rfl
 go_enter Tryz.func211,Tryz.ntmps211
 go_wp2_with (go_at_fn 214; refine (Tryz.utf8_ValidRune _ _).mono ?_; rintro e w' ⟨rfl,hw⟩; rw [hw,h1])
 go_ret
 exact ⟨rfl,rfl⟩
theorem Am1 (x : Int) (h : 128 <= x) : (∃ a b : UInt8,Utf8.encode x = ⟨#[a,b]⟩ /\ 128 <= b.toNat) ∨ (∃ a b d : UInt8,Utf8.encode x = ⟨#[a,b,d]⟩ /\ 128 <= d.toNat) ∨ ∃ a b d e : UInt8,Utf8.encode x = ⟨#[a,b,d,e]⟩ /\ 128 <= e.toNat := by
 have hb : ∀ n : Nat,128 <= (UInt8.ofNat (0x80 + n % 64)).toNat := fun n => by
  rw [UInt8.toNat_ofNat']; omega
 unfold Utf8.encode;obtain ⟨c,hc⟩ : ∃ c,(if Utf8.valid x = true then x.toNat else Utf8.runeError) = c := ⟨_,rfl⟩
 have h128 : 128 <= c := by
  rw [← hc]; split
  ·omega
  ·decide
 simp only [hc];rw [if_neg Om]
 split
 ·exact .inl ⟨_,_,rfl,hb _⟩
 ·split
  ·exact .inr (.inl ⟨_,_,_,rfl,hb _⟩)
  ·exact .inr (.inr ⟨_,_,_,_,rfl,hb _⟩)
theorem Ajv (s : ByteArray) (c : Int) (w : World) : Calls Tryz.prog 213 #[.string s,.int .u8 c] w fun e w' => e = .returned (.int .i64 (Lib.indexByte s.data.toList c.toNat.toUInt8)) /\ w' = w := Any.strings_IndexByte { Tryz.lays151 with } s c w
theorem Ale {b : UInt8} (hb : 128 <= b.toNat) : ∀ {l : List UInt8},(∀ c ∈ l,c.toNat < 128) -> Lib.indexByte l b = -1
 | [],_ => rfl
 | c :: l,h => by
  have h1 : (c == b) = false := by
   cases hh : c == b with
   | false => rfl
   | true => have := eq_of_beq hh; subst this; have := h c (bn_ ..); omega
  have h2 := Ale hb (l := l) fun x hx => h x (am_ _ hx)
  simp [Lib.indexByte,h1,h2]
set_option maxRecDepth 1000000 in
theorem Am2 (x : Int) (a b : UInt8) (he : Utf8.encode x = ⟨#[a,b]⟩) (hb : 128 <= b.toNat) (h0 : 128 <= x) (h1 : Lib.validRune x = true) (h2 : x ≠ 65533) (w : World) : Calls Tryz.prog 211 #[.string E6,.int .i32 x] w fun e w' => e = .returned (.int .i64 (-1)) /\ Go.RowKit.Below w.heap.size w w' := by
 have hd0 : decide ((0 : Int) <= x) = true := by simp; omega
 have hd1 : decide (x < (128 : Int)) = false := by simp; omega
 have hd2 : decide ((95 : Int) = b.toNat) = false := by simp; omega
 have e295 : ∀ args w,(callFunc 214 args).run Tryz.prog w = .ok (.enter 214 args) w := enters_of Tryz.func214 Kr rfl;have e294 : ∀ args w,(callFunc 213 args).run Tryz.prog w = .ok (.enter 213 args) w := enters_of Tryz.func213 Kr rfl;have mixed : Tryz.prog.follows .mixedOrders = true := Kr;have hsz : E6.size = 4 := rfl
 have hne : (((E6[1]'(by decide)).toNat : Int) != (((⟨#[a,b]⟩ : ByteArray)[1]'(by show 1 < 2; omega)).toNat : Int)) = true := by
  show (((95 : Nat) : Int) != ((b.toNat : Nat) : Int)) = true
  simp; omega
 have hix : Lib.indexByte (E6.extract 2 4).data.toList ((((⟨#[a,b]⟩ : ByteArray)[1]'(by show 1 < 2; omega)).toNat : Int)).toNat.toUInt8 = -1 := by
  show Lib.indexByte [46,63] (b.toNat : Int).toNat.toUInt8 = -1
  rw [eq_,show b.toNat.toUInt8 = b from UInt8.ofNat_toNat]
  exact Ale hb (by decide)
 have hI : ∀ w,Calls Tryz.prog 213 #[.string (E6.extract 2 4),.int .u8 (((⟨#[a,b]⟩ : ByteArray)[1]'(by show 1 < 2; omega)).toNat : Int)] w fun e w' => e = .returned (.int .i64 (-1)) /\ w' = w := fun w => by
  have := Ajv (E6.extract 2 4) (((⟨#[a,b]⟩ : ByteArray)[1]'(by show 1 < 2; omega)).toNat : Int) w
  rwa [hix] at this
 clear hix
 have hwr : IntKind.i64.wrap 2 = 2 := by decide
 have kc : ∀ (w : World),(convert 21 9 (.int .i32 x)).run Tryz.prog w = .ok (.string ⟨#[a,b]⟩) w := fun w => by rw [← he]; exact run_convert_int_string (P := Tryz.prog) w 21 9 .i32 x (by rw [Tryz.underlying21]; rfl) Tryz.underlying9
 go_enter Tryz.func211,Tryz.ntmps211
 go_wp2_with (first | (go_at_fn 214; refine (Tryz.utf8_ValidRune _ _).mono ?_; rintro e w' ⟨rfl,hw⟩; rw [hw,h1]) | (go_at_fn 213; refine (Any.strings_IndexByte { Tryz.lays151 with } _ _ _).mono ?_; rintro e w' ⟨rfl,hw⟩; rw [hw]))
 refine wp_scope_straight ?_
 go_wp2
 go_loopg [9] 1 (fun gf s9 wx => s9 = .int .i64 1 /\ wx = w)
 case atStart => exact ⟨rfl,rfl⟩
 case round =>
  obtain ⟨rfl,rfl⟩ := hrel
  go_wp2
  refine wp_scope_straight ?_
  go_wp2
  go_quiet (fail)
  go_wp2
  go_quiet ((refine (hI _).mono fun e w'' h => ⟨h.1,_,h.2⟩))
  go_wp2
  simp only [Exit.noGoto,Exit.inBlock,Exit.then]
  go_ret
  exact ⟨rfl,below_drewNg _ _⟩
set_option maxRecDepth 1000000 in
theorem Am3 (x : Int) (a b d : UInt8) (he : Utf8.encode x = ⟨#[a,b,d]⟩) (hb : 128 <= d.toNat) (h0 : 128 <= x) (h1 : Lib.validRune x = true) (h2 : x ≠ 65533) (w : World) : Calls Tryz.prog 211 #[.string E6,.int .i32 x] w fun e w' => e = .returned (.int .i64 (-1)) /\ Go.RowKit.Below w.heap.size w w' := by
 have hd0 : decide ((0 : Int) <= x) = true := by simp; omega
 have hd1 : decide (x < (128 : Int)) = false := by simp; omega
 have hd2 : decide ((46 : Int) = d.toNat) = false := by simp; omega
 have e295 : ∀ args w,(callFunc 214 args).run Tryz.prog w = .ok (.enter 214 args) w := enters_of Tryz.func214 Kr rfl;have e294 : ∀ args w,(callFunc 213 args).run Tryz.prog w = .ok (.enter 213 args) w := enters_of Tryz.func213 Kr rfl;have mixed : Tryz.prog.follows .mixedOrders = true := Kr;have hsz : E6.size = 4 := rfl
 have hne : (((E6[2]'(by decide)).toNat : Int) != (((⟨#[a,b,d]⟩ : ByteArray)[2]'(by show 2 < 3; omega)).toNat : Int)) = true := by
  show (((46 : Nat) : Int) != ((d.toNat : Nat) : Int)) = true
  simp; omega
 have hix : Lib.indexByte (E6.extract 3 4).data.toList ((((⟨#[a,b,d]⟩ : ByteArray)[2]'(by show 2 < 3; omega)).toNat : Int)).toNat.toUInt8 = -1 := by
  show Lib.indexByte [63] (d.toNat : Int).toNat.toUInt8 = -1
  rw [eq_,show d.toNat.toUInt8 = d from UInt8.ofNat_toNat]
  exact Ale hb (by decide)
 have hI : ∀ w,Calls Tryz.prog 213 #[.string (E6.extract 3 4),.int .u8 (((⟨#[a,b,d]⟩ : ByteArray)[2]'(by show 2 < 3; omega)).toNat : Int)] w fun e w' => e = .returned (.int .i64 (-1)) /\ w' = w := fun w => by
  have := Ajv (E6.extract 3 4) (((⟨#[a,b,d]⟩ : ByteArray)[2]'(by show 2 < 3; omega)).toNat : Int) w
  rwa [hix] at this
 clear hix
 have hwr : IntKind.i64.wrap 3 = 3 := by decide
 have kc : ∀ (w : World),(convert 21 9 (.int .i32 x)).run Tryz.prog w = .ok (.string ⟨#[a,b,d]⟩) w := fun w => by rw [← he]; exact run_convert_int_string (P := Tryz.prog) w 21 9 .i32 x (by rw [Tryz.underlying21]; rfl) Tryz.underlying9
 go_enter Tryz.func211,Tryz.ntmps211
 go_wp2_with (first | (go_at_fn 214; refine (Tryz.utf8_ValidRune _ _).mono ?_; rintro e w' ⟨rfl,hw⟩; rw [hw,h1]) | (go_at_fn 213; refine (Any.strings_IndexByte { Tryz.lays151 with } _ _ _).mono ?_; rintro e w' ⟨rfl,hw⟩; rw [hw]))
 refine wp_scope_straight ?_
 go_wp2
 go_loopg [9] 1 (fun gf s9 wx => s9 = .int .i64 2 /\ wx = w)
 case atStart => exact ⟨rfl,rfl⟩
 case round =>
  obtain ⟨rfl,rfl⟩ := hrel
  go_wp2
  refine wp_scope_straight ?_
  go_wp2
  go_quiet (fail)
  go_wp2
  go_quiet ((refine (hI _).mono fun e w'' h => ⟨h.1,_,h.2⟩))
  go_wp2
  simp only [Exit.noGoto,Exit.inBlock,Exit.then]
  go_ret
  exact ⟨rfl,below_drewNg _ _⟩
set_option maxRecDepth 1000000 in
theorem Am4 (x : Int) (a b d e : UInt8) (he : Utf8.encode x = ⟨#[a,b,d,e]⟩) (hb : 128 <= e.toNat) (h0 : 128 <= x) (h1 : Lib.validRune x = true) (h2 : x ≠ 65533) (w : World) : Calls Tryz.prog 211 #[.string E6,.int .i32 x] w fun e w' => e = .returned (.int .i64 (-1)) /\ Go.RowKit.Below w.heap.size w w' := by
 have hd0 : decide ((0 : Int) <= x) = true := by simp; omega
 have hd1 : decide (x < (128 : Int)) = false := by simp; omega
 have hd2 : decide ((63 : Int) = e.toNat) = false := by simp; omega
 have e295 : ∀ args w,(callFunc 214 args).run Tryz.prog w = .ok (.enter 214 args) w := enters_of Tryz.func214 Kr rfl;have e294 : ∀ args w,(callFunc 213 args).run Tryz.prog w = .ok (.enter 213 args) w := enters_of Tryz.func213 Kr rfl;have mixed : Tryz.prog.follows .mixedOrders = true := Kr;have hsz : E6.size = 4 := rfl
 have hne : (((E6[3]'(by decide)).toNat : Int) != (((⟨#[a,b,d,e]⟩ : ByteArray)[3]'(by show 3 < 4; omega)).toNat : Int)) = true := by
  show (((63 : Nat) : Int) != ((e.toNat : Nat) : Int)) = true
  simp; omega
 have hix : Lib.indexByte (E6.extract 4 4).data.toList ((((⟨#[a,b,d,e]⟩ : ByteArray)[3]'(by show 3 < 4; omega)).toNat : Int)).toNat.toUInt8 = -1 := by
  show Lib.indexByte ([] : List UInt8) (e.toNat : Int).toNat.toUInt8 = -1
  rw [eq_,show e.toNat.toUInt8 = e from UInt8.ofNat_toNat]
  exact Ale hb (by decide)
 have hI : ∀ w,Calls Tryz.prog 213 #[.string (E6.extract 4 4),.int .u8 (((⟨#[a,b,d,e]⟩ : ByteArray)[3]'(by show 3 < 4; omega)).toNat : Int)] w fun e w' => e = .returned (.int .i64 (-1)) /\ w' = w := fun w => by
  have := Ajv (E6.extract 4 4) (((⟨#[a,b,d,e]⟩ : ByteArray)[3]'(by show 3 < 4; omega)).toNat : Int) w
  rwa [hix] at this
 clear hix
 have hwr : IntKind.i64.wrap 4 = 4 := by decide
 have kc : ∀ (w : World),(convert 21 9 (.int .i32 x)).run Tryz.prog w = .ok (.string ⟨#[a,b,d,e]⟩) w := fun w => by rw [← he]; exact run_convert_int_string (P := Tryz.prog) w 21 9 .i32 x (by rw [Tryz.underlying21]; rfl) Tryz.underlying9
 go_enter Tryz.func211,Tryz.ntmps211
 go_wp2_with (first | (go_at_fn 214; refine (Tryz.utf8_ValidRune _ _).mono ?_; rintro e w' ⟨rfl,hw⟩; rw [hw,h1]) | (go_at_fn 213; refine (Any.strings_IndexByte { Tryz.lays151 with } _ _ _).mono ?_; rintro e w' ⟨rfl,hw⟩; rw [hw]))
 refine wp_scope_straight ?_
 go_wp2
 go_loopg [9] 1 (fun gf s9 wx => s9 = .int .i64 3 /\ wx = w)
 case atStart => exact ⟨rfl,rfl⟩
 case round =>
  obtain ⟨rfl,rfl⟩ := hrel
  go_wp2
  refine wp_scope_straight ?_
  go_wp2
  go_quiet (fail)
  go_wp2
  go_quiet ((refine (hI _).mono fun e w'' h => ⟨h.1,_,h.2⟩))
  go_wp2
  simp only [Exit.noGoto,Exit.inBlock,Exit.then]
  go_ret
  exact ⟨rfl,below_drewNg _ _⟩
theorem Arp (x : Int) (h0 : 128 <= x) (w : World) : Calls Tryz.prog 211 #[.string E6,.int .i32 x] w fun e w' => e = .returned (.int .i64 (-1)) /\ Go.RowKit.Below w.heap.size w w' := by
 by_cases h2 : x = 65533
 ·subst h2; exact Apb w
 ·cases h1 : Lib.validRune x with
  | false => exact (Apc x h0 h1 h2 w).mono fun e w' h => ⟨h.1,h.2 ▸ Go.RowKit.Below.refl _ _⟩
  | true =>
   rcases Am1 x h0 with ⟨a,b,he,hb⟩ | ⟨a,b,d,he,hb⟩ | ⟨a,b,d,e,he,hb⟩
   ·exact Am2 x a b he hb h0 h1 h2 w
   ·exact Am3 x a b d he hb h0 h1 h2 w
   ·exact Am4 x a b d e he hb h0 h1 h2 w
def Ada (x : Int) : Bool := decide (x = 45) || decide (x = 95) || decide (x = 46) || decide (x = 63)
theorem Ate (x : Nat) (h : x < 128) : decide ((0 : Int) <= Lib.indexByte E6.data.toList x.toUInt8) = Ada x := by
 have : ∀ x : Fin 128,decide ((0 : Int) <= Lib.indexByte E6.data.toList x.val.toUInt8) = Ada x.val := by decide
 exact this ⟨x,h⟩
set_option maxRecDepth 1000000 in
theorem Arq (x : Nat) (w : World) : Calls Tryz.prog 209 #[.string E6,.int .i32 x] w fun e w' => e = .returned (.bool (Ada x)) /\ Go.RowKit.Below w.heap.size w w' := by
 by_cases h : x < 128
 ·have := Tryz.strings_ContainsRune_ascii E6 (x : Int) w Om Om;rw [eq_,Ate x h] at this;exact this.mono fun e w' h => ⟨h.1,h.2 ▸ Go.RowKit.Below.refl _ _⟩
 ·have e292 : ∀ args w,(callFunc 211 args).run Tryz.prog w = .ok (.enter 211 args) w := enters_of Tryz.func211 Kr rfl
  have hi : Ada x = false := by simp [Ada]; omega
  rw [hi]
  go_enter Tryz.func209,Tryz.ntmps209
  go_wp2_with (go_at_fn 211; refine (Arp (x : Int) Om _).mono ?_; rintro e w' ⟨rfl,hw⟩)
  go_ret
  exact ⟨rfl,hw⟩
def prC (n : Int) : Bool := (((decide ((97 : Int) <= n) && decide (n <= 122)) || (decide ((65 : Int) <= n) && decide (n <= 90))) || (decide ((48 : Int) <= n) && decide (n <= 57))) || Ada n
end
section
open Go Go.Proofs Go.RowKit
set_option maxRecDepth 1000000 in
theorem g289 (x : Nat) (w : World) : Calls Tryz.prog 208 #[.int .i32 x] w fun e w' => e = .returned (.bool (!prC x)) /\ Go.RowKit.Below w.heap.size w w' := by
  have e290 : ∀ args w,(callFunc 209 args).run Tryz.prog w = .ok (.enter 209 args) w := enters_of Tryz.func209 Kr rfl;obtain ⟨X,hX⟩ : ∃ X : Int,(x : Int) = X := ⟨_,rfl⟩;have hR := Arq x;rw [hX] at hR ⊢;unfold prC;cases h1 : decide ((97 : Int) <= X) <;> cases h2 : decide (X <= 122) <;> cases h3 : decide ((65 : Int) <= X) <;> cases h4 : decide (X <= 90) <;> cases h5 : decide ((48 : Int) <= X) <;> cases h6 : decide (X <= 57) <;>
  (go_enter Tryz.func208,Tryz.ntmps208
   go_wp2_with (go_at_fn 209; refine (hR _).mono ?_; rintro e w' ⟨rfl,hw⟩)
   go_ret
   first | exact ⟨rfl,Go.RowKit.Below.refl _ _⟩ | exact ⟨rfl,hw⟩)
theorem Ahi {f : Nat} {args : List AV} {J : Sto} {b : Bool} (he : Vl Ew.P f) (h : ∀ C w (vs : Array Value),RL C (nx J) w args vs.toList -> Calls Ew.P f vs w (fun e w' => e = .returned (.bool b) /\ Go.RowKit.Below w.heap.size w w')) : Aq Ew f args J fun u τ => u = .bool b /\ τ = J := by
 intro C w vs hs hg ha;refine ⟨he,(h C w vs ha).mono fun e w' hq => ?_⟩
 obtain ⟨rfl,hb⟩ := hq;obtain ⟨k1,k2⟩ := hs.same hb.size hb.block ⟨hb.os,hb.output⟩
 exact ⟨.bool b,J,C,⟨rfl,rfl⟩,k1,k2,by unfold R; rfl⟩
def prS (s : Str) : Bool := decide (0 <= Lib.idxFunc (fun x => !prC x) true ⟨⟨s⟩⟩)
theorem Atf {C : Ctx} {N : Nat} {w : World} {k : Nat} {x : Value} (h : R C N w (.fn (.func k) [] []) x) : x = .func (.func k) #[] #[] := by
 unfold R at h;obtain ⟨a,b,rfl,h1,h2⟩ := h
 have e : ∀ a : Array Value,RL C N w [] a.toList -> a = #[] := fun a h => by
  obtain ⟨l⟩ := a;cases l with
  | nil => rfl
  | cons x r => unfold RL at h; exact h.elim
 rw [e a h1,e b h2]
theorem f207 (s : Str) (J : Sto) : Cv 207 [sV s,.fn (.func 208) [] []] J (.bool (prS s)) := by
 refine Ahi ⟨_,Tryz.func207,rfl,rfl⟩ fun C w vs ha => ?_
 obtain ⟨x,y,rfl,hx,hy⟩ := Ajq ha;obtain ⟨a,rfl,rfl⟩ := Ao7 hx;rw [Atf hy];have e289 : ∀ args w,(callFunc 208 args).run Tryz.prog w = .ok (.enter 208 args) w := enters_of Tryz.func208 Kr rfl;exact Any.strings_ContainsFunc_grows Tryz.laysGw17 208 #[] e289 (fun x => !prC x) a w fun W x _ _ => g289 x W
def Ef (s : Str) : Bool := (decide (s = [40]) || decide (s = [41])) || (!decide (s = []) && !prS s)
end
end Go.AM
