/- A part of the proof; shortened by program. -/
import Derived.Shelf.Strings.FuncGrows
import Derived.Laws.Runes
import Derived.Deep.QuietTactic
import Derived.BigQuiet
import Derived.Test.YtcnkdbldfpaebaaGreatDoorP20
set_option maxRecDepth 100000
set_option maxHeartbeats 4000000
set_option linter.unusedSimpArgs false
set_option linter.unusedVariables false
namespace Go.AM
open Go Go.Proofs
def Kn.fr (k : Kn) (s : Str) : Kn := { k with frames := k.frames.put s true }
def Ik (k : Kn) (nh : Nat) : List Hp -> Nat -> SM Bool -> SM Str -> Int × SM Str
 | [],_,_,ty => (0,ty)
 | h :: r,i,lab,ty => if (!decide (Ur k lab ty h (decide (Int.ofNat nh <= Int.ofNat i)) = 0)) = true then (Ur k lab ty h (decide (Int.ofNat nh <= Int.ofNat i)),ty)
  else Ik k nh r (i + 1) (lab.put h.label true) (if h.floating = true then ty.put (h.text.tail.headD []) (h.text.headD []) else ty)
def prfB (pw : Str -> Bool) (f : Fr) : Bool := decide ((0 : Int) < Int.ofNat f.proof.length) && ((!f.thm || decide ((8000 : Int) < Int.ofNat f.proof.length)) || f.proof.any (fun s => !pw s))
def Fr.all (f : Fr) : List Hp := [f.hyps,f.dummies].flatten
def Kn.hyps' (k : Kn) (l : List Hp) : Kn := { k with hyps := l.foldl (fun m h => m.put h.label h) k.hyps }
def Ajt (f : Fr) : List Hp := Dy (fun h => h.floating) f.hyps
def Alp (f : Fr) (before : List Hp) : List Hp := (Ajt f).drop (G9 before (Ajt f))
def knF (k : Kn) (f : Fr) : Kn := { (k.fr f.label).hyps' f.all with types := SM.over (Ik (k.fr f.label) f.hyps.length f.all 0 [] []).2 k.types }
def Es (pw : Str -> Bool) (k : Kn) (f : Fr) (before : List Hp) : Int :=
 if (!K8 [2] f.label) = true then 2
 else if (((k.hyps.get f.label).isSome || k.isSym f.label) || k.frames.has f.label) = true then 6
 else if (decide ((40 : Int) < Int.ofNat f.hyps.length) || decide ((40 : Int) < Int.ofNat f.dummies.length)) = true then 4
 else if (!decide ((Ik (k.fr f.label) f.hyps.length f.all 0 [] []).1 = 0)) = true then (Ik (k.fr f.label) f.hyps.length f.all 0 [] []).1
 else if (!decide ((k.fr f.label).textF f.text = 0)) = true then (k.fr f.label).textF f.text
 else if (!decide (Jk (k.fr f.label) f = 0)) = true then Jk (k.fr f.label) f
 else if prfB pw f = true then 2
 else if ((Alp f before).any fun h => ((k.fr f.label).hyps.get h.label).isSome) = true then 7 else 0
structure FrB (f : Fr) : Prop where
 h : f.hyps.length < 1000000
 a : f.all.length < 1000000
 t : f.text.length < 1000000
 x : ∀ h ∈ f.all,h.text.length < 1000000
 w : f.wide.length < 1000000
 p : f.proof.length < 1000000
def Alq (m : Nat) (J J' : Sto) : Prop := nx J <= nx J' /\ ∀ b,b < nx J -> (b < m ∨ m + 5 <= b) -> J'.get b = J.get b
theorem nx1 {J : Sto} {n : Nat} {o : AO} (h : nx J = n) : nx (J.new o) = n + 1 := by rw [Aj,h]
theorem C6 {ρ : Ao} {J : Sto} {Rr : Rec} {t n kt sz : Nat} {agg : Bool} {z : AV} (hi : mpI Ew.P t = some (kt,z,sz,agg)) (hn : nx J = n) : Bo Ew Rr (.makeMap t none) ρ J (.mp n) (J.new (.map kt [] 0)) := by subst hn; exact Ga hi
theorem Gs.fr {J J' : Sto} {m : Nat} {k : Kn} {s : Str} {ver : Nat} (hk : Gs J m k) (hw : WFS J) (hf : J'.get (m + 2) = some (.map 9 (Cp bV (k.frames.put s true)) ver)) (hg : ∀ b,b < nx J -> b ≠ m + 2 -> J'.get b = J.get b) : Gs J' m (k.fr s) :=
 ⟨hk.c.of_get (hg _ (hk.c.lt hw) Om),hk.v.of_get (hg _ (hk.v.lt hw) Om),⟨ver,hf⟩,hk.h.of_get (hg _ (hk.h.lt hw) Om),hk.t.of_get (hg _ (hk.t.lt hw) Om)⟩
theorem Gs.hi {J : Sto} {m a : Nat} {k : Kn} {O : AO} (hk : Gs J m k) (h : m + 5 <= a) : Gs (J.set a O) m k := ⟨hk.c.set Om,hk.v.set Om,hk.f.set Om,hk.h.set Om,hk.t.set Om⟩
theorem Gs.hp {J : Sto} {m ver : Nat} {k : Kn} {h : Hp} (hk : Gs J m k) : Gs (J.set (m + 3) (.map 9 (Cp hV (k.hyps.put h.label h)) ver)) m { k with hyps := k.hyps.put h.label h } :=
 ⟨hk.c.set Om,hk.v.set Om,hk.f.set Om,dh_,hk.t.set Om⟩
theorem Gs.ty {J : Sto} {m ver : Nat} {k : Kn} {ty : SM Str} (hk : Gs J m k) : Gs (J.set (m + 4) (.map 9 (Cp sV ty) ver)) m { k with types := ty } :=
 ⟨hk.c.set Om,hk.v.set Om,hk.f.set Om,hk.h.set Om,dh_⟩
structure And (J J0 : Sto) (m : Nat) (k : Kn) (lab : SM Bool) (ty : SM Str) : Prop where
 n : nx J0 = nx J + 2
 g : ∀ b,b < nx J -> b ≠ m + 2 -> J0.get b = J.get b
 k : Gs J0 m k
 l : E7 J0 (nx J) lab
 t : Bx sV J0 (nx J + 1) ty
 s : SM.Srt ty
theorem And.up {J J0 : Sto} {m : Nat} {k : Kn} {lab : SM Bool} {ty : SM Str} (h : And J J0 m k lab ty) : Alq m J J0 := ⟨by rw [h.n]; omega,fun b hb hm => h.g b hb Om⟩
theorem Ag2 {k : Kn} {lab : SM Bool} {ty : SM Str} {h : Hp} {du : Bool} (h0 : Ur k lab ty h du = 0) (hf : h.floating = true) : ∃ a b,h.text = [a,b] := by
 have h2 : h.text.length = 2 := by
  unfold Ur at h0
  split at h0
  ·cases h0
  ·rename_i hb
   simp [Atl,hf] at hb
   omega
 match h.text,h2 with
 | [a,b],_ => exact ⟨a,b,rfl⟩
theorem Aju (k : Kn) (l : List Hp) (h : Hp) : k.hyps' (l ++ [h]) = { k.hyps' l with hyps := (k.hyps' l).hyps.put h.label h } := by
 unfold Kn.hyps'; rw [g_]; rfl
theorem FrB.ess {f : Fr} (h : FrB f) : ∀ t ∈ f.text :: Hh f.hyps,t.length < 1000000 := fun t ht => by
 rcases aj_.1 ht with rfl | ht
 ·exact h.t
 ·obtain ⟨x,hx,rfl⟩ := by_.1 ht
  exact h.x x (List.mem_flatten.2 ⟨f.hyps,by simp,(ds_.1 hx).1⟩)
theorem Ap0 {e : Int} (h : (!decide (e = 0)) = false) : e = 0 := by simpa using h
theorem Ash {ρ : Ao} {J : Sto} {Rr : Rec} {x : Operand} {lo hi mx : Option Operand} {own : List Hp} {n : Nat} (hx : A4 Ew ρ x = some (slV eH 3 own)) (h1 : Lk Ew ρ lo = some (some (iV (.ofNat n)))) (h2 : Lk Ew ρ hi = some (some (iV (.ofNat own.length)))) (h3 : Lk Ew ρ mx = some (some (iV (.ofNat own.length)))) (hn : n <= own.length) :
  Bo Ew Rr (.slice 56 x lo hi mx) ρ J (.sv ((own.drop n).flatMap eH) 3 (own.drop n).length (some (own.length - n))) J := by
 have hb : D4 own.length none (some (iV (.ofNat n))) (some (iV (.ofNat own.length))) (some (iV (.ofNat own.length))) = some (n,own.length,some (own.length - n)) := by
  have h2 : Nat.ble n own.length = true := ba_ hn;have h3 : Nat.ble own.length own.length = true := ba_ nl;simp only [D4,iV,Lr,h2,Pi,h3,cond_true,cm_]
 have := Ai6 (Rr := Rr) (J := J) (lo := lo) (hi := hi) (mx := mx) Ih Qk hx h1 h2 h3 hb hn nl;rw [eg_] at this
 rwa [cu_]
theorem f109 (pw : Str -> Bool) (hpw : ∀ s J,Cv 138 [sV s] J (.bool (!pw s))) (m : Nat) (k : Kn) (f : Fr) (before : List Hp) (J : Sto) (hk : Gs J m k) (hsr : SM.Srt k.types) (hB : FrB f) (hbe : before.length < 1000000) : A6 Ew 109 [knV m,.agg (eF f),slV eH 3 before] J fun v J' => v = iV (Es pw k f before) /\ Alq m J J' /\ (Es pw k f before = 0 -> Gs J' m (knF k f) /\ SM.Srt (knF k f).types) := by
 refine Az Tryz.func109 rfl rfl fun hw hu0 => ?_
 obtain ⟨vf,hvf⟩ := id hk.f;have hm5 : m + 4 < nx J := hk.t.lt hw;have hba := hB.a;refine Ac (Aa (Ar Jw rfl rfl rfl (Ar Qf rfl rfl rfl (OA rfl (Ab (Ac (Ac ?_)))))));refine Aa (O1 (Ad Sl rfl rfl) (O1 (Ae ld9 rfl rfl rfl) (Ap rfl rfl rfl rfl (f133 f.label _) (O1 (Bb rfl) (Ab ?_)))));refine Ah rfl ?_ ?_ <;> intro h1
 ·refine Ac (Aa (OA rfl (Ab ?_)));have hE : Es pw k f before = 2 := (if_pos h1);refine Dp fun hw9 => ?_
  refine An ?_
  exact ⟨_,rfl,_,_,ag_ hw9 nl (fun _ _ => rfl),nl,.same rfl,congrArg iV hE.symm,⟨nl,fun _ _ _ => rfl⟩,fun hh => absurd (hE.symm.trans hh) (by decide)⟩
 ·refine Ai (Ac ?_);refine Ni 7 zH (hcs (k.hyps.get f.label)) [(8,.bool (k.hyps.get f.label).isSome)] (Up _) rfl (fun hw => ?_) ?_
  ·refine Ig 1 (anns := [aR 0 1,aP 0 1,aP 0 1,aR 0 1,aP 0 1,aR 0 1,aR 0 1,aP 0 1,aP 0 1,aP 0 2,aE 0 1,aE 1 2,aP 2 2]) A1 (As (l := []) trivial) Kr Kr ?_;refine DF (Ae Jw rfl rfl rfl) (DF (Bp rfl) (DF (Ad Uk rfl rfl) (DF (Ae Agv rfl rfl rfl) (DF (Ad Sl rfl rfl) (DF (Ae ld9 rfl rfl rfl) (DF (Uq rfl hk.h rfl) (DF (Ag rfl) ?_)))))));refine DF (Al rfl rfl) (DF (Al rfl rfl) (DT (Cw Sm) (DT (B9 (vs := zH) (vs' := hcs (k.hyps.get f.label)) D2 rfl rfl (Bj (Ja _)) Ed (E4 (Ja _))) (DF (Bk rfl) (Bi ?_)))))
   exact ⟨(by intro e he; simp at he; rcases he with rfl | rfl <;> first | exact .refl | exact Uf hw),⟨rfl,trivial⟩,sb,rfl,rfl⟩
  refine Hu [(48,.bool (((k.hyps.get f.label).isSome || k.isSym f.label) || k.frames.has f.label))] ?_ ?_
  ·rcases au_ ((k.hyps.get f.label).isSome) with hg1 | hg1
   ·refine Cc (anns := [aP 0 0,aP 0 0,aR 0 0,aP 0 0,aR 0 0,aE 0 1,aP 1 1,aP 1 1,aR 1 1,aP 1 1,aP 1 1,aR 1 1,aP 1 1,aR 1 1,aR 1 1,aP 1 1]) A1 (As (l := [(132,[knV m,sV f.label],J,.bool (k.isSym f.label),J)]) ⟨Agx m k f.label J hk,trivial⟩) Kr Kr ?_;refine DF (Ag rfl) (DF (Ag rfl) ?_)
    refine Wx (w := by first|rfl|simp only [hg1]<;>rfl|simp [hg1]) ?_
    refine Wx (w := by first|rfl|simp only [hg1]<;>rfl|simp [hg1]) ?_
    refine Wx (w := by first|rfl|simp only [hg1]<;>rfl|simp [hg1]) ?_
    refine Yc rfl rfl rfl rfl (by first|rfl|simp only [hg1]<;>rfl|simp [hg1]) rfl rfl ?_
    refine DF (Bu rfl (by first|rfl|simp only [hg1]<;>rfl|simp [hg1]) rfl) ?_
    refine DF (Ag rfl) ?_
    refine Wx (w := by first|rfl|simp only [hg1]<;>rfl|simp [hg1]) ?_
    refine Wx (w := by first|rfl|simp only [hg1]<;>rfl|simp [hg1]) ?_
    refine Wx (w := by first|rfl|simp only [hg1]<;>rfl|simp [hg1]) ?_
    refine Wx (w := by first|rfl|simp only [hg1]<;>rfl|simp [hg1]) ?_
    refine Wx (w := by first|rfl|simp only [hg1]<;>rfl|simp [hg1]) ?_
    refine Wx (w := by first|rfl|simp only [hg1]<;>rfl|simp [hg1]) ?_
    refine Wx (w := by first|rfl|simp only [hg1]<;>rfl|simp [hg1]) ?_
    refine DF (Bu rfl (by first|rfl|simp only [hg1]<;>rfl|simp [hg1]) rfl) ?_
    refine Bi ?_
    exact ⟨⟨congrArg (fun b => some (AV.bool b)) (by first|rfl|simp only [hg1]<;>rfl|simp [hg1]),trivial⟩,sb,rfl⟩
   ·rcases au_ (k.isSym f.label) with hg7 | hg7
    ·refine Cc (anns := [aP 0 0,aP 0 0,aR 0 0,aP 0 0,aR 0 0,aE 0 1,aP 1 1,aP 1 1,aR 1 1,aP 1 1,aP 1 1,aR 1 1,aP 1 1,aR 1 1,aR 1 1,aP 1 1]) A1 (As (l := [(132,[knV m,sV f.label],J,.bool (k.isSym f.label),J)]) ⟨Agx m k f.label J hk,trivial⟩) Kr Kr ?_;refine DF (Ag rfl) (DF (Ag rfl) ?_)
     refine Wn (w := by first|rfl|simp only [hg7,hg1]<;>rfl|simp [hg7,hg1]) (Ae Jw rfl rfl rfl) ?_
     refine Wn (w := by first|rfl|simp only [hg7,hg1]<;>rfl|simp [hg7,hg1]) (Ad Sl rfl rfl) ?_
     refine Wn (w := by first|rfl|simp only [hg7,hg1]<;>rfl|simp [hg7,hg1]) (Ae ld9 rfl rfl rfl) ?_
     refine Aae rfl rfl rfl rfl (by first|rfl|simp only [hg7,hg1]<;>rfl|simp [hg7,hg1]) rfl rfl (Bl rfl rfl Bm) ?_
     refine DF (Br rfl (by first|rfl|simp only [hg7,hg1]<;>rfl|simp [hg7,hg1]) rfl) ?_
     refine DF (Ag rfl) ?_
     refine Wx (w := by first|rfl|simp only [hg7,hg1]<;>rfl|simp [hg7,hg1]) ?_
     refine Wx (w := by first|rfl|simp only [hg7,hg1]<;>rfl|simp [hg7,hg1]) ?_
     refine Wx (w := by first|rfl|simp only [hg7,hg1]<;>rfl|simp [hg7,hg1]) ?_
     refine Wx (w := by first|rfl|simp only [hg7,hg1]<;>rfl|simp [hg7,hg1]) ?_
     refine Wx (w := by first|rfl|simp only [hg7,hg1]<;>rfl|simp [hg7,hg1]) ?_
     refine Wx (w := by first|rfl|simp only [hg7,hg1]<;>rfl|simp [hg7,hg1]) ?_
     refine Wx (w := by first|rfl|simp only [hg7,hg1]<;>rfl|simp [hg7,hg1]) ?_
     refine DF (Bu rfl (by first|rfl|simp only [hg7,hg1]<;>rfl|simp [hg7,hg1]) rfl) ?_
     refine Bi ?_
     exact ⟨⟨congrArg (fun b => some (AV.bool b)) (by first|rfl|simp only [hg7,hg1]<;>rfl|simp [hg7,hg1]),trivial⟩,sb,rfl⟩
    ·refine Cc (anns := [aP 0 0,aP 0 0,aR 0 0,aP 0 0,aR 0 0,aE 0 1,aP 1 1,aP 1 1,aR 1 1,aP 1 1,aP 1 1,aR 1 1,aP 1 1,aR 1 1,aR 1 1,aP 1 1]) A1 (As (l := [(132,[knV m,sV f.label],J,.bool (k.isSym f.label),J)]) ⟨Agx m k f.label J hk,trivial⟩) Kr Kr ?_;refine DF (Ag rfl) (DF (Ag rfl) ?_)
     refine Wn (w := by first|rfl|simp only [hg7,hg1]<;>rfl|simp [hg7,hg1]) (Ae Jw rfl rfl rfl) ?_
     refine Wn (w := by first|rfl|simp only [hg7,hg1]<;>rfl|simp [hg7,hg1]) (Ad Sl rfl rfl) ?_
     refine Wn (w := by first|rfl|simp only [hg7,hg1]<;>rfl|simp [hg7,hg1]) (Ae ld9 rfl rfl rfl) ?_
     refine Aae rfl rfl rfl rfl (by first|rfl|simp only [hg7,hg1]<;>rfl|simp [hg7,hg1]) rfl rfl (Bl rfl rfl Bm) ?_
     refine DF (Br rfl (by first|rfl|simp only [hg7,hg1]<;>rfl|simp [hg7,hg1]) rfl) ?_
     refine DF (Ag rfl) ?_
     refine Wn (w := by first|rfl|simp only [hg7,hg1]<;>rfl|simp [hg7,hg1]) (Ae Jw rfl rfl rfl) ?_
     refine Wn (w := by first|rfl|simp only [hg7,hg1]<;>rfl|simp [hg7,hg1]) (Bp rfl) ?_
     refine Wn (w := by first|rfl|simp only [hg7,hg1]<;>rfl|simp [hg7,hg1]) (Ad Yf rfl rfl) ?_
     refine Wn (w := by first|rfl|simp only [hg7,hg1]<;>rfl|simp [hg7,hg1]) (Ae E9 rfl rfl rfl) ?_
     refine Wn (w := by first|rfl|simp only [hg7,hg1]<;>rfl|simp [hg7,hg1]) (Ad Sl rfl rfl) ?_
     refine Wn (w := by first|rfl|simp only [hg7,hg1]<;>rfl|simp [hg7,hg1]) (Ae ld9 rfl rfl rfl) ?_
     refine Wn (w := by first|rfl|simp only [hg7,hg1]<;>rfl|simp [hg7,hg1]) (De st9 Cz rfl hk.f rfl) ?_
     refine DF (Br rfl (by first|rfl|simp only [hg7,hg1]<;>rfl|simp [hg7,hg1]) rfl) ?_
     refine Bi ?_
     exact ⟨⟨congrArg (fun b => some (AV.bool b)) (by first|rfl|simp only [hg7,hg1]<;>rfl|simp [hg7,hg1]),trivial⟩,sb,rfl⟩
  refine Ah rfl ?_ ?_ <;> intro h2
  ·refine Ac (Aa (OA rfl (Ab ?_)));have hE : Es pw k f before = 6 := ((if_neg (fun hh => Bool.noConfusion (h1.symm.trans hh))).trans (if_pos h2))
   refine Dp fun hw9 => ?_
   refine An ?_
   exact ⟨_,rfl,_,_,ag_ hw9 nl (fun _ _ => rfl),nl,.same rfl,congrArg iV hE.symm,⟨nl,fun _ _ _ => rfl⟩,fun hh => absurd (hE.symm.trans hh) (by decide)⟩
  ·refine Ai (Ac (Ac (Aa (O1 (Ad Hf rfl rfl) (O1 (Ae K7 rfl rfl rfl) (O1 (Aq F3 rfl) (O1 (Ca (q := 40) ok3 rfl rfl) ?_)))))));refine OM rfl ?_;refine Cm 4 _ ?_ rfl rfl rfl rfl rfl (Aw rfl) (fun hg => ?_) (fun hg => ?_) ?_
   rotate_left
   ·refine On hg (Ad Wg rfl rfl) (On hg (Ae K7 rfl rfl rfl) (On hg (Aq F3 rfl) (On hg (Ca (q := 40) ok3 rfl rfl) (Ab ?_))));refine ⟨rfl,?_,?_⟩
    ·exact sb
    ·exact rfl
   ·refine Of hg (Of hg (Of hg (Of hg (Ab ?_))));exact ⟨rfl,sb⟩
   refine Ab ?_;refine Ah rfl ?_ ?_ <;> intro h3
   ·refine Ac (Aa (OA rfl (Ab ?_)));have hE : Es pw k f before = 4 := ((if_neg (fun hh => Bool.noConfusion (h1.symm.trans hh))).trans ((if_neg (fun hh => Bool.noConfusion (h2.symm.trans hh))).trans (if_pos h3)))
    refine Dp fun hw9 => ?_
    refine An ?_
    exact ⟨_,rfl,_,_,ag_ hw9 nl (fun _ _ => rfl),nl,.same rfl,congrArg iV hE.symm,⟨nl,fun _ _ _ => rfl⟩,fun hh => absurd (hE.symm.trans hh) (by decide)⟩
   ·refine Ai (Ac ?_);refine Cc (anns := [aR 0 0,aP 0 0,aP 0 0,aR 0 0,aP 0 0,aR 0 0,aE 0 1]) A1 (As (l := []) trivial) Kr Kr ?_
    refine DF (Ae Jw rfl rfl rfl) (DF (Bp rfl) (DF (Ad Yf rfl rfl) (DF (Ae E9 rfl rfl rfl) (DF (Ad Sl rfl rfl) (DF (Ae ld9 rfl rfl rfl) (DT (E8 (v := true) st9 Cz rfl hvf rfl rfl (fun te k1 k2 => by first | exact Fq k1 k2 | exact Fs k1 k2 | exact Ge k1 k2 | exact Gf k1 k2 | exact Ft k1 k2 rfl)) ?_))))))
    refine Bi (Ac (Aa (O1 (C6 (n := nx J) Cz (Ak J _ _)) (O1 (C6 (n := nx J + 1) Acq (nx1 (Ak J _ _))) (O1 (B1 bd272 rfl rfl) (Bz zi272 App rfl (fun _ => rfl) rfl rfl rfl rfl ?_))))))
    refine Ab (Ac (Ac (Aa (O1 (Ad Hf rfl rfl) (O1 (Ae K7 rfl rfl rfl) (O1 (Ad Wg rfl rfl) (O1 (Ae K7 rfl rfl rfl) ?_)))))))
    refine E6 (Bn Alf byW rfl rfl rfl) (Gd (len := 2)) rfl rfl (Ap rfl rfl rfl rfl (f134 [f.hyps,f.dummies] _ (by simp) hB.a) ?_)
    refine O1 (Aq F3 rfl) (OM rfl (Ab ?_))
    have c9 : ∃ lab ty,And J (((J.set (m + 2) (.map 9 (Cp bV (k.frames.put f.label true)) (vf + 1))).new (.map 9 [] 0)).new (.map 9 [] 0)) m (k.fr f.label) lab ty /\ Ik (k.fr f.label) f.hyps.length f.all 0 [] [] = Ik (k.fr f.label) f.hyps.length (f.all.drop 0) 0 lab ty /\ ∀ h ∈ f.all.take 0,h.floating = true -> ∃ a b,h.text = [a,b] := by
     have hg : ∀ b,b < nx J -> b ≠ m + 2 -> (((J.set (m + 2) (.map 9 (Cp bV (k.frames.put f.label true)) (vf + 1))).new (.map 9 [] 0)).new (.map 9 [] 0)).get b = J.get b := fun b h8 h9 => by
      rw [ab_,if_neg (by rw [Aj,Ak]; omega),ab_,if_neg (by rw [Ak]; omega),a_,if_neg Om]
     refine ⟨[],[],⟨by rw [Aj,Aj,Ak],hg,hk.fr (ver := vf + 1) hw ?_ hg,⟨0,?_⟩,⟨0,?_⟩,.nil⟩,rfl,fun h hh => by simp at hh⟩
     ·rw [ab_,if_neg (by rw [Aj,Ak]; omega),ab_,if_neg (by rw [Ak]; omega),a_,if_pos rfl]
     ·rw [ab_,if_neg (by rw [Aj,Ak]; omega),ab_,if_pos (by rw [Ak])]; rfl
     ·rw [ab_,if_pos (by rw [Aj,Ak])]; rfl
    refine Am ?_;refine B8 f.all.length (fun i0 => [(2,slV eH 3 before),(3,.pv [knV m]),(4,.pv (eF f)),(9,.pv [.mp (nx J),.mp (nx J + 1)]),(73,slV eH 3 f.all),(74,iV (.ofNat f.all.length)),(75,iV (.ofNat i0))]) (fun i0 J0 => ∃ lab ty,And J J0 m (k.fr f.label) lab ty /\ Ik (k.fr f.label) f.hyps.length f.all 0 [] [] = Ik (k.fr f.label) f.hyps.length (f.all.drop i0) i0 lab ty /\ ∀ h ∈ f.all.take i0,h.floating = true -> ∃ a b,h.text = [a,b]) SL c9 ?_
    rintro i0 J0 hi0 ⟨lab,ty,⟨hn0,hg0,hk0,hl0,ht0,hs0⟩,hf0,h20⟩;refine Ac (Aa (O1 (A8 ok3 rfl rfl) (Ab (Ac ?_))));refine Ah rfl ?_ ?_ <;> intro h4
    ·have bf : i0 < f.all.length := by simpa using h4
     obtain ⟨a0,ha0⟩ := Bt bf;have hd0 := Bh ha0;have hne0 : a0 ∈ f.all := af_ ha0;obtain ⟨vl,hvl⟩ := id hl0;obtain ⟨vt0,nq⟩ := id ht0;refine Ai (Ac (Am (Ac (Aa (OM rfl (O1 (Ax Ih (fun _ => rfl) rfl rfl ha0) ?_))))))
     refine O1 (Ae D2 rfl rfl rfl) (Ub Sm D2 rfl rfl (fun _ => rfl) rfl (fun _ => rfl) rfl rfl rfl rfl rfl ?_)
     refine Ab (Ac (Ac (Aa (O1 (Ae Jw rfl rfl rfl) (O1 (Ae App rfl rfl rfl) (O1 (Ae D2 rfl rfl rfl) (OM rfl ?_)))))));refine O1 (Ad Hf rfl rfl) (O1 (Ae K7 rfl rfl rfl) (O1 (Aq F3 rfl) (O1 (Eq ok3 rfl rfl) (Ap rfl rfl rfl rfl (f135 m (k.fr f.label) (nx J) (nx J + 1) lab ty a0 _ J0 hk0 hl0 ht0 (hB.x a0 (af_ ha0))) (OA rfl (Ab (Ac ?_)))))));refine Aa (OM rfl (O1 (Cx (q := 0) Jj rfl rfl) (Ab ?_)));refine Ah rfl ?_ ?_ <;> intro h5
     ·refine Ac (Aa (OM rfl (OA rfl (Ab ?_))))
      have hH : Ik (k.fr f.label) f.hyps.length f.all 0 [] [] = ((Ur (k.fr f.label) lab ty a0 (decide (Int.ofNat f.hyps.length <= Int.ofNat i0))),ty) := by rw [hf0,hd0,Ik,if_pos h5]
      have hup : Alq m J J0 := And.up ⟨hn0,hg0,hk0,hl0,ht0,hs0⟩
      have hE : Es pw k f before = (Ur (k.fr f.label) lab ty a0 (decide (Int.ofNat f.hyps.length <= Int.ofNat i0))) := ((if_neg (fun hh => Bool.noConfusion (h1.symm.trans hh))).trans ((if_neg (fun hh => Bool.noConfusion (h2.symm.trans hh))).trans ((if_neg (fun hh => Bool.noConfusion (h3.symm.trans hh))).trans (by rw [hH]; exact if_pos h5))))
      refine Dp fun hw9 => ?_
      refine An ?_
      exact ⟨_,rfl,_,_,ag_ hw9 nl (fun _ _ => rfl),(by rw [hn0]; omega),.same rfl,congrArg iV hE.symm,hup,fun hh => by have h9 : (!decide ((Ur (k.fr f.label) lab ty a0 (decide (Int.ofNat f.hyps.length <= Int.ofNat i0))) = 0)) = true := h5; rw [hE.symm.trans hh] at h9; exact absurd h9 (by decide)⟩
     ·refine Ai (Ac (Aa (O1 (Ad Ale rfl rfl) (O1 (Ae E9 rfl rfl rfl) (O1 (Ad Fu rfl rfl) (O1 (Ae ld9 rfl rfl rfl) (O1 (E8 (v := true) st9 Cz rfl hvl rfl rfl (fun te k1 k2 => by first | exact Fq k1 k2 | exact Fs k1 k2 | exact Ge k1 k2 | exact Gf k1 k2 | exact Ft k1 k2 rfl)) ?_)))))))
      refine Ab (Ac (Aa (O1 (Ad I2 rfl rfl) (O1 (Ae ld4 rfl rfl rfl) (Ab ?_)))));refine Ah rfl ?_ ?_ <;> intro h6
      ·have h6f : a0.floating = true := h6;obtain ⟨t0,t1,htx⟩ := Ag2 (Ap0 h5) h6f
       have htw : ∀ h ∈ f.all.take (i0 + 1),h.floating = true -> ∃ a b,h.text = [a,b] := fun h hh hf => by
        rw [Ci ha0] at hh
        rcases bo_.1 hh with hh | hh
        ·exact h20 h hh hf
        ·cases al_.1 hh; exact ⟨t0,t1,htx⟩
       refine Cc (anns := [aP 0 0,aR 0 0,aP 0 0,aR 0 0,aP 0 0,aR 0 0,aP 0 0,aR 0 0,aP 0 0,aR 0 0,aE 0 1]) A1 (As (l := []) trivial) Kr Kr ?_
       refine DF (Ad Aew rfl rfl) (DF (Ae Agw rfl rfl rfl) (DF (Ad C7 rfl rfl) (DF (Ae Ce rfl rfl rfl) (DF (Ax Da (fun _ => rfl) rfl rfl (by rw [htx]; rfl : a0.text[1]? = some t1) (i := 1)) ?_))))
       refine DF (Ae ld9 rfl rfl rfl) (DF (Ad C7 rfl rfl) (DF (Ae Ce rfl rfl rfl) (DF (Ax Da (fun _ => rfl) rfl rfl (by rw [htx]; rfl : a0.text[0]? = some t0) (i := 0)) ?_)))
       refine DF (Ae ld9 rfl rfl rfl) (DT (E8 (v := t0) st9 Acq rfl (by rw [a_,if_neg Om]; exact nq) rfl rfl (fun te k1 k2 => by first | exact Fq k1 k2 | exact Fs k1 k2 | exact Ge k1 k2 | exact Gf k1 k2 | exact Ft k1 k2 rfl)) ?_)
       refine Bi (Aa (O1 (Ay (q := 1) ok3 rfl rfl Om) ?_));refine OM rfl (Ab ?_)
       refine ⟨bf,SL,⟨lab.put a0.label true,ty.put t1 t0,⟨by rw [Ak,Ak]; exact hn0,fun b h7 h8 => by rw [a_,if_neg Om,a_,if_neg Om]; exact hg0 b h7 h8,(hk0.hi Om).hi Om,Bx.set dh_ Om,dh_,hs0.put⟩,by rw [hf0,hd0,Ik,if_neg (fun hh => Bool.noConfusion (h5.symm.trans hh)),if_pos h6f,htx]; rfl,htw⟩⟩
      ·have h6f : a0.floating = false := h6
       have htw : ∀ h ∈ f.all.take (i0 + 1),h.floating = true -> ∃ a b,h.text = [a,b] := fun h hh hf => by
        rw [Ci ha0] at hh
        rcases bo_.1 hh with hh | hh
        ·exact h20 h hh hf
        ·cases al_.1 hh; rw [h6f] at hf; cases hf
       refine Ai (Aa (O1 (Ay (q := 1) ok3 rfl rfl Om) ?_));refine OM rfl (Ab ?_)
       refine ⟨bf,SL,⟨lab.put a0.label true,ty,⟨by rw [Ak]; exact hn0,fun b h7 h8 => by rw [a_,if_neg Om]; exact hg0 b h7 h8,hk0.hi Om,dh_,ht0.set Om,hs0⟩,by rw [hf0,hd0,Ik,if_neg (fun hh => Bool.noConfusion (h5.symm.trans hh)),if_neg (by rw [h6f]; simp)],htw⟩⟩
    ·have bq : f.all.length <= i0 := by simpa using h4
     have hH : Ik (k.fr f.label) f.hyps.length f.all 0 [] [] = (0,ty) := by rw [hf0,ah_ bq]; rfl
     have hup : Alq m J J0 := And.up ⟨hn0,hg0,hk0,hl0,ht0,hs0⟩;have hb2 : ∀ t ∈ f.text :: Hh f.hyps,t.length < 1000000 := hB.ess
     have hfl : ∀ h ∈ f.hyps,h.floating = true -> ∃ a b,h.text = [a,b] := fun h hh => h20 h (by rw [at_ bq]; simp [Fr.all,hh])
     have hrl : (Alp f before).length < 4611686018427387904 := by have := hB.h; have h9 := Fy (p := fun h : Hp => h.floating) (l := f.hyps); unfold Alp Ajt; rw [cu_]; omega
     refine Ba ?_
     refine Ac (Ac (Aa (O1 (Ae Jw rfl rfl rfl) (O1 (Ad Wf rfl rfl) (O1 (Ae Ce rfl rfl rfl) (Ap rfl rfl rfl rfl (f136 m (k.fr f.label) f.text J0 hk0 (by have := hB.t; omega)) ?_))))))
     refine OA rfl (Ab (Ac (Aa (OM rfl (O1 (Cx (q := 0) Jj rfl rfl) (Ab ?_))))));refine Ah rfl ?_ ?_ <;> intro h5
     ·refine Ac (Aa (OM rfl (OA rfl (Ab ?_))))
      have hE : Es pw k f before = (k.fr f.label).textF f.text := ((if_neg (fun hh => Bool.noConfusion (h1.symm.trans hh))).trans ((if_neg (fun hh => Bool.noConfusion (h2.symm.trans hh))).trans ((if_neg (fun hh => Bool.noConfusion (h3.symm.trans hh))).trans ((if_neg (by rw [hH]; simp)).trans (if_pos h5)))))
      refine Dp fun hw9 => ?_
      refine An ?_
      exact ⟨_,rfl,_,_,ag_ hw9 nl (fun _ _ => rfl),(by rw [hn0]; omega),.same rfl,congrArg iV hE.symm,hup,fun hh => by have h9 : (!decide ((k.fr f.label).textF f.text = 0)) = true := h5; rw [hE.symm.trans hh] at h9; exact absurd h9 (by decide)⟩
     ·refine Ai (Ac (Ac (Aa (O1 (Ae Jw rfl rfl rfl) (O1 (Ae Qf rfl rfl rfl) (Ap rfl rfl rfl rfl (f137 m (k.fr f.label) f J0 hk0 hB.h hb2 hB.w hfl) (OA rfl ?_)))))));refine Ab (Ac (Aa (OM rfl (O1 (Cx (q := 0) Jj rfl rfl) (Ab ?_)))));refine Ah rfl ?_ ?_ <;> intro h6
      ·refine Ac (Aa (OM rfl (OA rfl (Ab ?_))))
       have hE : Es pw k f before = Jk (k.fr f.label) f := ((if_neg (fun hh => Bool.noConfusion (h1.symm.trans hh))).trans ((if_neg (fun hh => Bool.noConfusion (h2.symm.trans hh))).trans ((if_neg (fun hh => Bool.noConfusion (h3.symm.trans hh))).trans ((if_neg (by rw [hH]; simp)).trans ((if_neg (fun hh => Bool.noConfusion (h5.symm.trans hh))).trans (if_pos h6))))))
       refine Dp fun hw9 => ?_
       refine An ?_
       exact ⟨_,rfl,_,_,ag_ hw9 nl (fun _ _ => rfl),(by rw [hn0]; omega),.same rfl,congrArg iV hE.symm,hup,fun hh => by have h9 : (!decide (Jk (k.fr f.label) f = 0)) = true := h6; rw [hE.symm.trans hh] at h9; exact absurd h9 (by decide)⟩
      ·refine Ai (Ac (Ac (Aa (O1 (Ad Aal rfl rfl) (O1 (Ae Ce rfl rfl rfl) (O1 (Aq Ee rfl) (O1 (Ca (q := 0) ok3 rfl rfl) ?_)))))));refine OM rfl ?_;refine Cy 14 _ ?_ rfl rfl rfl rfl rfl (Aw rfl) (fun hg => ?_) (fun hg => ?_) ?_
       rotate_left
       ·refine On hg (Ad Aet rfl rfl) (On hg (Ae ld4 rfl rfl rfl) (On hg (Bb rfl) (On hg (Ag rfl) ?_)))
        refine Cm 4 _ ?_ rfl rfl rfl rfl rfl (Ke rfl rfl rfl rfl (by rw [hg]; rfl)) (fun hg => ?_) (fun hg => ?_) ?_
        rotate_left
        ·refine On hg (Ad Aal rfl rfl) (On hg (Ae Ce rfl rfl rfl) (On hg (Aq Ee rfl) (On hg (Ca (q := 8000) ok3 rfl rfl) (Ab ?_))));refine ⟨rfl,?_,?_⟩
         ·exact sb
         ·exact rfl
        ·refine Of hg (Of hg (Of hg (Of hg (Ab ?_))));exact ⟨rfl,sb⟩
        refine On hg (Ag rfl) ?_
        refine Cm 3 _ ?_ rfl rfl rfl rfl rfl (Ke rfl rfl rfl rfl (by rw [hg]; rfl)) (fun hg => ?_) (fun hg => ?_) ?_
        rotate_left
        ·refine On hg (Ad Aal rfl rfl) (On hg (Ae Ce rfl rfl rfl) (B5 rfl rfl rfl (by rw [hg]; rfl) rfl rfl rfl rfl (f15 (fun s => !pw s) f.proof 138 [] J0 (by have := hB.p; omega) (fun a _ => hpw a J0)) ?_))
         refine Ab ?_;refine ⟨rfl,?_,?_⟩
         ·exact sb
         ·exact rfl
        ·refine Of hg (Of hg (Of hg (Ab ?_)));exact ⟨rfl,sb⟩
        refine Ab ?_;refine ⟨rfl,?_,?_⟩
        ·exact sb
        ·exact rfl
       ·refine Of hg (Of hg (Of hg (Of hg (Ou (Ou (Ou (Ou ?_)))))));refine Of hg (Of hg (Ou (Ou (Ou (Of hg (Ab ?_))))));exact ⟨rfl,sb⟩
       refine Ab ?_;refine Ah rfl ?_ ?_ <;> intro h7
       ·refine Ac (Aa (OA rfl (Ab ?_)))
        have hE : Es pw k f before = 2 := ((if_neg (fun hh => Bool.noConfusion (h1.symm.trans hh))).trans ((if_neg (fun hh => Bool.noConfusion (h2.symm.trans hh))).trans ((if_neg (fun hh => Bool.noConfusion (h3.symm.trans hh))).trans ((if_neg (by rw [hH]; simp)).trans ((if_neg (fun hh => Bool.noConfusion (h5.symm.trans hh))).trans ((if_neg (fun hh => Bool.noConfusion (h6.symm.trans hh))).trans (if_pos h7)))))))
        refine Dp fun hw9 => ?_
        refine An ?_
        exact ⟨_,rfl,_,_,ag_ hw9 nl (fun _ _ => rfl),(by rw [hn0]; omega),.same rfl,congrArg iV hE.symm,hup,fun hh => absurd (hE.symm.trans hh) (by decide)⟩
       ·refine Ai (Ac (Aa (O1 (Ae Qf rfl rfl rfl) (Ap rfl rfl rfl rfl (f110 f J0 hB.h) (OA rfl (Ab (Ac ?_)))))));refine Aa (OM rfl (OM rfl (OM rfl (Ap rfl rfl rfl rfl (f140 before (Ajt f) J0 hbe) (OM rfl (O1 (Aq F3 rfl) (OM rfl ?_)))))));refine O1 (Aq F3 rfl) (E6 (Ash rfl rfl rfl rfl (Aar _ _)) Gd rfl rfl (OA rfl (Ab (Ac (Ac (Aa (OM rfl ?_)))))));refine O1 (Fw rfl rfl) (Ap rfl rfl rfl rfl (f14 (fun h => ((k.fr f.label).hyps.get h.label).isSome) (Alp f before) 141 [.pv [knV m]] J0 hrl (fun a _ => f141 m (k.fr f.label) a J0 hk0)) ?_)
        refine Ab ?_;refine Ah rfl ?_ ?_ <;> intro h8
        ·refine Ac (Aa (OA rfl (Ab ?_)))
         have hE : Es pw k f before = 7 := ((if_neg (fun hh => Bool.noConfusion (h1.symm.trans hh))).trans ((if_neg (fun hh => Bool.noConfusion (h2.symm.trans hh))).trans ((if_neg (fun hh => Bool.noConfusion (h3.symm.trans hh))).trans ((if_neg (by rw [hH]; simp)).trans ((if_neg (fun hh => Bool.noConfusion (h5.symm.trans hh))).trans ((if_neg (fun hh => Bool.noConfusion (h6.symm.trans hh))).trans ((if_neg (fun hh => Bool.noConfusion (h7.symm.trans hh))).trans (if_pos h8))))))))
         refine Dp fun hw9 => ?_
         refine An ?_
         exact ⟨_,rfl,_,_,ag_ hw9 nl (fun _ _ => rfl),(by rw [hn0]; omega),.same rfl,congrArg iV hE.symm,hup,fun hh => absurd (hE.symm.trans hh) (by decide)⟩
        ·refine Ai (Ac (Ac (Aa (O1 (Ad Hf rfl rfl) (O1 (Ae K7 rfl rfl rfl) (O1 (Ad Wg rfl rfl) (O1 (Ae K7 rfl rfl rfl) ?_)))))))
         refine E6 (Bn Alf byW rfl rfl rfl) (Gd (len := 2)) rfl rfl (Ap rfl rfl rfl rfl (f134 [f.hyps,f.dummies] _ (by simp) hB.a) ?_)
         refine O1 (Aq F3 rfl) (OM rfl (Ab (Am ?_)));refine B8 f.all.length (fun i2 => [(3,.pv [knV m]),(9,.pv [.mp (nx J),.mp (nx J + 1)]),(161,slV eH 3 f.all),(162,iV (.ofNat f.all.length)),(163,iV (.ofNat i2))]) (fun i2 J2 => nx J2 = nx J + 2 /\ (∀ b,b < nx J -> b ≠ m + 2 -> b ≠ m + 3 -> J2.get b = J.get b) /\ Gs J2 m ((k.fr f.label).hyps' (f.all.take i2)) /\ Bx sV J2 (nx J + 1) ty) SL ⟨hn0,fun b h9 h10 _ => hg0 b h9 h10,hk0,ht0⟩ ?_
         rintro i2 J2 hi2 ⟨hn2,hg2,hk2,ht2⟩;refine Ac (Aa (O1 (A8 ok3 rfl rfl) (Ab (Ac ?_))));refine Ah rfl ?_ ?_ <;> intro h9
         ·have br : i2 < f.all.length := by simpa using h9
          obtain ⟨a2,ha2⟩ := Bt br;have hd2 := Bh ha2;obtain ⟨vh,hvh⟩ := id hk2.h;refine Ai (Ac (Am (Ac (Aa (O1 (Ax Ih (fun _ => rfl) rfl rfl ha2) ?_)))))
          refine O1 (Ae D2 rfl rfl rfl) (Bz Sm D2 rfl (fun _ => rfl) rfl rfl rfl rfl ?_)
          refine Ab ?_;refine Ig 1 (anns := [aR 0 1,aP 0 1,aP 0 1,aR 0 1,aP 0 1,aR 0 1,aR 0 0,aE 0 1,aE 1 2]) A1 (As (l := [(113,[.agg (eH a2)],J2,.agg (eH a2),J2)]) ⟨f113 a2 J2 (hB.x a2 (af_ ha2)),trivial⟩) Kr Kr ?_;refine DF (Ae Jw rfl rfl rfl) (DF (Bp rfl) (DF (Ad Uk rfl rfl) (DF (Ae Agv rfl rfl rfl) (DF (Ad Fu rfl rfl) (DF (Ae ld9 rfl rfl rfl) (DF (Ae D2 rfl rfl rfl) (DT (Bl rfl rfl Bm) ?_)))))))
          refine DT (E8 (v := a2) st9 Qi rfl hvh rfl rfl (fun te k1 k2 => by first | exact Fq k1 k2 | exact Fs k1 k2 | exact Ge k1 k2 | exact Gf k1 k2 | exact Ft k1 k2 rfl)) ?_
          refine Bi ?_
          refine ⟨(by intro e he; simp at he; subst he; exact .refl),?_⟩
          refine Aa (O1 (Ay (q := 1) ok3 rfl rfl Om) ?_);refine OM rfl (Ab ?_)
          refine ⟨br,SL,by rw [Ak]; exact hn2,fun b h11 h12 h13 => by rw [a_,if_neg Om]; exact hg2 b h11 h12 h13,by rw [Ci ha2,Aju]; exact hk2.hp,ht2.set Om⟩
         ·have b8 : f.all.length <= i2 := by simpa using h9
          rw [at_ b8] at hk2;obtain ⟨vt,hvt⟩ := id hk2.t;refine Ba ?_;refine Ac ?_;refine Cc (anns := [aR 0 0,aP 0 0,aP 0 0,aR 0 0,aP 0 0,aR 0 0,aE 0 1]) A1 (As (l := [(142,[.mp (m + 4),.mp (nx J + 1)],J2,A5,(J2.set (m + 4) (.map 9 (Cp sV (SM.over ty k.types)) (vt + ty.length))))]) ⟨f142 (m + 4) (nx J + 1) vt k.types ty J2 hvt ht2 Om hsr hs0,trivial⟩) Kr Kr ?_;refine DF (Ae Jw rfl rfl rfl) (DF (Bp rfl) (DF (Ad Ald rfl rfl) (DF (Ae Agw rfl rfl rfl) (DF (Ad Aew rfl rfl) (DF (Ae Agw rfl rfl rfl) (DT (Bl rfl rfl Bm) (Bi ?_)))))));refine Ac (Aa (OA rfl (Ab ?_)))
          have hE : Es pw k f before = 0 := ((if_neg (fun hh => Bool.noConfusion (h1.symm.trans hh))).trans ((if_neg (fun hh => Bool.noConfusion (h2.symm.trans hh))).trans ((if_neg (fun hh => Bool.noConfusion (h3.symm.trans hh))).trans ((if_neg (by rw [hH]; simp)).trans ((if_neg (fun hh => Bool.noConfusion (h5.symm.trans hh))).trans ((if_neg (fun hh => Bool.noConfusion (h6.symm.trans hh))).trans ((if_neg (fun hh => Bool.noConfusion (h7.symm.trans hh))).trans (if_neg (fun hh => Bool.noConfusion (h8.symm.trans hh))))))))))
          refine Dp fun hw9 => ?_
          refine An ?_
          exact ⟨_,rfl,_,_,ag_ hw9 nl (fun _ _ => rfl),(by rw [Ak,hn2]; omega),.same rfl,congrArg iV hE.symm,⟨by rw [Ak,hn2]; omega,fun b h10 h11 => by rw [a_,if_neg Om]; exact hg2 b h10 Om Om⟩,fun _ => ⟨by unfold knF; rw [hH]; exact hk2.ty,by unfold knF; exact SM.Srt.over hsr⟩⟩
def kn0 : Kn := ⟨[],[],[],[],[]⟩
def Hi (pw : Str -> Bool) : List Fr -> Kn -> List Hp -> Int
 | [],_,_ => 0
 | f :: r,k,before => if (!decide (Es pw k f before = 0)) = true then Es pw k f before else Hi pw r (knF k f) (Ajt f)
def Et (pw : Str -> Bool) (d : Db) : Int :=
 if ((decide ((400 : Int) < Int.ofNat d.frames.length) || decide ((8000 : Int) < Int.ofNat d.consts.length)) || decide ((8000 : Int) < Int.ofNat d.vars.length)) = true then 8
 else if (!decide ((Jr d kn0).1 = 0)) = true then (Jr d kn0).1 else Hi pw d.frames (Jr d kn0).2 []
structure DbB (d : Db) : Prop where
 f : ∀ f ∈ d.frames,FrB f
 c : d.consts.length < 1000000
 v : d.vars.length < 1000000
 n : d.frames.length < 1000000
theorem So : ∀ (l : List Str) (k : Kn),(Nn l k).2.types = k.types
 | [],_ => rfl
 | c :: r,k => by unfold Nn; cases O5 c <;> cases k.consts.has c <;> simp [So r]
theorem Aat : ∀ (l : List Str) (k : Kn),(Qj l k).2.types = k.types
 | [],_ => rfl
 | c :: r,k => by unfold Qj; cases O5 c <;> cases k.isSym c <;> simp [Aat r]
theorem Ajv (d : Db) (k : Kn) : (Jr d k).2.types = k.types := by
 unfold Jr; split
 ·rw [Aat,So]
 ·rw [So]
theorem f90 (pw : Str -> Bool) (hpw : ∀ s J,Cv 138 [sV s] J (.bool (!pw s))) (d : Db) (J : Sto) (hB : DbB d) : Cv 90 [dbV d] J (iV (Et pw d)) := by
 refine Az Tryz.func90 rfl rfl fun hw hu0 => ?_
 refine Ac (Aa (Ar Hy rfl rfl rfl (OA rfl (Ab (Ac (Ac (Aa ?_)))))));refine O1 (Ad Sj rfl rfl) (O1 (Ae Ajh rfl rfl rfl) (O1 (Aq Aji rfl) (O1 (Ca (q := 400) ok3 rfl rfl) (OM rfl ?_))));refine Cm 4 _ ?_ rfl rfl rfl rfl rfl (Aw rfl) (fun hg => ?_) (fun hg => ?_) ?_
 rotate_left
 ·refine On hg (Ad Ajj rfl rfl) (On hg (Ae Ce rfl rfl rfl) (On hg (Aq Ee rfl) (On hg (Ca (q := 8000) ok3 rfl rfl) (Ab ?_))));refine ⟨rfl,?_,?_⟩
  ·exact sb
  ·exact rfl
 ·refine Of hg (Of hg (Of hg (Of hg (Ab ?_))));exact ⟨rfl,sb⟩
 refine OM rfl ?_;refine Cm 4 _ ?_ rfl rfl rfl rfl rfl (Aw rfl) (fun hg => ?_) (fun hg => ?_) ?_
 rotate_left
 ·refine On hg (Ad Qe rfl rfl) (On hg (Ae Ce rfl rfl rfl) (On hg (Aq Ee rfl) (On hg (Ca (q := 8000) ok3 rfl rfl) (Ab ?_))));refine ⟨rfl,?_,?_⟩
  ·exact sb
  ·exact rfl
 ·refine Of hg (Of hg (Of hg (Of hg (Ab ?_))));exact ⟨rfl,sb⟩
 refine Ab ?_;refine Ah rfl ?_ ?_ <;> intro h1
 ·refine Ac (Aa (OA rfl (Ab ?_)));have hE : Et pw d = 8 := (if_pos h1);refine An ?_;exact ⟨_,rfl,_,J,ap_ hw eo_,nl,.same rfl,congrArg iV hE.symm,rfl⟩
 ·refine Ai ?_;have hbn := hB.n
  have hg5 : ∀ b,b < nx J -> (((((J.new (.map 9 [] 0)).new (.map 9 [] 0)).new (.map 9 [] 0)).new (.map 9 [] 0)).new (.map 9 [] 0)).get b = J.get b := fun b hb => by
   rw [ab_,if_neg (by simp only [Aj]; omega),ab_,if_neg (by simp only [Aj]; omega),ab_,if_neg (by simp only [Aj]; omega),ab_,if_neg (by simp only [Aj]; omega),ab_,if_neg Om]
  have nv : Gs (((((J.new (.map 9 [] 0)).new (.map 9 [] 0)).new (.map 9 [] 0)).new (.map 9 [] 0)).new (.map 9 [] 0)) (nx J) kn0 := by
   refine ⟨⟨0,?_⟩,⟨0,?_⟩,⟨0,?_⟩,⟨0,?_⟩,⟨0,?_⟩⟩ <;> simp only [ab_,Aj] <;> simp <;> rfl
  refine Ac (Aa (O1 (C6 (n := nx J) Cz rfl) (O1 (C6 (n := nx J + 1) Cz (nx1 rfl)) (O1 (C6 (n := nx J + 2) Cz (nx1 (nx1 rfl))) (O1 (C6 (n := nx J + 3) Qi (nx1 (nx1 (nx1 rfl)))) (O1 (C6 (n := nx J + 4) Acq (nx1 (nx1 (nx1 (nx1 rfl))))) (O1 (B1 bd235 rfl rfl) ?_)))))));refine Ar ld235 rfl rfl rfl (OA rfl (Ab (Ac (Ac (Aa (OM rfl (O1 (Ae Hy rfl rfl rfl) ?_)))))))
  refine B4 rfl rfl rfl rfl (f108 (nx J) kn0 d (((((J.new (.map 9 [] 0)).new (.map 9 [] 0)).new (.map 9 [] 0)).new (.map 9 [] 0)).new (.map 9 [] 0)) nv (by have := hB.c; omega) (by have := hB.v; omega)) fun v τ ⟨hv,gh,hk1⟩ => ?_
  subst hv;refine OA rfl (Ab (Ac (Aa (OM rfl (O1 (Cx (q := 0) Jj rfl rfl) (Ab ?_))))));refine Ah rfl ?_ ?_ <;> intro h2
  ·refine Ac (Aa (OM rfl (OA rfl (Ab ?_))));have hE : Et pw d = (Jr d kn0).1 := ((if_neg (fun hh => Bool.noConfusion (h1.symm.trans hh))).trans (if_pos h2))
   refine An ?_
   exact ⟨_,rfl,_,J,ap_ hw ⟨by rw [gh.1]; simp only [Aj]; omega,fun b hb => (gh.2 b (.inl hb)).trans (hg5 b hb)⟩,nl,.same rfl,congrArg iV hE.symm,rfl⟩
  ·refine Ai (Ac (Aa (E6 (Bk rfl) (Z2 (sz := 3)) rfl rfl (Ab (Ac (Ac (Aa ?_)))))));refine O1 (Ad Sj rfl rfl) (O1 (Ae Ajh rfl rfl rfl) (O1 (Aq Aji rfl) (OM rfl (Ab ?_))))
   have hn1 : nx J + 5 <= nx τ := by rw [gh.1]; simp only [Aj]; omega
   have hg1 : ∀ b,b < nx J -> τ.get b = J.get b := fun b hb => (gh.2 b (.inl hb)).trans (hg5 b hb)
   have hs1 : SM.Srt (Jr d kn0).2.types := by rw [Ajv]; exact .nil
   refine Am ?_
   refine Fi (fun q : Nat × AV => [(3,knV (nx J)),(5,q.2),(39,slV eF 8 d.frames),(40,iV (.ofNat d.frames.length)),(41,iV (.ofNat q.1))]) (fun q J0 => q.1 <= d.frames.length /\ ∃ k be,q.2 = slV eH 3 be /\ be.length < 1000000 /\ nx J + 5 <= nx J0 /\ (∀ b,b < nx J -> J0.get b = J.get b) /\ Gs J0 (nx J) k /\ SM.Srt k.types /\ Hi pw d.frames (Jr d kn0).2 [] = Hi pw (d.frames.drop q.1) k be) (fun q => d.frames.length - q.1) (0,slV eH 3 []) SL ⟨ch_ _,(Jr d kn0).2,[],rfl,by simp,hn1,hg1,hk1,hs1,rfl⟩ ?_
   rintro ⟨i0,v0⟩ J0 hP0;obtain ⟨hi0,k,be,hbe,hbl,hn0,hg0,hk0,hs0,hf0⟩ : i0 <= d.frames.length /\ ∃ k be,v0 = slV eH 3 be /\ be.length < 1000000 /\ nx J + 5 <= nx J0 /\ (∀ b,b < nx J -> J0.get b = J.get b) /\ Gs J0 (nx J) k /\ SM.Srt k.types /\ Hi pw d.frames (Jr d kn0).2 [] = Hi pw (d.frames.drop i0) k be := hP0;refine Ac (Aa (O1 (A8 ok3 rfl rfl) (Ab (Ac ?_))));refine Ah rfl ?_ ?_ <;> intro h3
   ·have bf : i0 < d.frames.length := by simpa using h3
    obtain ⟨a0,ha0⟩ := Bt bf;have hd0 := Bh ha0;subst hbe;refine Ai (Ac (Am (Ac (Aa (O1 (Ax el23 (fun _ => rfl) rfl rfl ha0) ?_)))))
    refine O1 (Ae Qf rfl rfl rfl) (Bz zi59 Qf rfl (fun _ => rfl) rfl rfl rfl rfl ?_)
    refine Ab (Ac (Ac (Aa (OM rfl (O1 (Ae Qf rfl rfl rfl) (OM rfl (B4 rfl rfl rfl rfl (f109 pw hpw (nx J) k a0 be J0 hk0 hs0 (hB.f a0 (af_ ha0)) hbl) fun v2 τ2 ⟨hv2,hup,hkn⟩ => ?_)))))))
    subst hv2;refine OA rfl (Ab (Ac (Aa (OM rfl (O1 (Cx (q := 0) Jj rfl rfl) (Ab ?_))))));refine Ah rfl ?_ ?_ <;> intro h4
    ·refine Ac (Aa (OM rfl (OA rfl (Ab ?_))))
     have hE : Et pw d = Es pw k a0 be := ((if_neg (fun hh => Bool.noConfusion (h1.symm.trans hh))).trans ((if_neg (fun hh => Bool.noConfusion (h2.symm.trans hh))).trans (by rw [hf0,hd0,Hi]; exact if_pos h4)))
     refine An ?_
     exact ⟨_,rfl,_,J,ap_ hw ⟨by have := hup.1; omega,fun b hb => (hup.2 b Om (.inl hb)).trans (hg0 b hb)⟩,nl,.same rfl,congrArg iV hE.symm,rfl⟩
    ·refine Ai (Aa (O1 (Ae Qf rfl rfl rfl) (Ap rfl rfl rfl rfl (f110 a0 _ (hB.f a0 (af_ ha0)).h) (OA rfl (Ab (Aa (O1 (Ay (q := 1) ok3 rfl rfl Om) ?_)))))));refine OM rfl (Ab ?_)
     refine ⟨(i0 + 1,slV eH 3 (Ajt a0)),by show d.frames.length - (i0 + 1) < d.frames.length - i0; omega,SL,bf,knF k a0,Ajt a0,rfl,fs_ Fy (hB.f a0 (af_ ha0)).h,ax_ hn0 hup.1,fun b hb => (hup.2 b Om (.inl hb)).trans (hg0 b hb),(hkn (Ap0 h4)).1,(hkn (Ap0 h4)).2,by rw [hf0,hd0,Hi,if_neg (fun hh => Bool.noConfusion (h4.symm.trans hh))]⟩
   ·have bq : d.frames.length <= i0 := by simpa using h3
    have hH : Hi pw d.frames (Jr d kn0).2 [] = 0 := by rw [hf0,ah_ bq]; rfl
    refine Ba ?_;refine Ac (Aa (OA rfl (Ab ?_)));have hE : Et pw d = 0 := ((if_neg (fun hh => Bool.noConfusion (h1.symm.trans hh))).trans ((if_neg (fun hh => Bool.noConfusion (h2.symm.trans hh))).trans (hH)))
    refine An ?_
    exact ⟨_,rfl,_,J,ap_ hw ⟨by omega,hg0⟩,nl,.same rfl,congrArg iV hE.symm,rfl⟩
end Go.AM
namespace Go.AM
open Go Go.Proofs
def txv (h : Hp) : Str := h.text.tail.headD []
def Ane (s : SM Bool) (l : List Hp) : SM Bool := l.foldl (fun m b => m.put (txv b) true) s
abbrev Ord := SM Hp × SM (SM Bool)
def O6 (i : Nat) (h : Hp) (s : Ord) : Ord := if i = 0 then (s.1.put (txv h) h,s.2.put (txv h) []) else s
def Ag3 (i : Nat) (pre : List Hp) (h : Hp) (s : Ord) : Option Ord :=
 match (O6 i h s).2.get (txv h) with
 | none => none
 | some a => if Aln ((O6 i h s).1.get (txv h)) h = true then some ((O6 i h s).1,(O6 i h s).2.put (txv h) (Ane a pre)) else none
def X2 (i : Nat) (all : List Hp) : List Hp -> Nat -> Ord -> Option Ord
 | [],_,s => some s
 | h :: r,n,s => match Ag3 i (all.take n) h s with
  | none => none
  | some s' => X2 i all r (n + 1) s'
def Oy (i : Nat) : List (List Hp) -> Ord -> Option Ord
 | [],s => some s
 | l :: r,s => match X2 i l l 0 s with
  | none => none
  | some s' => Oy i r s'
def flo (l : List Hp) : List Hp := Dy Un l
def Ap1 (d : Db) (f : Fr) : Bool := !decide (Int.ofNat ((flo f.hyps).length + (flo f.dummies).length) = Int.ofNat d.vars.length) || (f.hyps.drop (flo f.hyps).length).any (fun h => h.floating)
def Nr (d : Db) : List Fr -> Nat -> Ord -> Option Ord
 | [],_,s => some s
 | f :: r,i,s => if Ap1 d f = true then none else match Oy i [flo f.hyps,flo f.dummies] s with
  | none => none
  | some s' => Nr d r (i + 1) s'
def rdy (a : SM (SM Bool)) (done : SM Bool) (v : Str) : Bool := !done.has v && ((a.get v).getD []).all (fun p => done.has p.1)
def Wh (vars : List Str) (s : Ord) : Nat -> SM Bool -> List Hp -> Option (List Hp)
 | 0,_,out => some out
 | n + 1,done,out => match vars.find? (rdy s.2 done) with
  | none => none
  | some v => match s.1.get v with
   | none => none
   | some h => Wh vars s n (done.put v true) (out ++ [h])
def Eu (d : Db) : Option (List Hp) :=
 if d.frames.length = 0 then (if d.vars.length = 0 then some [] else none)
 else match Nr d d.frames 0 ([],[]) with
  | none => none
  | some s => Wh d.vars s d.vars.length [] []
structure Ae1 (J : Sto) (N r : Nat) (A : SM (SM Bool)) (refs : SM Nat) : Prop where
 m : Bx (fun q => AV.mp q) J r refs
 s : ∀ v,(refs.get v).isSome = (A.get v).isSome
 a : ∀ v q s,refs.get v = some q -> A.get v = some s -> E7 J q s
 n : ∀ v q,refs.get v = some q -> N <= q
 i : ∀ v v' q,refs.get v = some q -> refs.get v' = some q -> v = v'
theorem Ae1.new {J J' : Sto} {N r q ver : Nat} {A : SM (SM Bool)} {refs : SM Nat} {v : Str} (h : Ae1 J N r A refs) (hw : WFS J) (hr : r < N) (hN : N <= nx J) (hq : q = nx J) (hm : J'.get r = some (.map 9 (Cp (fun q => AV.mp q) (refs.put v q)) ver)) (hs : E7 J' q [])
  (hg : ∀ b,N <= b -> b < nx J -> J'.get b = J.get b) : Ae1 J' N r (A.put v []) (refs.put v q) := by
 refine ⟨⟨ver,hm⟩,fun u => ?_,fun u p s k1 k2 => ?_,fun u p k1 => ?_,fun u u' p k1 k2 => ?_⟩
 ·rw [bz_,bz_]; split <;> first | rfl | exact h.s u
 ·rw [bz_] at k1 k2
  split at k1
  ·rename_i e; rw [if_pos e] at k2; cases k1; cases k2; exact hs
  ·rename_i e; rw [if_neg e] at k2
   exact (h.a u p s k1 k2).of_get (hg p (h.n u p k1) ((h.a u p s k1 k2).lt hw))
 ·rw [bz_] at k1
  split at k1
  ·cases k1; omega
  ·exact h.n u p k1
 ·have lt : ∀ w p,refs.get w = some p -> p < nx J := fun w p hh => by
   have := h.s w; rw [hh] at this;obtain ⟨s,hs⟩ := bp_.1 this.symm;exact (h.a w p s hh hs).lt hw
  rw [bz_] at k1 k2
  split at k1 <;> split at k2
  ·rename_i e1 e2; rw [e1,e2]
  ·cases k1; have := lt _ _ k2; omega
  ·cases k2; have := lt _ _ k1; omega
  ·exact h.i u u' p k1 k2
theorem Ae1.upd {J J' : Sto} {N r q : Nat} {A : SM (SM Bool)} {refs : SM Nat} {v : Str} {s : SM Bool} (h : Ae1 J N r A refs) (hq : refs.get v = some q) (hr : J'.get r = J.get r) (hs : E7 J' q s)
  (hg : ∀ b,N <= b -> b ≠ q -> J'.get b = J.get b) : Ae1 J' N r (A.put v s) refs := by
 refine ⟨h.m.of_get hr,fun u => ?_,fun u p t k1 k2 => ?_,h.n,h.i⟩
 ·rw [bz_]
  split
  ·rename_i e; subst e; rw [hq]; rfl
  ·exact h.s u
 ·rw [bz_] at k2
  split at k2
  ·rename_i e; subst e; rw [hq] at k1; cases k1; cases k2; exact hs
  ·rename_i e
   refine (h.a u p t k1 k2).of_get (hg p (h.n u p k1) fun hh => e ?_)
   subst hh; exact h.i u v p k1 hq
end Go.AM
namespace Go.AM
open Go Go.Proofs
structure Oz (J τ : Sto) (s : Ord) : Prop where
 n : nx J + 2 <= nx τ
 g : ∀ b,b < nx J -> τ.get b = J.get b
 o : Bx hV τ (nx J) s.1
 a : ∃ refs,Ae1 τ (nx J + 2) (nx J + 1) s.2 refs
 k : ∀ v,(s.1.get v).isSome = (s.2.get v).isSome
theorem Anf {s : SM Bool} {l : List Hp} {b : Hp} : Ane s (l ++ [b]) = (Ane s l).put (txv b) true := by unfold Ane; rw [g_]; rfl
theorem Yg {h : Hp} {a b : Str} (e : h.text = [a,b]) : txv h = b := by unfold txv; rw [e]; rfl
theorem Aul {i : Nat} {h : Hp} {s : Ord} (hk : ∀ v,(s.1.get v).isSome = (s.2.get v).isSome) : ∀ v,((O6 i h s).1.get v).isSome = ((O6 i h s).2.get v).isSome := fun v => by
 unfold O6
 split
 ·simp only [bz_]; split <;> first | rfl | exact hk v
 ·exact hk v
theorem Oz.first {J τ τ' : Sto} {s : Ord} {h : Hp} {ver ver2 : Nat} {refs : SM Nat} (hO : Oz J τ s) (hA : Ae1 τ (nx J + 2) (nx J + 1) s.2 refs) (hw : WFS τ) (hn : nx τ <= nx τ') (ho : τ'.get (nx J) = some (.map 9 (Cp hV (s.1.put (txv h) h)) ver))
  (hr : τ'.get (nx J + 1) = some (.map 9 (Cp (fun q => AV.mp q) (refs.put (txv h) (nx τ))) ver2)) (hs : E7 τ' (nx τ) []) (hg : ∀ b,b < nx τ -> b ≠ nx J -> b ≠ nx J + 1 -> τ'.get b = τ.get b) : Oz J τ' (O6 0 h s) := by
 have hN := hO.n
 refine ⟨by omega,fun b hb => (hg b Om Om Om).trans (hO.g b hb),⟨ver,ho⟩,⟨_,hA.new hw Om hN rfl hr hs fun b h1 h2 => hg b h2 Om Om⟩,Aul hO.k⟩
theorem Oz.turn {J τ τ' : Sto} {s : Ord} {a : SM Bool} {v : Str} {q : Nat} {refs : SM Nat} (hO : Oz J τ s) (hA : Ae1 τ (nx J + 2) (nx J + 1) s.2 refs) (hq : refs.get v = some q) (hn : nx τ <= nx τ') (hs : E7 τ' q a) (hg : ∀ b,b ≠ q -> τ'.get b = τ.get b) : Oz J τ' (s.1,s.2.put v a) := by
 have hN := hO.n;have hqn := hA.n v q hq
 refine ⟨by omega,fun b hb => (hg b Om).trans (hO.g b hb),hO.o.of_get (hg _ Om),⟨refs,hA.upd hq (hg _ Om) hs fun b _ h2 => hg b h2⟩,fun u => ?_⟩
 show (s.1.get u).isSome = _
 rw [bz_,hO.k u]
 split
 ·rename_i e; subst e
  have := hA.s u; rw [hq] at this; rw [← this]; rfl
 ·rfl
section
open Go Go.Proofs Go.RowKit
def Fo : ByteArray := ⟨#[45,95,46,63]⟩
theorem Asi (p : Nat) (h : p < Fo.size) : (Utf8.decode Fo p).2 = 1 /\ ((Utf8.decode Fo p).1 : Int) ≠ 65533 := by
 have h4 : p < 4 := h
 match p,h4 with
 | 0,_ => decide
 | 1,_ => decide
 | 2,_ => decide
 | 3,_ => decide
set_option maxRecDepth 1000000 in
theorem Ap2 (w : World) : Calls Tryz.prog 209 #[.string Fo,.int .i32 65533] w fun e w' => e = .returned (.int .i64 (-1)) /\ Go.RowKit.Below w.heap.size w w' := by
 go_enter Tryz.func209,Tryz.ntmps209
 go_wp2
 go_loopg [] 4 (fun gf wx => ∃ pos : Nat,wx.heap[w.heap.size]? = some (.stringIter Fo pos) /\ Go.RowKit.Below w.heap.size w wx /\ Fo.size <= pos + gf)
 case atStart => exact ⟨0,World.iter_heap w Fo 0,(Go.RowKit.Below.refl _ w).alloc nl _,nl⟩
 case round =>
  obtain ⟨pos,hit,hbw,hfu⟩ := hrel
  by_cases hps : pos < Fo.size
  ·obtain ⟨g',rfl⟩ : ∃ g',gk = g' + 1 := ⟨gk - 1,by omega⟩
   have hnx : ∀ ty,(Instr.next (.pointer (some ⟨w.heap.size,0,none⟩)) true ty).run Tryz.prog wr = _ := fun ty => Lib.run_next_any_at wr w.heap.size Fo pos ty hit hps
   obtain ⟨hd1,hd2⟩ := Asi pos hps;obtain ⟨R,hR⟩ : ∃ R,(Utf8.decode Fo pos).1 = R := ⟨_,rfl⟩;rw [hR] at hd2;rw [hR,hd1] at hnx;have kn := Lib.iterAt_heap wr w.heap.size Fo pos (pos + 1) hit;have kr := Lib.below_iterAt hbw (k := w.heap.size) nl Fo (pos + 1);obtain ⟨W,hWd⟩ : ∃ W,wr.iterAt w.heap.size Fo (pos + 1) = W := ⟨_,rfl⟩;rw [hWd] at hnx kn kr
   go_wp2
   go_roundg g'
   case measure => omega
   case rel => exact ⟨pos + 1,kn,kr,by omega⟩
  ·have hnx : ∀ ty,(Instr.next (.pointer (some ⟨w.heap.size,0,none⟩)) true ty).run Tryz.prog wr = _ := fun ty => Lib.run_next_end_at wr w.heap.size Fo pos ty hit hps
   go_wp2
   go_ret
   exact ⟨rfl,hbw⟩
set_option maxRecDepth 1000000 in
theorem Ap3 (x : Int) (h0 : 128 <= x) (h1 : Lib.validRune x = false) (h2 : x ≠ 65533) (w : World) : Calls Tryz.prog 209 #[.string Fo,.int .i32 x] w fun e w' => e = .returned (.int .i64 (-1)) /\ w' = w := by
 have hd0 : decide ((0 : Int) <= x) = true := by simp; omega
 have hd1 : decide (x < (128 : Int)) = false := by simp; omega
 have e295 : ∀ args w,(callFunc 212 args).run Tryz.prog w = .ok (.enter 212 args) w := enters_of Tryz.func212 Kr rfl
 go_enter Tryz.func209,Tryz.ntmps209
 go_wp2_with (go_at_fn 212; refine (Tryz.utf8_ValidRune _ _).mono ?_; rintro e w' ⟨rfl,hw⟩; rw [hw,h1])
 go_ret
 exact ⟨rfl,rfl⟩
theorem Ang (x : Int) (h : 128 <= x) : (∃ a b : UInt8,Utf8.encode x = ⟨#[a,b]⟩ /\ 128 <= b.toNat) ∨ (∃ a b d : UInt8,Utf8.encode x = ⟨#[a,b,d]⟩ /\ 128 <= d.toNat) ∨ ∃ a b d e : UInt8,Utf8.encode x = ⟨#[a,b,d,e]⟩ /\ 128 <= e.toNat := by
 have hb : ∀ n : Nat,128 <= (UInt8.ofNat (0x80 + n % 64)).toNat := fun n => by
  rw [UInt8.toNat_ofNat']; omega
 unfold Utf8.encode;obtain ⟨c,hc⟩ : ∃ c,(if Utf8.valid x = true then x.toNat else Utf8.runeError) = c := ⟨_,rfl⟩
 have h128 : 128 <= c := by
  rw [← hc]; split
  ·omega
  ·decide
 simp only [hc];rw [if_neg Om]
 split
 ·exact .inl ⟨_,_,rfl,hb _⟩
 ·split
  ·exact .inr (.inl ⟨_,_,_,rfl,hb _⟩)
  ·exact .inr (.inr ⟨_,_,_,_,rfl,hb _⟩)
theorem Ajw (s : ByteArray) (c : Int) (w : World) : Calls Tryz.prog 211 #[.string s,.int .u8 c] w fun e w' => e = .returned (.int .i64 (Lib.indexByte s.data.toList c.toNat.toUInt8)) /\ w' = w := Any.strings_IndexByte { Tryz.lays151 with } s c w
theorem Alr {b : UInt8} (hb : 128 <= b.toNat) : ∀ {l : List UInt8},(∀ c ∈ l,c.toNat < 128) -> Lib.indexByte l b = -1
 | [],_ => rfl
 | c :: l,h => by
  have h1 : (c == b) = false := by
   cases hh : c == b with
   | false => rfl
   | true => have := eq_of_beq hh; subst this; have := h c (bi_ ..); omega
  have h2 := Alr hb (l := l) fun x hx => h x (ak_ _ hx)
  simp [Lib.indexByte,h1,h2]
set_option maxRecDepth 1000000 in
theorem Anh (x : Int) (a b : UInt8) (he : Utf8.encode x = ⟨#[a,b]⟩) (hb : 128 <= b.toNat) (h0 : 128 <= x) (h1 : Lib.validRune x = true) (h2 : x ≠ 65533) (w : World) : Calls Tryz.prog 209 #[.string Fo,.int .i32 x] w fun e w' => e = .returned (.int .i64 (-1)) /\ Go.RowKit.Below w.heap.size w w' := by
 have hd0 : decide ((0 : Int) <= x) = true := by simp; omega
 have hd1 : decide (x < (128 : Int)) = false := by simp; omega
 have hd2 : decide ((95 : Int) = b.toNat) = false := by simp; omega
 have e295 : ∀ args w,(callFunc 212 args).run Tryz.prog w = .ok (.enter 212 args) w := enters_of Tryz.func212 Kr rfl;have e294 : ∀ args w,(callFunc 211 args).run Tryz.prog w = .ok (.enter 211 args) w := enters_of Tryz.func211 Kr rfl;have mixed : Tryz.prog.follows .mixedOrders = true := Kr;have hsz : Fo.size = 4 := rfl
 have hne : (((Fo[1]'(by decide)).toNat : Int) != (((⟨#[a,b]⟩ : ByteArray)[1]'(by show 1 < 2; omega)).toNat : Int)) = true := by
  show (((95 : Nat) : Int) != ((b.toNat : Nat) : Int)) = true
  simp; omega
 have hix : Lib.indexByte (Fo.extract 2 4).data.toList ((((⟨#[a,b]⟩ : ByteArray)[1]'(by show 1 < 2; omega)).toNat : Int)).toNat.toUInt8 = -1 := by
  show Lib.indexByte [46,63] (b.toNat : Int).toNat.toUInt8 = -1
  rw [eb_,show b.toNat.toUInt8 = b from UInt8.ofNat_toNat]
  exact Alr hb (by decide)
 have hI : ∀ w,Calls Tryz.prog 211 #[.string (Fo.extract 2 4),.int .u8 (((⟨#[a,b]⟩ : ByteArray)[1]'(by show 1 < 2; omega)).toNat : Int)] w fun e w' => e = .returned (.int .i64 (-1)) /\ w' = w := fun w => by
  have := Ajw (Fo.extract 2 4) (((⟨#[a,b]⟩ : ByteArray)[1]'(by show 1 < 2; omega)).toNat : Int) w
  rwa [hix] at this
 clear hix
 have hwr : IntKind.i64.wrap 2 = 2 := by decide
 have kc : ∀ (w : World),(convert 21 9 (.int .i32 x)).run Tryz.prog w = .ok (.string ⟨#[a,b]⟩) w := fun w => by rw [← he]; exact run_convert_int_string (P := Tryz.prog) w 21 9 .i32 x (by rw [Tryz.underlying21]; rfl) Tryz.underlying9
 go_enter Tryz.func209,Tryz.ntmps209
 go_wp2_with (first | (go_at_fn 212; refine (Tryz.utf8_ValidRune _ _).mono ?_; rintro e w' ⟨rfl,hw⟩; rw [hw,h1]) | (go_at_fn 211; refine (Any.strings_IndexByte { Tryz.lays151 with } _ _ _).mono ?_; rintro e w' ⟨rfl,hw⟩; rw [hw]))
 refine wp_scope_straight ?_
 go_wp2
 go_loopg [9] 1 (fun gf s9 wx => s9 = .int .i64 1 /\ wx = w)
 case atStart => exact ⟨rfl,rfl⟩
 case round =>
  obtain ⟨rfl,rfl⟩ := hrel
  go_wp2
  refine wp_scope_straight ?_
  go_wp2
  go_quiet (fail)
  go_wp2
  go_quiet ((refine (hI _).mono fun e w'' h => ⟨h.1,_,h.2⟩))
  go_wp2
  simp only [Exit.noGoto,Exit.inBlock,Exit.then]
  go_ret
  exact ⟨rfl,below_drewNg _ _⟩
set_option maxRecDepth 1000000 in
theorem Ani (x : Int) (a b d : UInt8) (he : Utf8.encode x = ⟨#[a,b,d]⟩) (hb : 128 <= d.toNat) (h0 : 128 <= x) (h1 : Lib.validRune x = true) (h2 : x ≠ 65533) (w : World) : Calls Tryz.prog 209 #[.string Fo,.int .i32 x] w fun e w' => e = .returned (.int .i64 (-1)) /\ Go.RowKit.Below w.heap.size w w' := by
 have hd0 : decide ((0 : Int) <= x) = true := by simp; omega
 have hd1 : decide (x < (128 : Int)) = false := by simp; omega
 have hd2 : decide ((46 : Int) = d.toNat) = false := by simp; omega
 have e295 : ∀ args w,(callFunc 212 args).run Tryz.prog w = .ok (.enter 212 args) w := enters_of Tryz.func212 Kr rfl;have e294 : ∀ args w,(callFunc 211 args).run Tryz.prog w = .ok (.enter 211 args) w := enters_of Tryz.func211 Kr rfl;have mixed : Tryz.prog.follows .mixedOrders = true := Kr;have hsz : Fo.size = 4 := rfl
 have hne : (((Fo[2]'(by decide)).toNat : Int) != (((⟨#[a,b,d]⟩ : ByteArray)[2]'(by show 2 < 3; omega)).toNat : Int)) = true := by
  show (((46 : Nat) : Int) != ((d.toNat : Nat) : Int)) = true
  simp; omega
 have hix : Lib.indexByte (Fo.extract 3 4).data.toList ((((⟨#[a,b,d]⟩ : ByteArray)[2]'(by show 2 < 3; omega)).toNat : Int)).toNat.toUInt8 = -1 := by
  show Lib.indexByte [63] (d.toNat : Int).toNat.toUInt8 = -1
  rw [eb_,show d.toNat.toUInt8 = d from UInt8.ofNat_toNat]
  exact Alr hb (by decide)
 have hI : ∀ w,Calls Tryz.prog 211 #[.string (Fo.extract 3 4),.int .u8 (((⟨#[a,b,d]⟩ : ByteArray)[2]'(by show 2 < 3; omega)).toNat : Int)] w fun e w' => e = .returned (.int .i64 (-1)) /\ w' = w := fun w => by
  have := Ajw (Fo.extract 3 4) (((⟨#[a,b,d]⟩ : ByteArray)[2]'(by show 2 < 3; omega)).toNat : Int) w
  rwa [hix] at this
 clear hix
 have hwr : IntKind.i64.wrap 3 = 3 := by decide
 have kc : ∀ (w : World),(convert 21 9 (.int .i32 x)).run Tryz.prog w = .ok (.string ⟨#[a,b,d]⟩) w := fun w => by rw [← he]; exact run_convert_int_string (P := Tryz.prog) w 21 9 .i32 x (by rw [Tryz.underlying21]; rfl) Tryz.underlying9
 go_enter Tryz.func209,Tryz.ntmps209
 go_wp2_with (first | (go_at_fn 212; refine (Tryz.utf8_ValidRune _ _).mono ?_; rintro e w' ⟨rfl,hw⟩; rw [hw,h1]) | (go_at_fn 211; refine (Any.strings_IndexByte { Tryz.lays151 with } _ _ _).mono ?_; rintro e w' ⟨rfl,hw⟩; rw [hw]))
 refine wp_scope_straight ?_
 go_wp2
 go_loopg [9] 1 (fun gf s9 wx => s9 = .int .i64 2 /\ wx = w)
 case atStart => exact ⟨rfl,rfl⟩
 case round =>
  obtain ⟨rfl,rfl⟩ := hrel
  go_wp2
  refine wp_scope_straight ?_
  go_wp2
  go_quiet (fail)
  go_wp2
  go_quiet ((refine (hI _).mono fun e w'' h => ⟨h.1,_,h.2⟩))
  go_wp2
  simp only [Exit.noGoto,Exit.inBlock,Exit.then]
  go_ret
  exact ⟨rfl,below_drewNg _ _⟩
set_option maxRecDepth 1000000 in
theorem Anj (x : Int) (a b d e : UInt8) (he : Utf8.encode x = ⟨#[a,b,d,e]⟩) (hb : 128 <= e.toNat) (h0 : 128 <= x) (h1 : Lib.validRune x = true) (h2 : x ≠ 65533) (w : World) : Calls Tryz.prog 209 #[.string Fo,.int .i32 x] w fun e w' => e = .returned (.int .i64 (-1)) /\ Go.RowKit.Below w.heap.size w w' := by
 have hd0 : decide ((0 : Int) <= x) = true := by simp; omega
 have hd1 : decide (x < (128 : Int)) = false := by simp; omega
 have hd2 : decide ((63 : Int) = e.toNat) = false := by simp; omega
 have e295 : ∀ args w,(callFunc 212 args).run Tryz.prog w = .ok (.enter 212 args) w := enters_of Tryz.func212 Kr rfl;have e294 : ∀ args w,(callFunc 211 args).run Tryz.prog w = .ok (.enter 211 args) w := enters_of Tryz.func211 Kr rfl;have mixed : Tryz.prog.follows .mixedOrders = true := Kr;have hsz : Fo.size = 4 := rfl
 have hne : (((Fo[3]'(by decide)).toNat : Int) != (((⟨#[a,b,d,e]⟩ : ByteArray)[3]'(by show 3 < 4; omega)).toNat : Int)) = true := by
  show (((63 : Nat) : Int) != ((e.toNat : Nat) : Int)) = true
  simp; omega
 have hix : Lib.indexByte (Fo.extract 4 4).data.toList ((((⟨#[a,b,d,e]⟩ : ByteArray)[3]'(by show 3 < 4; omega)).toNat : Int)).toNat.toUInt8 = -1 := by
  show Lib.indexByte ([] : List UInt8) (e.toNat : Int).toNat.toUInt8 = -1
  rw [eb_,show e.toNat.toUInt8 = e from UInt8.ofNat_toNat]
  exact Alr hb (by decide)
 have hI : ∀ w,Calls Tryz.prog 211 #[.string (Fo.extract 4 4),.int .u8 (((⟨#[a,b,d,e]⟩ : ByteArray)[3]'(by show 3 < 4; omega)).toNat : Int)] w fun e w' => e = .returned (.int .i64 (-1)) /\ w' = w := fun w => by
  have := Ajw (Fo.extract 4 4) (((⟨#[a,b,d,e]⟩ : ByteArray)[3]'(by show 3 < 4; omega)).toNat : Int) w
  rwa [hix] at this
 clear hix
 have hwr : IntKind.i64.wrap 4 = 4 := by decide
 have kc : ∀ (w : World),(convert 21 9 (.int .i32 x)).run Tryz.prog w = .ok (.string ⟨#[a,b,d,e]⟩) w := fun w => by rw [← he]; exact run_convert_int_string (P := Tryz.prog) w 21 9 .i32 x (by rw [Tryz.underlying21]; rfl) Tryz.underlying9
 go_enter Tryz.func209,Tryz.ntmps209
 go_wp2_with (first | (go_at_fn 212; refine (Tryz.utf8_ValidRune _ _).mono ?_; rintro e w' ⟨rfl,hw⟩; rw [hw,h1]) | (go_at_fn 211; refine (Any.strings_IndexByte { Tryz.lays151 with } _ _ _).mono ?_; rintro e w' ⟨rfl,hw⟩; rw [hw]))
 refine wp_scope_straight ?_
 go_wp2
 go_loopg [9] 1 (fun gf s9 wx => s9 = .int .i64 3 /\ wx = w)
 case atStart => exact ⟨rfl,rfl⟩
 case round =>
  obtain ⟨rfl,rfl⟩ := hrel
  go_wp2
  refine wp_scope_straight ?_
  go_wp2
  go_quiet (fail)
  go_wp2
  go_quiet ((refine (hI _).mono fun e w'' h => ⟨h.1,_,h.2⟩))
  go_wp2
  simp only [Exit.noGoto,Exit.inBlock,Exit.then]
  go_ret
  exact ⟨rfl,below_drewNg _ _⟩
theorem Asj (x : Int) (h0 : 128 <= x) (w : World) : Calls Tryz.prog 209 #[.string Fo,.int .i32 x] w fun e w' => e = .returned (.int .i64 (-1)) /\ Go.RowKit.Below w.heap.size w w' := by
 by_cases h2 : x = 65533
 ·subst h2; exact Ap2 w
 ·cases h1 : Lib.validRune x with
  | false => exact (Ap3 x h0 h1 h2 w).mono fun e w' h => ⟨h.1,h.2 ▸ Go.RowKit.Below.refl _ _⟩
  | true =>
   rcases Ang x h0 with ⟨a,b,he,hb⟩ | ⟨a,b,d,he,hb⟩ | ⟨a,b,d,e,he,hb⟩
   ·exact Anh x a b he hb h0 h1 h2 w
   ·exact Ani x a b d he hb h0 h1 h2 w
   ·exact Anj x a b d e he hb h0 h1 h2 w
def Acv (x : Int) : Bool := decide (x = 45) || decide (x = 95) || decide (x = 46) || decide (x = 63)
theorem Aum (x : Nat) (h : x < 128) : decide ((0 : Int) <= Lib.indexByte Fo.data.toList x.toUInt8) = Acv x := by
 have : ∀ x : Fin 128,decide ((0 : Int) <= Lib.indexByte Fo.data.toList x.val.toUInt8) = Acv x.val := by decide
 exact this ⟨x,h⟩
set_option maxRecDepth 1000000 in
theorem Ask (x : Nat) (w : World) : Calls Tryz.prog 207 #[.string Fo,.int .i32 x] w fun e w' => e = .returned (.bool (Acv x)) /\ Go.RowKit.Below w.heap.size w w' := by
 by_cases h : x < 128
 ·have := Tryz.strings_ContainsRune_ascii Fo (x : Int) w Om Om;rw [eb_,Aum x h] at this;exact this.mono fun e w' h => ⟨h.1,h.2 ▸ Go.RowKit.Below.refl _ _⟩
 ·have e292 : ∀ args w,(callFunc 209 args).run Tryz.prog w = .ok (.enter 209 args) w := enters_of Tryz.func209 Kr rfl
  have hi : Acv x = false := by simp [Acv]; omega
  rw [hi]
  go_enter Tryz.func207,Tryz.ntmps207
  go_wp2_with (go_at_fn 209; refine (Asj (x : Int) Om _).mono ?_; rintro e w' ⟨rfl,hw⟩)
  go_ret
  exact ⟨rfl,hw⟩
def prC (n : Int) : Bool := (((decide ((97 : Int) <= n) && decide (n <= 122)) || (decide ((65 : Int) <= n) && decide (n <= 90))) || (decide ((48 : Int) <= n) && decide (n <= 57))) || Acv n
end
end Go.AM
