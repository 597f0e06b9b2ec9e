/- A part of the proof; shortened by program. -/
import Derived.Shelf.Strings.FuncGrows
import Derived.Laws.Runes
import Derived.Deep.QuietTactic
import Derived.BigQuiet
import Derived.Test.YtolkkkghemedjaaGreatDoorP07
set_option maxRecDepth 100000
set_option linter.unusedSimpArgs false
set_option linter.unusedVariables false
namespace Go.AM
open Go Go.Proofs
def Oi (mu : SM Bool) : List Hp -> Nat -> Option Nat
 | [], n => some n
 | h :: r, n => if h.floating = true then (if (!mu.has (h.text.tail.headD [])) = true then none else Oi mu r (n + 1)) else Oi mu r n
def Ai9 (l : List Pr) (i : Nat) (p : Pr) : Bool := match i with
 | 0 => false
 | j + 1 => match l[j]? with | some q => decide ((0 : Int) <= cmpP q p) | none => false
theorem Am6 {l : List Pr} {i : Nat} {p q : Pr} (h : 1 <= i) (hq : l[i - 1]? = some q) : Ai9 l i p = decide ((0 : Int) <= cmpP q p) := by
 cases i with
 | zero => omega
 | succ j => simp only [Nat.add_sub_cancel] at hq; simp only [Ai9, hq]
theorem Apc {l : List Pr} {i : Nat} {p : Pr} (h : i = 0) : Ai9 l i p = false := by subst h; rfl
def Vl (k : Kn) (l : List Pr) (i : Nat) (p : Pr) : Bool := ((!ltS p.a p.b || !k.vars.has p.a) || !k.vars.has p.b) || Ai9 l i p
def M7 (k : Kn) (l : List Pr) : List Pr -> Nat -> Bool
 | [], _ => false
 | p :: r, i => Vl k l i p || M7 k l r (i + 1)
def Jf (k : Kn) (f : Fr) : SM Bool := occM k.vars (f.text :: G6 f.hyps)
def Ph (mu : SM Bool) (l : List Pr) : List Pr := Ea (fun p => !mu.has p.a || !mu.has p.b) l
def Ko (k : Kn) (f : Fr) : Int := match Oi (Jf k f) f.hyps 0 with
 | none => 70
 | some n => if (!decide (Int.ofNat n = Int.ofNat (Jf k f).length)) = true then 70 else if M7 k f.wide f.wide 0 = true then 70 else if (!decide (f.apart = Ph (Jf k f) f.wide)) = true then 70 else 0
theorem Gc.new {σ : Sto} {m : Nat} {k : Kn} {o : AO} (hw : WFS σ) (h : Gc σ m k) : Gc (σ.new o) m k := ⟨h.c.new (h.c.lt hw), h.v.new (h.v.lt hw), h.f.new (h.f.lt hw), h.h.new (h.h.lt hw), h.t.new (h.t.lt hw)⟩
theorem f213 (m : Nat) (k : Kn) (f : Fr) (σ : Sto) (hk : Gc σ m k) (hb : f.hyps.length < 1000000) (hb2 : ∀ t ∈ f.text :: G6 f.hyps, t.length < 1000000) (hb3 : f.wide.length < 1000000) (hfl : ∀ h ∈ f.hyps, h.floating = true -> ∃ a b, h.text = [a, b]) : Ah Ew 213 [knV m, .agg (eF f)] σ fun v σ' => v = iV (Ko k f) /\ σ' = σ := by
 refine A2 Tryz.func213 rfl rfl fun hw hu0 => ?_
 refine Ad (Aa (Ax Oe rfl rfl rfl (OA rfl (Ab (Ad ?_)))))
 refine Gv 1 (anns := [aP 0 1, aP 0 1, aP 0 1, aR 0 1, aP 0 0, aR 0 0, aP 0 0, aR 0 0, aE 0 1, aE 1 2, aP 2 2]) A5 (Ar (l := [(240, [slV eH 3 f.hyps, A9 f.text], σ, slV eL 1 (f.text :: G6 f.hyps), σ), (239, [.mp (m + 1), slV eL 1 (f.text :: G6 f.hyps)], σ, .mp (nx σ), (σ.new (Pn k.vars (f.text :: G6 f.hyps))))]) ⟨f240 f.hyps f.text σ hb, f239x (m + 1) k.vars (f.text :: G6 f.hyps) σ hk.v (by have := Ai7 (l := f.hyps); simp; omega) hb2, trivial⟩) (by kernel_rfl) (by kernel_rfl) ?_
 refine DF (Ag rfl) (DF (Bz rfl) (DF (Ac H1 rfl rfl) (DF (Ae E4 rfl rfl rfl) (DF (Ac G4 rfl rfl) (DF (Ae Kk rfl rfl rfl) (DF (Ac Uk rfl rfl) (DF (Ae Cf rfl rfl rfl) ?_)))))))
 refine DT (A7 rfl rfl Ba) (DT (A7 rfl rfl (Cz (by decide) Ba)) ?_)
 refine DF (Bv rfl) (Bl ?_)
 refine ⟨(by intro e he; simp at he; subst he; exact .refl), ?_⟩
 refine Ad (Aa (OA rfl (Ab (Ad (Ad (Aa (O1 (Ac G4 rfl rfl) ?_)))))));refine O1 (Ae Kk rfl rfl rfl) (O1 (As Fs rfl) (OM rfl (Ab ?_)));have hmu : E3 (σ.new (Pn k.vars (f.text :: G6 f.hyps))) (nx σ) (Jf k f) := Bg.fresh;have hk1 : Gc (σ.new (Pn k.vars (f.text :: G6 f.hyps))) m k := hk.new hw;refine Am ?_;refine E9 (fun q : Nat × AV => [(0, knV m), (3, .pv (eF f)), (5, .mp (nx σ)), (6, q.2), (22, slV eH 3 f.hyps), (23, iV (.ofNat f.hyps.length)), (24, iV (.ofNat q.1))]) (fun q σ0 => q.1 <= f.hyps.length /\ σ0 = (σ.new (Pn k.vars (f.text :: G6 f.hyps))) /\ ∃ n, q.2 = iV (.ofNat n) /\ n <= q.1 /\ Oi (Jf k f) f.hyps 0 = Oi (Jf k f) (f.hyps.drop q.1) n) (fun q => f.hyps.length - q.1) (0, iV (.ofNat 0)) ⟨rfl, rfl, rfl, rfl, rfl, rfl, rfl, trivial⟩ ⟨Nat.zero_le _, rfl, 0, rfl, nl, rfl⟩ ?_
 rintro ⟨i0, v0⟩ σ0 hP0;obtain ⟨hi0, rfl, n, hvn, hni, hf0⟩ : i0 <= f.hyps.length /\ σ0 = (σ.new (Pn k.vars (f.text :: G6 f.hyps))) /\ ∃ n, v0 = iV (.ofNat n) /\ n <= i0 /\ Oi (Jf k f) f.hyps 0 = Oi (Jf k f) (f.hyps.drop i0) n := hP0;refine Ad (Aa (O1 (Bb ok3 rfl rfl) (Ab (Ad ?_))));refine Ai rfl (fun h1 => ?_) (fun h1 => ?_)
 ·have hlt0 : i0 < f.hyps.length := by simpa using h1
  obtain ⟨a0, ha0⟩ := B3 hlt0;have hd0 := Bn ha0;subst hvn;refine Aj (Ad (Am (Ad (Aa (O1 (A3 H0 (fun _ => rfl) rfl rfl ha0) ?_)))))
  refine O1 (Ae Dy rfl rfl rfl) (B6 Rh Dy rfl (fun _ => rfl) rfl rfl rfl rfl ?_)
  refine Ab (Ad (Aa (O1 (Ac Io rfl rfl) (O1 (Ae ld4 rfl rfl rfl) (Ab ?_)))));refine Ai rfl (fun h2 => ?_) (fun h2 => ?_)
  ·have h2' : a0.floating = true := h2;obtain ⟨ta, tb, htx⟩ := hfl a0 (List.mem_of_getElem? ha0) h2'
   refine Ad (Ad (Aa (OM rfl (O1 (Ac Da rfl rfl) (O1 (Ae Cf rfl rfl rfl) (O1 (A3 C5 (fun _ => rfl) rfl rfl (by rw [htx]; rfl : a0.text[1]? = some tb) (i := 1)) ?_))))))
   refine O1 (Ae ld9 rfl rfl rfl) (O1 (Dj st9 C1 rfl hmu rfl) (O1 (A8 rfl) (Ab ?_)));refine Ai rfl (fun h3 => ?_) (fun h3 => ?_)
   ·refine Ad (Aa (OA rfl (Ab ?_)))
    have hS : Ko k f = 70 := by rw [Ko, hf0, hd0, Oi, if_pos h2', if_pos (by rw [htx]; exact h3)]
    refine Ak ?_;exact ⟨_, rfl, _, σ, Aw.below hw (Below.rfl'.new nl _), nl, .same rfl, congrArg iV hS.symm, rfl⟩
   ·refine Aj (Aa (OM rfl (O1 (A1 (p := n) (q := 1) ok3 rfl rfl (by omega)) ?_)))
    refine OA rfl (Ab (Aa (O1 (A1 (q := 1) ok3 rfl rfl (by omega)) ?_)))
    refine OM rfl (Ab ?_)
    refine ⟨(i0 + 1, iV (.ofNat (n + 1))), by show f.hyps.length - (i0 + 1) < f.hyps.length - i0; omega, ⟨rfl, rfl, rfl, rfl, rfl, rfl, rfl, trivial⟩, hlt0, rfl, n + 1, rfl, by omega, by rw [hf0, hd0, Oi, if_pos h2', if_neg (by rw [htx]; exact fun hh => Bool.noConfusion (h3.symm.trans hh))]⟩
  ·have h2' : a0.floating = false := h2
   refine Aj (Aa (O1 (A1 (q := 1) ok3 rfl rfl (by omega)) ?_))
   refine OM rfl (Ab ?_)
   refine ⟨(i0 + 1, iV (.ofNat n)), by show f.hyps.length - (i0 + 1) < f.hyps.length - i0; omega, ⟨rfl, rfl, rfl, rfl, rfl, rfl, rfl, trivial⟩, hlt0, rfl, n, rfl, by omega, by rw [hf0, hd0, Oi, if_neg (by rw [h2']; simp)]⟩
 ·have hge0 : f.hyps.length <= i0 := by simpa using h1
  subst hvn
  have hs : Oi (Jf k f) f.hyps 0 = some n := by rw [hf0, List.drop_eq_nil_of_le hge0]; rfl
  refine Bf ?_;refine Ad (Ad (Aa (OM rfl (OM rfl (O1 (Ao2 C1 rfl hmu) (O1 (C9 ok3 rfl rfl) (Ab ?_)))))));refine Ai rfl (fun h2 => ?_) (fun h2 => ?_)
  ·refine Ad (Aa (OA rfl (Ab ?_)))
   have hS : Ko k f = 70 := by rw [Ko, hs]; exact if_pos h2
   refine Ak ?_;exact ⟨_, rfl, _, σ, Aw.below hw (Below.rfl'.new nl _), nl, .same rfl, congrArg iV hS.symm, rfl⟩
  ·refine Aj (Ad (Ad (Aa (O1 (Ac Ac4 rfl rfl) (O1 (Ae Akr rfl rfl rfl) (O1 (As Yq rfl) (OM rfl ?_)))))));refine Ab (Am ?_);refine Cg f.wide.length (fun i2 => [(0, knV m), (3, .pv (eF f)), (5, .mp (nx σ)), (45, slV eP 2 f.wide), (46, iV (.ofNat f.wide.length)), (47, iV (.ofNat i2))]) (fun i2 σ2 => σ2 = (σ.new (Pn k.vars (f.text :: G6 f.hyps))) /\ M7 k f.wide f.wide 0 = M7 k f.wide (f.wide.drop i2) i2) ⟨rfl, rfl, rfl, rfl, rfl, rfl, trivial⟩ ⟨rfl, rfl⟩ ?_
   rintro i2 σ2 hi2 ⟨rfl, hf2⟩;refine Ad (Aa (O1 (Bb ok3 rfl rfl) (Ab (Ad ?_))));refine Ai rfl (fun h3 => ?_) (fun h3 => ?_)
   ·have hlt2 : i2 < f.wide.length := by simpa using h3
    obtain ⟨a2, ha2⟩ := B3 hlt2;have hd2 := Bn ha2;refine Aj (Ad (Am (Ad (Aa (OM rfl (O1 (A3 Uj (fun _ => rfl) rfl rfl ha2) ?_))))))
    refine O1 (Ae Je rfl rfl rfl) (K9 Ap4 Je rfl rfl (fun _ => rfl) rfl (fun _ => rfl) rfl rfl rfl rfl rfl ?_)
    refine Ab ?_;refine Hg [(91, .bool (Vl k f.wide i2 a2))] ?_ ?_
    ·rcases Bool.eq_false_or_eq_true (!ltS a2.a a2.b) with hg5 | hg5
     ·refine Cq (anns := [aP 0 0, aR 0 0, aP 0 0, aR 0 0, aP 0 0, aP 0 0, aP 0 0, aP 0 0, aP 0 0, aR 0 0, aP 0 0, aR 0 0, aR 0 0, aP 0 0, aP 0 0, aP 0 0, aP 0 0, aP 0 0, aP 0 0, aR 0 0, aP 0 0, aR 0 0, aR 0 0, aP 0 0, aP 0 0, aP 0 0, aP 0 0, aP 0 0, aP 0 0, aP 0 0, aR 0 0, aP 0 0, aP 0 0, aP 0 0, aR 0 0, aR 0 0, aE 0 1, aP 1 1, aP 1 1, aP 1 1]) A5 (Ar (l := []) trivial) (by kernel_rfl) (by kernel_rfl) ?_
      refine DF (Ac Gw rfl rfl) (DF (Ae ld9 rfl rfl rfl) (DF (Ac H2 rfl rfl) (DF (Ae ld9 rfl rfl rfl) (DF (Yf ok9 rfl rfl) (DF (Ag rfl) ?_)))))
      refine Dx rfl rfl rfl rfl (by first | rfl | simp only [hg5] <;> rfl | simp [hg5]) ?_
      refine Dx rfl rfl rfl rfl (by first | rfl | simp only [hg5] <;> rfl | simp [hg5]) ?_
      refine Dx rfl rfl rfl rfl (by first | rfl | simp only [hg5] <;> rfl | simp [hg5]) ?_
      refine Dx rfl rfl rfl rfl (by first | rfl | simp only [hg5] <;> rfl | simp [hg5]) ?_
      refine Dx rfl rfl rfl rfl (by first | rfl | simp only [hg5] <;> rfl | simp [hg5]) ?_
      refine Dx rfl rfl rfl rfl (by first | rfl | simp only [hg5] <;> rfl | simp [hg5]) ?_
      refine Dx rfl rfl rfl rfl (by first | rfl | simp only [hg5] <;> rfl | simp [hg5]) ?_
      refine Dx rfl rfl rfl rfl (by first | rfl | simp only [hg5] <;> rfl | simp [hg5]) ?_
      refine DF (Bx rfl (by first | rfl | simp only [hg5] <;> rfl | simp [hg5]) rfl) ?_
      refine DF (Ag rfl) ?_
      refine Dx rfl rfl rfl rfl (by first | rfl | simp only [hg5] <;> rfl | simp [hg5]) ?_
      refine Dx rfl rfl rfl rfl (by first | rfl | simp only [hg5] <;> rfl | simp [hg5]) ?_
      refine Dx rfl rfl rfl rfl (by first | rfl | simp only [hg5] <;> rfl | simp [hg5]) ?_
      refine Dx rfl rfl rfl rfl (by first | rfl | simp only [hg5] <;> rfl | simp [hg5]) ?_
      refine Dx rfl rfl rfl rfl (by first | rfl | simp only [hg5] <;> rfl | simp [hg5]) ?_
      refine Dx rfl rfl rfl rfl (by first | rfl | simp only [hg5] <;> rfl | simp [hg5]) ?_
      refine Dx rfl rfl rfl rfl (by first | rfl | simp only [hg5] <;> rfl | simp [hg5]) ?_
      refine Dx rfl rfl rfl rfl (by first | rfl | simp only [hg5] <;> rfl | simp [hg5]) ?_
      refine DF (Bx rfl (by first | rfl | simp only [hg5] <;> rfl | simp [hg5]) rfl) ?_
      refine DF (Ag rfl) ?_
      refine Dx rfl rfl rfl rfl (by first | rfl | simp only [hg5] <;> rfl | simp [hg5]) ?_
      refine Dx rfl rfl rfl rfl (by first | rfl | simp only [hg5] <;> rfl | simp [hg5]) ?_
      refine Dx rfl rfl rfl rfl (by first | rfl | simp only [hg5] <;> rfl | simp [hg5]) ?_
      refine Du (Du (Du (Du (Du (Du (Du (Wg (e := true) rfl rfl rfl rfl rfl rfl ?_)))))));refine Du ?_
      refine Dx rfl rfl rfl rfl (by first | rfl | simp only [hg5] <;> rfl | simp [hg5]) ?_
      refine DF (Bx rfl (by first | rfl | simp only [hg5] <;> rfl | simp [hg5]) rfl) ?_
      refine Bl ?_
      exact ⟨⟨congrArg (fun b => some (AV.bool b)) (by unfold Vl; rw [hg5]; rfl), trivial⟩, sb, rfl⟩
     ·rcases Bool.eq_false_or_eq_true (!k.vars.has a2.a) with hg15 | hg15
      ·refine Cq (anns := [aP 0 0, aR 0 0, aP 0 0, aR 0 0, aP 0 0, aP 0 0, aP 0 0, aP 0 0, aP 0 0, aR 0 0, aP 0 0, aR 0 0, aR 0 0, aP 0 0, aP 0 0, aP 0 0, aP 0 0, aP 0 0, aP 0 0, aR 0 0, aP 0 0, aR 0 0, aR 0 0, aP 0 0, aP 0 0, aP 0 0, aP 0 0, aP 0 0, aP 0 0, aP 0 0, aR 0 0, aP 0 0, aP 0 0, aP 0 0, aR 0 0, aR 0 0, aE 0 1, aP 1 1, aP 1 1, aP 1 1]) A5 (Ar (l := []) trivial) (by kernel_rfl) (by kernel_rfl) ?_
       refine DF (Ac Gw rfl rfl) (DF (Ae ld9 rfl rfl rfl) (DF (Ac H2 rfl rfl) (DF (Ae ld9 rfl rfl rfl) (DF (Yf ok9 rfl rfl) (DF (Ag rfl) ?_)))))
       refine Dn rfl rfl rfl rfl (by first | rfl | simp only [hg15, hg5] <;> rfl | simp [hg15, hg5]) (Ag rfl) ?_
       refine Dn rfl rfl rfl rfl (by first | rfl | simp only [hg15, hg5] <;> rfl | simp [hg15, hg5]) (Bz rfl) ?_
       refine Dn rfl rfl rfl rfl (by first | rfl | simp only [hg15, hg5] <;> rfl | simp [hg15, hg5]) (Ac H1 rfl rfl) ?_
       refine Dn rfl rfl rfl rfl (by first | rfl | simp only [hg15, hg5] <;> rfl | simp [hg15, hg5]) (Ae E4 rfl rfl rfl) ?_
       refine Dn rfl rfl rfl rfl (by first | rfl | simp only [hg15, hg5] <;> rfl | simp [hg15, hg5]) (Ac Gw rfl rfl) ?_
       refine Dn rfl rfl rfl rfl (by first | rfl | simp only [hg15, hg5] <;> rfl | simp [hg15, hg5]) (Ae ld9 rfl rfl rfl) ?_
       refine Dn rfl rfl rfl rfl (by first | rfl | simp only [hg15, hg5] <;> rfl | simp [hg15, hg5]) (Dj st9 C1 rfl hk1.v rfl) ?_
       refine Dn rfl rfl rfl rfl (by first | rfl | simp only [hg15, hg5] <;> rfl | simp [hg15, hg5]) (A8 rfl) ?_
       refine DF (Bt rfl (by first | rfl | simp only [hg15, hg5] <;> rfl | simp [hg15, hg5]) rfl) ?_
       refine DF (Ag rfl) ?_
       refine Dx rfl rfl rfl rfl (by first | rfl | simp only [hg15, hg5] <;> rfl | simp [hg15, hg5]) ?_
       refine Dx rfl rfl rfl rfl (by first | rfl | simp only [hg15, hg5] <;> rfl | simp [hg15, hg5]) ?_
       refine Dx rfl rfl rfl rfl (by first | rfl | simp only [hg15, hg5] <;> rfl | simp [hg15, hg5]) ?_
       refine Dx rfl rfl rfl rfl (by first | rfl | simp only [hg15, hg5] <;> rfl | simp [hg15, hg5]) ?_
       refine Dx rfl rfl rfl rfl (by first | rfl | simp only [hg15, hg5] <;> rfl | simp [hg15, hg5]) ?_
       refine Dx rfl rfl rfl rfl (by first | rfl | simp only [hg15, hg5] <;> rfl | simp [hg15, hg5]) ?_
       refine Dx rfl rfl rfl rfl (by first | rfl | simp only [hg15, hg5] <;> rfl | simp [hg15, hg5]) ?_
       refine Dx rfl rfl rfl rfl (by first | rfl | simp only [hg15, hg5] <;> rfl | simp [hg15, hg5]) ?_
       refine DF (Bx rfl (by first | rfl | simp only [hg15, hg5] <;> rfl | simp [hg15, hg5]) rfl) ?_
       refine DF (Ag rfl) ?_
       refine Dx rfl rfl rfl rfl (by first | rfl | simp only [hg15, hg5] <;> rfl | simp [hg15, hg5]) ?_
       refine Dx rfl rfl rfl rfl (by first | rfl | simp only [hg15, hg5] <;> rfl | simp [hg15, hg5]) ?_
       refine Dx rfl rfl rfl rfl (by first | rfl | simp only [hg15, hg5] <;> rfl | simp [hg15, hg5]) ?_
       refine Du (Du (Du (Du (Du (Du (Du (Wg (e := true) rfl rfl rfl rfl rfl rfl ?_)))))));refine Du ?_
       refine Dx rfl rfl rfl rfl (by first | rfl | simp only [hg15, hg5] <;> rfl | simp [hg15, hg5]) ?_
       refine DF (Bx rfl (by first | rfl | simp only [hg15, hg5] <;> rfl | simp [hg15, hg5]) rfl) ?_
       refine Bl ?_
       exact ⟨⟨congrArg (fun b => some (AV.bool b)) (by unfold Vl; rw [hg5, hg15]; rfl), trivial⟩, sb, rfl⟩
      ·rcases Bool.eq_false_or_eq_true (!k.vars.has a2.b) with hg25 | hg25
       ·refine Cq (anns := [aP 0 0, aR 0 0, aP 0 0, aR 0 0, aP 0 0, aP 0 0, aP 0 0, aP 0 0, aP 0 0, aR 0 0, aP 0 0, aR 0 0, aR 0 0, aP 0 0, aP 0 0, aP 0 0, aP 0 0, aP 0 0, aP 0 0, aR 0 0, aP 0 0, aR 0 0, aR 0 0, aP 0 0, aP 0 0, aP 0 0, aP 0 0, aP 0 0, aP 0 0, aP 0 0, aR 0 0, aP 0 0, aP 0 0, aP 0 0, aR 0 0, aR 0 0, aE 0 1, aP 1 1, aP 1 1, aP 1 1]) A5 (Ar (l := []) trivial) (by kernel_rfl) (by kernel_rfl) ?_
        refine DF (Ac Gw rfl rfl) (DF (Ae ld9 rfl rfl rfl) (DF (Ac H2 rfl rfl) (DF (Ae ld9 rfl rfl rfl) (DF (Yf ok9 rfl rfl) (DF (Ag rfl) ?_)))))
        refine Dn rfl rfl rfl rfl (by first | rfl | simp only [hg25, hg15, hg5] <;> rfl | simp [hg25, hg15, hg5]) (Ag rfl) ?_
        refine Dn rfl rfl rfl rfl (by first | rfl | simp only [hg25, hg15, hg5] <;> rfl | simp [hg25, hg15, hg5]) (Bz rfl) ?_
        refine Dn rfl rfl rfl rfl (by first | rfl | simp only [hg25, hg15, hg5] <;> rfl | simp [hg25, hg15, hg5]) (Ac H1 rfl rfl) ?_
        refine Dn rfl rfl rfl rfl (by first | rfl | simp only [hg25, hg15, hg5] <;> rfl | simp [hg25, hg15, hg5]) (Ae E4 rfl rfl rfl) ?_
        refine Dn rfl rfl rfl rfl (by first | rfl | simp only [hg25, hg15, hg5] <;> rfl | simp [hg25, hg15, hg5]) (Ac Gw rfl rfl) ?_
        refine Dn rfl rfl rfl rfl (by first | rfl | simp only [hg25, hg15, hg5] <;> rfl | simp [hg25, hg15, hg5]) (Ae ld9 rfl rfl rfl) ?_
        refine Dn rfl rfl rfl rfl (by first | rfl | simp only [hg25, hg15, hg5] <;> rfl | simp [hg25, hg15, hg5]) (Dj st9 C1 rfl hk1.v rfl) ?_
        refine Dn rfl rfl rfl rfl (by first | rfl | simp only [hg25, hg15, hg5] <;> rfl | simp [hg25, hg15, hg5]) (A8 rfl) ?_
        refine DF (Bt rfl (by first | rfl | simp only [hg25, hg15, hg5] <;> rfl | simp [hg25, hg15, hg5]) rfl) ?_
        refine DF (Ag rfl) ?_
        refine Dn rfl rfl rfl rfl (by first | rfl | simp only [hg25, hg15, hg5] <;> rfl | simp [hg25, hg15, hg5]) (Ag rfl) ?_
        refine Dn rfl rfl rfl rfl (by first | rfl | simp only [hg25, hg15, hg5] <;> rfl | simp [hg25, hg15, hg5]) (Bz rfl) ?_
        refine Dn rfl rfl rfl rfl (by first | rfl | simp only [hg25, hg15, hg5] <;> rfl | simp [hg25, hg15, hg5]) (Ac H1 rfl rfl) ?_
        refine Dn rfl rfl rfl rfl (by first | rfl | simp only [hg25, hg15, hg5] <;> rfl | simp [hg25, hg15, hg5]) (Ae E4 rfl rfl rfl) ?_
        refine Dn rfl rfl rfl rfl (by first | rfl | simp only [hg25, hg15, hg5] <;> rfl | simp [hg25, hg15, hg5]) (Ac H2 rfl rfl) ?_
        refine Dn rfl rfl rfl rfl (by first | rfl | simp only [hg25, hg15, hg5] <;> rfl | simp [hg25, hg15, hg5]) (Ae ld9 rfl rfl rfl) ?_
        refine Dn rfl rfl rfl rfl (by first | rfl | simp only [hg25, hg15, hg5] <;> rfl | simp [hg25, hg15, hg5]) (Dj st9 C1 rfl hk1.v rfl) ?_
        refine Dn rfl rfl rfl rfl (by first | rfl | simp only [hg25, hg15, hg5] <;> rfl | simp [hg25, hg15, hg5]) (A8 rfl) ?_
        refine DF (Bt rfl (by first | rfl | simp only [hg25, hg15, hg5] <;> rfl | simp [hg25, hg15, hg5]) rfl) ?_
        refine DF (Ag rfl) ?_
        refine Dx rfl rfl rfl rfl (by first | rfl | simp only [hg25, hg15, hg5] <;> rfl | simp [hg25, hg15, hg5]) ?_
        refine Dx rfl rfl rfl rfl (by first | rfl | simp only [hg25, hg15, hg5] <;> rfl | simp [hg25, hg15, hg5]) ?_
        refine Dx rfl rfl rfl rfl (by first | rfl | simp only [hg25, hg15, hg5] <;> rfl | simp [hg25, hg15, hg5]) ?_
        refine Du (Du (Du (Du (Du (Du (Du (Wg (e := true) rfl rfl rfl rfl rfl rfl ?_)))))));refine Du ?_
        refine Dx rfl rfl rfl rfl (by first | rfl | simp only [hg25, hg15, hg5] <;> rfl | simp [hg25, hg15, hg5]) ?_
        refine DF (Bx rfl (by first | rfl | simp only [hg25, hg15, hg5] <;> rfl | simp [hg25, hg15, hg5]) rfl) ?_
        refine Bl ?_
        exact ⟨⟨congrArg (fun b => some (AV.bool b)) (by unfold Vl; rw [hg5, hg15, hg25]; rfl), trivial⟩, sb, rfl⟩
       ·rcases Bool.eq_false_or_eq_true (decide ((0 : Int) < Int.ofNat i2)) with hg28 | hg28
        ·have h1i : 0 < i2 := by simpa using hg28
         obtain ⟨pq, hpq⟩ := B3 (show i2 - 1 < f.wide.length by omega)
         refine Cq (anns := [aP 0 0, aR 0 0, aP 0 0, aR 0 0, aP 0 0, aP 0 0, aP 0 0, aP 0 0, aP 0 0, aR 0 0, aP 0 0, aR 0 0, aR 0 0, aP 0 0, aP 0 0, aP 0 0, aP 0 0, aP 0 0, aP 0 0, aR 0 0, aP 0 0, aR 0 0, aR 0 0, aP 0 0, aP 0 0, aP 0 0, aP 0 0, aP 0 0, aP 0 0, aP 0 0, aR 0 0, aP 0 0, aP 0 0, aP 0 0, aR 0 0, aR 0 0, aE 0 1, aP 1 1, aP 1 1, aP 1 1]) A5 (Ar (l := [(241, [.agg (eP pq), .agg (eP a2)], (σ.new (Pn k.vars (f.text :: G6 f.hyps))), iV (cmpP pq a2), (σ.new (Pn k.vars (f.text :: G6 f.hyps))))]) ⟨f241 pq a2 _, trivial⟩) (by kernel_rfl) (by kernel_rfl) ?_
         refine DF (Ac Gw rfl rfl) (DF (Ae ld9 rfl rfl rfl) (DF (Ac H2 rfl rfl) (DF (Ae ld9 rfl rfl rfl) (DF (Yf ok9 rfl rfl) (DF (Ag rfl) ?_)))))
         refine Dn rfl rfl rfl rfl (by first | rfl | simp only [hg28, hg25, hg15, hg5] <;> rfl | simp [hg28, hg25, hg15, hg5]) (Ag rfl) ?_
         refine Dn rfl rfl rfl rfl (by first | rfl | simp only [hg28, hg25, hg15, hg5] <;> rfl | simp [hg28, hg25, hg15, hg5]) (Bz rfl) ?_
         refine Dn rfl rfl rfl rfl (by first | rfl | simp only [hg28, hg25, hg15, hg5] <;> rfl | simp [hg28, hg25, hg15, hg5]) (Ac H1 rfl rfl) ?_
         refine Dn rfl rfl rfl rfl (by first | rfl | simp only [hg28, hg25, hg15, hg5] <;> rfl | simp [hg28, hg25, hg15, hg5]) (Ae E4 rfl rfl rfl) ?_
         refine Dn rfl rfl rfl rfl (by first | rfl | simp only [hg28, hg25, hg15, hg5] <;> rfl | simp [hg28, hg25, hg15, hg5]) (Ac Gw rfl rfl) ?_
         refine Dn rfl rfl rfl rfl (by first | rfl | simp only [hg28, hg25, hg15, hg5] <;> rfl | simp [hg28, hg25, hg15, hg5]) (Ae ld9 rfl rfl rfl) ?_
         refine Dn rfl rfl rfl rfl (by first | rfl | simp only [hg28, hg25, hg15, hg5] <;> rfl | simp [hg28, hg25, hg15, hg5]) (Dj st9 C1 rfl hk1.v rfl) ?_
         refine Dn rfl rfl rfl rfl (by first | rfl | simp only [hg28, hg25, hg15, hg5] <;> rfl | simp [hg28, hg25, hg15, hg5]) (A8 rfl) ?_
         refine DF (Bt rfl (by first | rfl | simp only [hg28, hg25, hg15, hg5] <;> rfl | simp [hg28, hg25, hg15, hg5]) rfl) ?_
         refine DF (Ag rfl) ?_
         refine Dn rfl rfl rfl rfl (by first | rfl | simp only [hg28, hg25, hg15, hg5] <;> rfl | simp [hg28, hg25, hg15, hg5]) (Ag rfl) ?_
         refine Dn rfl rfl rfl rfl (by first | rfl | simp only [hg28, hg25, hg15, hg5] <;> rfl | simp [hg28, hg25, hg15, hg5]) (Bz rfl) ?_
         refine Dn rfl rfl rfl rfl (by first | rfl | simp only [hg28, hg25, hg15, hg5] <;> rfl | simp [hg28, hg25, hg15, hg5]) (Ac H1 rfl rfl) ?_
         refine Dn rfl rfl rfl rfl (by first | rfl | simp only [hg28, hg25, hg15, hg5] <;> rfl | simp [hg28, hg25, hg15, hg5]) (Ae E4 rfl rfl rfl) ?_
         refine Dn rfl rfl rfl rfl (by first | rfl | simp only [hg28, hg25, hg15, hg5] <;> rfl | simp [hg28, hg25, hg15, hg5]) (Ac H2 rfl rfl) ?_
         refine Dn rfl rfl rfl rfl (by first | rfl | simp only [hg28, hg25, hg15, hg5] <;> rfl | simp [hg28, hg25, hg15, hg5]) (Ae ld9 rfl rfl rfl) ?_
         refine Dn rfl rfl rfl rfl (by first | rfl | simp only [hg28, hg25, hg15, hg5] <;> rfl | simp [hg28, hg25, hg15, hg5]) (Dj st9 C1 rfl hk1.v rfl) ?_
         refine Dn rfl rfl rfl rfl (by first | rfl | simp only [hg28, hg25, hg15, hg5] <;> rfl | simp [hg28, hg25, hg15, hg5]) (A8 rfl) ?_
         refine DF (Bt rfl (by first | rfl | simp only [hg28, hg25, hg15, hg5] <;> rfl | simp [hg28, hg25, hg15, hg5]) rfl) ?_
         refine DF (Ag rfl) ?_
         refine Dn rfl rfl rfl rfl (by first | rfl | simp only [hg28, hg25, hg15, hg5] <;> rfl | simp [hg28, hg25, hg15, hg5]) (Ag rfl) ?_
         refine Dn rfl rfl rfl rfl (by first | rfl | simp only [hg28, hg25, hg15, hg5] <;> rfl | simp [hg28, hg25, hg15, hg5]) (Cm (q := 0) ok3 rfl rfl) ?_
         refine Dn rfl rfl rfl rfl (by first | rfl | simp only [hg28, hg25, hg15, hg5] <;> rfl | simp [hg28, hg25, hg15, hg5]) (Ag rfl) ?_
         refine Dn rfl rfl rfl rfl (by first | rfl | simp only [hg28, hg25, hg15, hg5] <;> rfl | simp [hg28, hg25, hg15, hg5]) (Ac Ac4 rfl rfl) ?_
         refine Dn rfl rfl rfl rfl (by first | rfl | simp only [hg28, hg25, hg15, hg5] <;> rfl | simp [hg28, hg25, hg15, hg5]) (Ae Akr rfl rfl rfl) ?_
         refine Dn rfl rfl rfl rfl (by first | rfl | simp only [hg28, hg25, hg15, hg5] <;> rfl | simp [hg28, hg25, hg15, hg5]) (Ag rfl) ?_
         refine Dn rfl rfl rfl rfl (by first | rfl | simp only [hg28, hg25, hg15, hg5] <;> rfl | simp [hg28, hg25, hg15, hg5]) (Aco (p := i2) (q := 1) ok3 rfl rfl (by omega) (by omega)) ?_
         refine Dn rfl rfl rfl rfl (by first | rfl | simp only [hg28, hg25, hg15, hg5] <;> rfl | simp [hg28, hg25, hg15, hg5]) (A3 Uj (fun _ => rfl) rfl rfl hpq) ?_
         refine Dn rfl rfl rfl rfl (by first | rfl | simp only [hg28, hg25, hg15, hg5] <;> rfl | simp [hg28, hg25, hg15, hg5]) (Ae Je rfl rfl rfl) ?_
         refine Dn rfl rfl rfl rfl (by first | rfl | simp only [hg28, hg25, hg15, hg5] <;> rfl | simp [hg28, hg25, hg15, hg5]) (Ae Je rfl rfl rfl) ?_
         refine K8 (e := true) rfl rfl rfl rfl (by first | rfl | simp only [hg28, hg25, hg15, hg5] <;> rfl | simp [hg28, hg25, hg15, hg5]) rfl rfl (A7 rfl rfl Ba) ?_
         refine Dn rfl rfl rfl rfl (by first | rfl | simp only [hg28, hg25, hg15, hg5] <;> rfl | simp [hg28, hg25, hg15, hg5]) (Gi (q := 0) ok3 rfl rfl) ?_
         refine Dn rfl rfl rfl rfl (by first | rfl | simp only [hg28, hg25, hg15, hg5] <;> rfl | simp [hg28, hg25, hg15, hg5]) (Bx rfl (by first | rfl | simp only [hg28, hg25, hg15, hg5] <;> rfl | simp [hg28, hg25, hg15, hg5]) rfl) ?_
         refine DF (Bt rfl (by first | rfl | simp only [hg28, hg25, hg15, hg5] <;> rfl | simp [hg28, hg25, hg15, hg5]) rfl) ?_
         refine Bl ?_
         exact ⟨⟨congrArg (fun b => some (AV.bool b)) (by unfold Vl; rw [hg5, hg15, hg25, Am6 h1i hpq]; rfl), trivial⟩, sb, rfl⟩
        ·refine Cq (anns := [aP 0 0, aR 0 0, aP 0 0, aR 0 0, aP 0 0, aP 0 0, aP 0 0, aP 0 0, aP 0 0, aR 0 0, aP 0 0, aR 0 0, aR 0 0, aP 0 0, aP 0 0, aP 0 0, aP 0 0, aP 0 0, aP 0 0, aR 0 0, aP 0 0, aR 0 0, aR 0 0, aP 0 0, aP 0 0, aP 0 0, aP 0 0, aP 0 0, aP 0 0, aP 0 0, aR 0 0, aP 0 0, aP 0 0, aP 0 0, aR 0 0, aR 0 0, aE 0 1, aP 1 1, aP 1 1, aP 1 1]) A5 (Ar (l := []) trivial) (by kernel_rfl) (by kernel_rfl) ?_
         refine DF (Ac Gw rfl rfl) (DF (Ae ld9 rfl rfl rfl) (DF (Ac H2 rfl rfl) (DF (Ae ld9 rfl rfl rfl) (DF (Yf ok9 rfl rfl) (DF (Ag rfl) ?_)))))
         refine Dn rfl rfl rfl rfl (by first | rfl | simp only [hg28, hg25, hg15, hg5] <;> rfl | simp [hg28, hg25, hg15, hg5]) (Ag rfl) ?_
         refine Dn rfl rfl rfl rfl (by first | rfl | simp only [hg28, hg25, hg15, hg5] <;> rfl | simp [hg28, hg25, hg15, hg5]) (Bz rfl) ?_
         refine Dn rfl rfl rfl rfl (by first | rfl | simp only [hg28, hg25, hg15, hg5] <;> rfl | simp [hg28, hg25, hg15, hg5]) (Ac H1 rfl rfl) ?_
         refine Dn rfl rfl rfl rfl (by first | rfl | simp only [hg28, hg25, hg15, hg5] <;> rfl | simp [hg28, hg25, hg15, hg5]) (Ae E4 rfl rfl rfl) ?_
         refine Dn rfl rfl rfl rfl (by first | rfl | simp only [hg28, hg25, hg15, hg5] <;> rfl | simp [hg28, hg25, hg15, hg5]) (Ac Gw rfl rfl) ?_
         refine Dn rfl rfl rfl rfl (by first | rfl | simp only [hg28, hg25, hg15, hg5] <;> rfl | simp [hg28, hg25, hg15, hg5]) (Ae ld9 rfl rfl rfl) ?_
         refine Dn rfl rfl rfl rfl (by first | rfl | simp only [hg28, hg25, hg15, hg5] <;> rfl | simp [hg28, hg25, hg15, hg5]) (Dj st9 C1 rfl hk1.v rfl) ?_
         refine Dn rfl rfl rfl rfl (by first | rfl | simp only [hg28, hg25, hg15, hg5] <;> rfl | simp [hg28, hg25, hg15, hg5]) (A8 rfl) ?_
         refine DF (Bt rfl (by first | rfl | simp only [hg28, hg25, hg15, hg5] <;> rfl | simp [hg28, hg25, hg15, hg5]) rfl) ?_
         refine DF (Ag rfl) ?_
         refine Dn rfl rfl rfl rfl (by first | rfl | simp only [hg28, hg25, hg15, hg5] <;> rfl | simp [hg28, hg25, hg15, hg5]) (Ag rfl) ?_
         refine Dn rfl rfl rfl rfl (by first | rfl | simp only [hg28, hg25, hg15, hg5] <;> rfl | simp [hg28, hg25, hg15, hg5]) (Bz rfl) ?_
         refine Dn rfl rfl rfl rfl (by first | rfl | simp only [hg28, hg25, hg15, hg5] <;> rfl | simp [hg28, hg25, hg15, hg5]) (Ac H1 rfl rfl) ?_
         refine Dn rfl rfl rfl rfl (by first | rfl | simp only [hg28, hg25, hg15, hg5] <;> rfl | simp [hg28, hg25, hg15, hg5]) (Ae E4 rfl rfl rfl) ?_
         refine Dn rfl rfl rfl rfl (by first | rfl | simp only [hg28, hg25, hg15, hg5] <;> rfl | simp [hg28, hg25, hg15, hg5]) (Ac H2 rfl rfl) ?_
         refine Dn rfl rfl rfl rfl (by first | rfl | simp only [hg28, hg25, hg15, hg5] <;> rfl | simp [hg28, hg25, hg15, hg5]) (Ae ld9 rfl rfl rfl) ?_
         refine Dn rfl rfl rfl rfl (by first | rfl | simp only [hg28, hg25, hg15, hg5] <;> rfl | simp [hg28, hg25, hg15, hg5]) (Dj st9 C1 rfl hk1.v rfl) ?_
         refine Dn rfl rfl rfl rfl (by first | rfl | simp only [hg28, hg25, hg15, hg5] <;> rfl | simp [hg28, hg25, hg15, hg5]) (A8 rfl) ?_
         refine DF (Bt rfl (by first | rfl | simp only [hg28, hg25, hg15, hg5] <;> rfl | simp [hg28, hg25, hg15, hg5]) rfl) ?_
         refine DF (Ag rfl) ?_
         refine Dn rfl rfl rfl rfl (by first | rfl | simp only [hg28, hg25, hg15, hg5] <;> rfl | simp [hg28, hg25, hg15, hg5]) (Ag rfl) ?_
         refine Dn rfl rfl rfl rfl (by first | rfl | simp only [hg28, hg25, hg15, hg5] <;> rfl | simp [hg28, hg25, hg15, hg5]) (Cm (q := 0) ok3 rfl rfl) ?_
         refine Dn rfl rfl rfl rfl (by first | rfl | simp only [hg28, hg25, hg15, hg5] <;> rfl | simp [hg28, hg25, hg15, hg5]) (Ag rfl) ?_
         refine Dx rfl rfl rfl rfl (by first | rfl | simp only [hg28, hg25, hg15, hg5] <;> rfl | simp [hg28, hg25, hg15, hg5]) ?_
         refine Dx rfl rfl rfl rfl (by first | rfl | simp only [hg28, hg25, hg15, hg5] <;> rfl | simp [hg28, hg25, hg15, hg5]) ?_
         refine Dx rfl rfl rfl rfl (by first | rfl | simp only [hg28, hg25, hg15, hg5] <;> rfl | simp [hg28, hg25, hg15, hg5]) ?_
         refine Dx rfl rfl rfl rfl (by first | rfl | simp only [hg28, hg25, hg15, hg5] <;> rfl | simp [hg28, hg25, hg15, hg5]) ?_
         refine Dx rfl rfl rfl rfl (by first | rfl | simp only [hg28, hg25, hg15, hg5] <;> rfl | simp [hg28, hg25, hg15, hg5]) ?_
         refine Dx rfl rfl rfl rfl (by first | rfl | simp only [hg28, hg25, hg15, hg5] <;> rfl | simp [hg28, hg25, hg15, hg5]) ?_
         refine Dx rfl rfl rfl rfl (by first | rfl | simp only [hg28, hg25, hg15, hg5] <;> rfl | simp [hg28, hg25, hg15, hg5]) ?_
         refine Lm (e := true) rfl rfl rfl rfl (by first | rfl | simp only [hg28, hg25, hg15, hg5] <;> rfl | simp [hg28, hg25, hg15, hg5]) rfl rfl ?_
         refine Dx rfl rfl rfl rfl (by first | rfl | simp only [hg28, hg25, hg15, hg5] <;> rfl | simp [hg28, hg25, hg15, hg5]) ?_
         refine Dn rfl rfl rfl rfl (by first | rfl | simp only [hg28, hg25, hg15, hg5] <;> rfl | simp [hg28, hg25, hg15, hg5]) (Bt rfl (by first | rfl | simp only [hg28, hg25, hg15, hg5] <;> rfl | simp [hg28, hg25, hg15, hg5]) rfl) ?_
         refine DF (Bt rfl (by first | rfl | simp only [hg28, hg25, hg15, hg5] <;> rfl | simp [hg28, hg25, hg15, hg5]) rfl) ?_
         refine Bl ?_
         exact ⟨⟨congrArg (fun b => some (AV.bool b)) (by unfold Vl; rw [hg5, hg15, hg25, Apc (by simpa using hg28)]; rfl), trivial⟩, sb, rfl⟩
    refine Ai rfl (fun h4 => ?_) (fun h4 => ?_)
    ·refine Ad (Aa (OA rfl (Ab ?_)))
     have hS : Ko k f = 70 := by rw [Ko, hs]; exact (if_neg (fun hh => Bool.noConfusion (h2.symm.trans hh))).trans (if_pos (by rw [hf2, hd2, M7, h4]; rfl))
     refine Ak ?_;exact ⟨_, rfl, _, σ, Aw.below hw (Below.rfl'.new nl _), nl, .same rfl, congrArg iV hS.symm, rfl⟩
    ·have hx4 : Vl k f.wide i2 a2 = false := h4
     refine Aj (Aa (O1 (A1 (q := 1) ok3 rfl rfl (by omega)) ?_))
     refine OM rfl (Ab ?_)
     refine ⟨hlt2, ⟨rfl, rfl, rfl, rfl, rfl, rfl, trivial⟩, rfl, by rw [hf2, hd2, M7, hx4]; rfl⟩
   ·have hge2 : f.wide.length <= i2 := by simpa using h3
    have hwb : M7 k f.wide f.wide 0 = false := by rw [hf2, List.drop_eq_nil_of_le hge2]; rfl
    refine Bf ?_;refine Ad (Ad ?_)
    refine Gv 1 (anns := [aP 0 1, aR 0 1, aP 0 0, aP 0 0, aR 0 0, aE 0 1, aE 1 2, aP 2 2]) A5 (Ar (l := [(243, [.mp (nx σ), slV eP 2 f.wide], (σ.new (Pn k.vars (f.text :: G6 f.hyps))), slV eP 2 (Ph (Jf k f) f.wide), (σ.new (Pn k.vars (f.text :: G6 f.hyps)))), (242, [slV eP 2 f.apart, slV eP 2 (Ph (Jf k f) f.wide)], (σ.new (Pn k.vars (f.text :: G6 f.hyps))), .bool (decide (f.apart = Ph (Jf k f) f.wide)), (σ.new (Pn k.vars (f.text :: G6 f.hyps))))]) ⟨f243 (nx σ) (Jf k f) f.wide (σ.new (Pn k.vars (f.text :: G6 f.hyps))) hmu hb3, f242 f.apart (Ph (Jf k f) f.wide) (σ.new (Pn k.vars (f.text :: G6 f.hyps))) (by have := Gx (p := fun p : Pr => !(Jf k f).has p.a || !(Jf k f).has p.b) (l := f.wide); unfold Ph; omega), trivial⟩) (by kernel_rfl) (by kernel_rfl) ?_
    refine DF (Ac Amp rfl rfl) (DF (Ae Akr rfl rfl rfl) (DF (Ag rfl) (DF (Ac Ac4 rfl rfl) (DF (Ae Akr rfl rfl rfl) (DT (A7 rfl rfl Ba) (DT (A7 rfl rfl Ba) (DF (A8 rfl) ?_)))))));refine Bl ?_
    refine ⟨(by intro e he; simp at he; subst he; exact .refl), ?_⟩
    refine Ai rfl (fun h4 => ?_) (fun h4 => ?_)
    ·refine Ad (Aa (OA rfl (Ab ?_)))
     have hS : Ko k f = 70 := by rw [Ko, hs]; exact (if_neg (fun hh => Bool.noConfusion (h2.symm.trans hh))).trans ((if_neg (fun hh => Bool.noConfusion (hwb.symm.trans hh))).trans (if_pos h4))
     refine Ak ?_;exact ⟨_, rfl, _, σ, Aw.below hw (Below.rfl'.new nl _), nl, .same rfl, congrArg iV hS.symm, rfl⟩
    ·refine Aj (Ad (Aa (OA rfl (Ab ?_))))
     have hS : Ko k f = 0 := by rw [Ko, hs]; exact (if_neg (fun hh => Bool.noConfusion (h2.symm.trans hh))).trans ((if_neg (fun hh => Bool.noConfusion (hwb.symm.trans hh))).trans (if_neg (fun hh => Bool.noConfusion (h4.symm.trans hh))))
     refine Ak ?_;exact ⟨_, rfl, _, σ, Aw.below hw (Below.rfl'.new nl _), nl, .same rfl, congrArg iV hS.symm, rfl⟩
theorem f283 (k : Nat) (σ : Sto) : Ah Ew 283 [.fn (.func k) [] []] σ fun v σ' => v = .fn (.func 284) [] [.pv [.fn (.func k) [] []]] /\ σ' = σ := by
 refine A2 Tryz.func283 rfl rfl fun hw hu0 => ?_
 refine Ad (Aa (Ax ld64 rfl rfl rfl (OA rfl (Ab (Ad (Aa (O1 (E8 rfl rfl) ?_)))))));refine OA rfl (Ab ?_);refine Ak (Bw hw rfl ?_);exact rfl
theorem f284 (k : Nat) (s : Str) (b : Bool) (σ : Sto) (hk : Ah Ew k [sV s] σ fun v σ' => v = .bool b /\ σ' = σ) : Ah Ew 284 [sV s, .pv [.fn (.func k) [] []]] σ fun v σ' => v = .bool (!b) /\ σ' = σ := by
 refine A2 Tryz.func284 rfl rfl fun hw hu0 => ?_
 refine Ad (Aa (OA rfl (Ab (Ad (Aa (O1 (Ae ld64 rfl rfl rfl) (OM rfl ?_)))))));refine Aq rfl rfl rfl rfl hk (O1 (A8 rfl) (OA rfl (Ab ?_)));refine Ak (Bw hw rfl ?_);exact rfl
structure Stm where
 kind : Int
 label : Str
 text : List Str
 proof : List Str
def eSt (s : Stm) : List AV := [iV s.kind, sV s.label, A9 s.text, A9 s.proof]
theorem f282 (p : Stm -> Bool) (l : List Stm) (k : Nat) (cap : List AV) (σ : Sto) (hb : l.length < 1000000) (hk : ∀ a ∈ l, Ah Ew k ([.agg (eSt a)] ++ cap) σ fun v σ' => v = .bool (p a) /\ σ' = σ) : Ah Ew 282 [slV eSt 4 l, .fn (.func k) [] cap] σ fun v σ' => v = iV (Bk p l 0) /\ σ' = σ := by
 refine A2 Tryz.func282 rfl rfl fun hw hu0 => ?_
 refine Ad (Aa (OA rfl (Ab (Ad (Ad (Aa (OM rfl ?_)))))));refine O1 (As Am0 rfl) (OM rfl (Ab (Am ?_)));refine Cg l.length (fun i0 => [(0, slV eSt 4 l), (1, .fn (.func k) [] cap), (7, iV (.ofNat l.length)), (8, iV (.ofNat i0))]) (fun i0 σ0 => σ0 = σ /\ Bk p l 0 = Bk p (l.drop i0) i0) ⟨rfl, rfl, rfl, rfl, trivial⟩ ⟨rfl, rfl⟩ ?_
 rintro i0 σ0 hi0 ⟨rfl, hf0⟩;refine Ad (Aa (O1 (Bb ok3 rfl rfl) (Ab (Ad ?_))));refine Ai rfl (fun h1 => ?_) (fun h1 => ?_)
 ·have hlt0 : i0 < l.length := by simpa using h1
  obtain ⟨a0, ha0⟩ := B3 hlt0;have hd0 := Bn ha0;refine Aj (Ad (Am (Ad (Aa (OM rfl (OA rfl (Ab ?_)))))));refine Ad (Aa (OM rfl (OM rfl (OM rfl (O1 (A3 Am1 (fun _ => rfl) rfl rfl ha0) ?_)))))
  refine O1 (Ae Vk rfl rfl rfl) (Aq rfl rfl rfl rfl (hk a0 (List.mem_of_getElem? ha0)) (Ab ?_));refine Ai rfl (fun h2 => ?_) (fun h2 => ?_)
  ·refine Ad (Aa (OM rfl (OA rfl (Ab ?_))));refine Ak (Bw hw rfl ?_)
   exact (by rw [hf0, hd0]; simp only [Bk, h2, cond_true]; rfl)
  ·refine Aj (Aa (O1 (A1 (q := 1) ok3 rfl rfl (by omega)) ?_))
   refine OM rfl (Ab ?_)
   refine ⟨hlt0, ⟨rfl, rfl, rfl, rfl, trivial⟩, rfl, by rw [hf0, hd0]; simp only [Bk, h2, cond_false]⟩
 ·have hge0 : l.length <= i0 := by simpa using h1
  refine Bf ?_;refine Ad (Aa (OA rfl (Ab ?_)));refine Ak (Bw hw rfl ?_)
  exact (by rw [hf0, List.drop_eq_nil_of_le hge0]; rfl)
theorem f267 (p : Stm -> Bool) (l : List Stm) (k : Nat) (cap : List AV) (σ : Sto) (hb : l.length < 1000000) (hk : ∀ a ∈ l, Ah Ew k ([.agg (eSt a)] ++ cap) σ fun v σ' => v = .bool (p a) /\ σ' = σ) : Ah Ew 267 [slV eSt 4 l, .fn (.func k) [] cap] σ fun v σ' => v = .bool (l.any p) /\ σ' = σ := by
 refine A2 Tryz.func267 rfl rfl fun hw hu0 => ?_
 refine Ad (Aa (OA rfl (Ab (Ad (Aa (OM rfl (OM rfl ?_)))))));refine Aq rfl rfl rfl rfl (f282 p l k cap σ hb hk) (O1 (Gi (q := 0) ok3 rfl rfl) (OA rfl (Ab ?_)));refine Ak (Bw hw rfl ?_);exact congrArg AV.bool (E1 l)
theorem labX : Kl [2] [120] = true := by kernel_rfl
theorem symX : Kl [2, 3] [120] = true := by kernel_rfl
theorem L7 {f f' : Nat} {a a' : List AV} {s s' t : Sto} {v : AV} {r : List (Nat × List AV × Sto × AV × Sto)} {o : Option (AV × Sto)} (h : a' ≠ a) (k : Gf r f' a' t = o) : Gf ((f, a, s, v, s') :: r) f' a' t = o := by
 simp only [Gf]; rw [if_neg (fun hh => h hh.2.1)]; exact k
def stX (s : Str) : List AV := [iV 7, sV [120], A9 [[120]], A9 [s]]
theorem f269 (s : Str) (b : Bool) (σ : Sto) (hp : Ah Ew 285 [sV s] σ fun v σ' => v = .bool b /\ σ' = σ) : Ah Ew 269 [.agg (stX s)] σ fun v σ' => v = .bool b /\ σ' = σ := by
 refine A2 Tryz.func269 rfl rfl fun hw hu0 => ?_
 refine Ad (Aa (Ax Vk rfl rfl rfl (OA rfl (Ab (Ad (Ad (Aa ?_)))))));refine O1 (Ac M3 rfl rfl) (O1 (Ae ld3 rfl rfl rfl) (O1 (Bb (q := 1) ok3 rfl rfl) (OM rfl ?_)));refine Co 3 _ ?_ rfl rfl rfl rfl rfl (Av rfl) (fun hg => ?_) (fun hg => ?_) ?_
 rotate_left
 ·refine On hg (Ac M3 rfl rfl) (On hg (Ae ld3 rfl rfl rfl) (On hg (Cm (q := 9) ok3 rfl rfl) (Ab ?_)));refine ⟨rfl, ?_, ?_⟩
  ·exact sb
  ·exact rfl
 ·refine Of hg (Of hg (Of hg (Ab ?_)));exact ⟨rfl, sb⟩
 refine Ab ?_;refine Ai rfl (fun h1 => ?_) (fun h1 => ?_)
 ·exact absurd h1 (by decide)
 ·refine Aj (Ad (Aa (O1 (Ac M3 rfl rfl) (O1 (Ae ld3 rfl rfl rfl) (O1 (I1 Ap7 rfl rfl (by decide) (n := 7) rfl) ?_)))))
  refine O1 (Ae Ai3 rfl rfl rfl) (B6 Ap6 Ai3 rfl (fun _ => rfl) rfl rfl rfl rfl ?_)
  refine Ab (Ad (Ad (Aa (O1 (Ac Ac9 rfl rfl) (O1 (Ae ld4 rfl rfl rfl) (OM rfl ?_))))));refine Cv 4 _ ?_ rfl rfl rfl rfl rfl (Av rfl) (fun hg => ?_) (fun hg => ?_) ?_
  rotate_left
  ·refine On hg (Ac Ac8 rfl rfl) (On hg (Ae ld9 rfl rfl rfl) (B0 rfl rfl rfl (by rw [hg]; rfl) rfl rfl rfl rfl (f209 [120] _) ?_))
   refine On hg (A8 rfl) (Ab ?_);refine ⟨rfl, ?_, ?_⟩
   ·exact sb
   ·exact rfl
  ·exact absurd hg (by decide)
  refine OM rfl ?_;refine Co 8 _ ?_ rfl rfl rfl rfl rfl (Av rfl) (fun hg => ?_) (fun hg => ?_) ?_
  rotate_left
  ·refine On hg (Ac Ac9 rfl rfl) (On hg (Ae ld4 rfl rfl rfl) (On hg (A8 rfl) (On hg (Ag rfl) ?_)))
   refine Cv 3 _ ?_ rfl rfl rfl rfl rfl (Iu rfl rfl rfl rfl (by rw [hg]; rfl)) (fun hg => ?_) (fun hg => ?_) ?_
   rotate_left
   ·refine On hg (Ac Ac8 rfl rfl) (On hg (Ae ld9 rfl rfl rfl) (On hg (En (q := []) ok9 rfl rfl) (Ab ?_)));refine ⟨rfl, ?_, ?_⟩
    ·exact sb
    ·exact rfl
   ·refine Of hg (Of hg (Of hg (Ab ?_)));exact ⟨rfl, sb⟩
   refine Ab ?_;refine ⟨rfl, ?_, ?_⟩
   ·exact sb
   ·exact rfl
  ·refine Of hg (Of hg (Of hg (Of hg (Ou (Ou (Ou (Of hg ?_)))))));refine Ab ?_;exact ⟨rfl, sb⟩
  refine OM rfl ?_;refine Co 6 _ ?_ rfl rfl rfl rfl rfl (Av rfl) (fun hg => ?_) (fun hg => ?_) ?_
  rotate_left
  ·refine On hg (Ac M4 rfl rfl) (On hg (Ae Cf rfl rfl rfl) (On hg (As D0 rfl) (On hg (Ac Ao9 rfl rfl) (On hg (Ae ld3 rfl rfl rfl) (On hg (Bb ok3 rfl rfl) (Ab ?_))))));refine ⟨rfl, ?_, ?_⟩
   ·exact sb
   ·exact rfl
  ·refine Of hg (Of hg (Of hg (Of hg (Of hg (Of hg (Ab ?_))))));exact ⟨rfl, sb⟩
  refine OM rfl ?_;refine Co 6 _ ?_ rfl rfl rfl rfl rfl (Av rfl) (fun hg => ?_) (fun hg => ?_) ?_
  rotate_left
  ·refine On hg (Ac M4 rfl rfl) (On hg (Ae Cf rfl rfl rfl) (On hg (As D0 rfl) (On hg (Ac Ai4 rfl rfl) (On hg (Ae ld3 rfl rfl rfl) (On hg (Cm ok3 rfl rfl) (Ab ?_))))));refine ⟨rfl, ?_, ?_⟩
   ·exact sb
   ·exact rfl
  ·refine Of hg (Of hg (Of hg (Of hg (Of hg (Of hg (Ab ?_))))));exact ⟨rfl, sb⟩
  refine Ab ?_;refine Ai rfl (fun h2 => ?_) (fun h2 => ?_)
  ·exact absurd h2 (by rw [labX]; decide)
  ·refine Aj (Ad (Aa (OA rfl (Ab ?_))));refine Aas [(2, .bool b)] σ ?_ ?_
   ·rcases Bool.eq_false_or_eq_true (true) with hg6 | hg6
    ·rcases Bool.eq_false_or_eq_true (b) with hg14 | hg14
     ·rcases Bool.eq_false_or_eq_true (true) with hg18 | hg18
      ·refine Gu (anns := [aP 0 1, aR 0 1, aP 0 0, aE 0 1, aE 1 2, aP 2 2, aP 2 2, aP 2 3, aR 2 3, aP 2 2, aE 2 3, aE 3 4, aP 4 4, aP 4 4, aP 4 4, aP 4 4, aR 4 4, aP 4 4, aP 4 4, aP 4 4, aR 4 4, aR 4 4, aP 4 4, aP 4 4, aP 4 4, aP 4 4]) A5 (Ar (l := [(283, [.fn (.func 207) [] []], σ, .fn (.func 284) [] [.pv [.fn (.func 207) [] []]], σ), (31, [A9 [[120]], .fn (.func 284) [] [.pv [.fn (.func 207) [] []]]], σ, .bool false, σ), (283, [.fn (.func 285) [] []], σ, .fn (.func 284) [] [.pv [.fn (.func 285) [] []]], σ), (31, [A9 [s], .fn (.func 284) [] [.pv [.fn (.func 285) [] []]]], σ, .bool (!b), σ)]) ⟨f283 207 σ, (by have := f31 (fun w => !Kl [2, 3] w) [[120]] 284 [.pv [.fn (.func 207) [] []]] σ (by simp) (fun a _ => f284 207 a _ σ (Akt a σ)); simpa [symX] using this), f283 285 σ, (by have := f31 (fun _ => !b) [s] 284 [.pv [.fn (.func 285) [] []]] σ (by simp) (fun a ha => by simp at ha; subst ha; exact f284 285 a b σ hp); simpa using this), trivial⟩) (by kernel_rfl) ?_
       refine DF (Ac M4 rfl rfl) (DF (Ae Cf rfl rfl rfl) (DF (Ag rfl) (DT (A7 rfl rfl Ba) (DT (A7 rfl rfl (Cz (by decide) Ba)) ?_))))
       refine DF (A8 rfl) (DF (Ag rfl) ?_)
       refine Dn rfl rfl rfl rfl (by first | rfl | simp only [hg18, hg14, hg6] <;> rfl | simp [hg18, hg14, hg6]) (Ac To rfl rfl) ?_
       refine Dn rfl rfl rfl rfl (by first | rfl | simp only [hg18, hg14, hg6] <;> rfl | simp [hg18, hg14, hg6]) (Ae Cf rfl rfl rfl) ?_
       refine Dn rfl rfl rfl rfl (by first | rfl | simp only [hg18, hg14, hg6] <;> rfl | simp [hg18, hg14, hg6]) (Ag rfl) ?_
       refine K8 (e := true) rfl rfl rfl rfl (by first | rfl | simp only [hg18, hg14, hg6] <;> rfl | simp [hg18, hg14, hg6]) rfl rfl (A7 rfl rfl (L7 (by intro h; simp at h) (Cz (by decide) Ba))) ?_
       refine K8 (e := true) rfl rfl rfl rfl (by first | rfl | simp only [hg18, hg14, hg6] <;> rfl | simp [hg18, hg14, hg6]) rfl rfl (A7 rfl rfl (Cz (by decide) (L7 (by intro h; simp at h) (Cz (by decide) Ba)))) ?_
       refine Dn rfl rfl rfl rfl (by first | rfl | simp only [hg18, hg14, hg6] <;> rfl | simp [hg18, hg14, hg6]) (A8 rfl) ?_
       refine DF (Bx rfl (by first | rfl | simp only [hg18, hg14, hg6] <;> rfl | simp [hg18, hg14, hg6]) rfl) ?_
       refine DF (Ag rfl) ?_
       refine Dn rfl rfl rfl rfl (by first | rfl | simp only [hg18, hg14, hg6] <;> rfl | simp [hg18, hg14, hg6]) (Ac M3 rfl rfl) ?_
       refine Dn rfl rfl rfl rfl (by first | rfl | simp only [hg18, hg14, hg6] <;> rfl | simp [hg18, hg14, hg6]) (Ae ld3 rfl rfl rfl) ?_
       refine Dn rfl rfl rfl rfl (by first | rfl | simp only [hg18, hg14, hg6] <;> rfl | simp [hg18, hg14, hg6]) (Dq (q := 7) ok3 rfl rfl) ?_
       refine Dn rfl rfl rfl rfl (by first | rfl | simp only [hg18, hg14, hg6] <;> rfl | simp [hg18, hg14, hg6]) (Ag rfl) ?_
       refine Dx rfl rfl rfl rfl (by first | rfl | simp only [hg18, hg14, hg6] <;> rfl | simp [hg18, hg14, hg6]) ?_
       refine Dx rfl rfl rfl rfl (by first | rfl | simp only [hg18, hg14, hg6] <;> rfl | simp [hg18, hg14, hg6]) ?_
       refine Dx rfl rfl rfl rfl (by first | rfl | simp only [hg18, hg14, hg6] <;> rfl | simp [hg18, hg14, hg6]) ?_
       refine Dx rfl rfl rfl rfl (by first | rfl | simp only [hg18, hg14, hg6] <;> rfl | simp [hg18, hg14, hg6]) ?_
       refine Dn rfl rfl rfl rfl (by first | rfl | simp only [hg18, hg14, hg6] <;> rfl | simp [hg18, hg14, hg6]) (Bx rfl (by first | rfl | simp only [hg18, hg14, hg6] <;> rfl | simp [hg18, hg14, hg6]) rfl) ?_
       refine DF (Bx rfl (by first | rfl | simp only [hg18, hg14, hg6] <;> rfl | simp [hg18, hg14, hg6]) rfl) ?_
       refine DF (Bv rfl) (Bl ?_)
       exact ⟨rfl, by simp, ⟨⟨congrArg (fun b => some (AV.bool b)) (by first | exact absurd hg6 (by decide) | exact absurd hg18 (by decide) | exact hg14.symm | rfl | (simp [hg14]; done)), trivial⟩, rfl⟩⟩
      ·refine Gu (anns := [aP 0 1, aR 0 1, aP 0 0, aE 0 1, aE 1 2, aP 2 2, aP 2 2, aP 2 3, aR 2 3, aP 2 2, aE 2 3, aE 3 4, aP 4 4, aP 4 4, aP 4 4, aP 4 4, aR 4 4, aP 4 4, aP 4 4, aP 4 4, aR 4 4, aR 4 4, aP 4 4, aP 4 4, aP 4 4, aP 4 4]) A5 (Ar (l := [(283, [.fn (.func 207) [] []], σ, .fn (.func 284) [] [.pv [.fn (.func 207) [] []]], σ), (31, [A9 [[120]], .fn (.func 284) [] [.pv [.fn (.func 207) [] []]]], σ, .bool false, σ), (283, [.fn (.func 285) [] []], σ, .fn (.func 284) [] [.pv [.fn (.func 285) [] []]], σ), (31, [A9 [s], .fn (.func 284) [] [.pv [.fn (.func 285) [] []]]], σ, .bool (!b), σ)]) ⟨f283 207 σ, (by have := f31 (fun w => !Kl [2, 3] w) [[120]] 284 [.pv [.fn (.func 207) [] []]] σ (by simp) (fun a _ => f284 207 a _ σ (Akt a σ)); simpa [symX] using this), f283 285 σ, (by have := f31 (fun _ => !b) [s] 284 [.pv [.fn (.func 285) [] []]] σ (by simp) (fun a ha => by simp at ha; subst ha; exact f284 285 a b σ hp); simpa using this), trivial⟩) (by kernel_rfl) ?_
       refine DF (Ac M4 rfl rfl) (DF (Ae Cf rfl rfl rfl) (DF (Ag rfl) (DT (A7 rfl rfl Ba) (DT (A7 rfl rfl (Cz (by decide) Ba)) ?_))))
       refine DF (A8 rfl) (DF (Ag rfl) ?_)
       refine Dn rfl rfl rfl rfl (by first | rfl | simp only [hg18, hg14, hg6] <;> rfl | simp [hg18, hg14, hg6]) (Ac To rfl rfl) ?_
       refine Dn rfl rfl rfl rfl (by first | rfl | simp only [hg18, hg14, hg6] <;> rfl | simp [hg18, hg14, hg6]) (Ae Cf rfl rfl rfl) ?_
       refine Dn rfl rfl rfl rfl (by first | rfl | simp only [hg18, hg14, hg6] <;> rfl | simp [hg18, hg14, hg6]) (Ag rfl) ?_
       refine K8 (e := true) rfl rfl rfl rfl (by first | rfl | simp only [hg18, hg14, hg6] <;> rfl | simp [hg18, hg14, hg6]) rfl rfl (A7 rfl rfl (L7 (by intro h; simp at h) (Cz (by decide) Ba))) ?_
       refine K8 (e := true) rfl rfl rfl rfl (by first | rfl | simp only [hg18, hg14, hg6] <;> rfl | simp [hg18, hg14, hg6]) rfl rfl (A7 rfl rfl (Cz (by decide) (L7 (by intro h; simp at h) (Cz (by decide) Ba)))) ?_
       refine Dn rfl rfl rfl rfl (by first | rfl | simp only [hg18, hg14, hg6] <;> rfl | simp [hg18, hg14, hg6]) (A8 rfl) ?_
       refine DF (Bx rfl (by first | rfl | simp only [hg18, hg14, hg6] <;> rfl | simp [hg18, hg14, hg6]) rfl) ?_
       refine DF (Ag rfl) ?_
       refine Dn rfl rfl rfl rfl (by first | rfl | simp only [hg18, hg14, hg6] <;> rfl | simp [hg18, hg14, hg6]) (Ac M3 rfl rfl) ?_
       refine Dn rfl rfl rfl rfl (by first | rfl | simp only [hg18, hg14, hg6] <;> rfl | simp [hg18, hg14, hg6]) (Ae ld3 rfl rfl rfl) ?_
       refine Dn rfl rfl rfl rfl (by first | rfl | simp only [hg18, hg14, hg6] <;> rfl | simp [hg18, hg14, hg6]) (Dq (q := 7) ok3 rfl rfl) ?_
       refine Dn rfl rfl rfl rfl (by first | rfl | simp only [hg18, hg14, hg6] <;> rfl | simp [hg18, hg14, hg6]) (Ag rfl) ?_
       refine Dn rfl rfl rfl rfl (by first | rfl | simp only [hg18, hg14, hg6] <;> rfl | simp [hg18, hg14, hg6]) (Ac To rfl rfl) ?_
       refine Dn rfl rfl rfl rfl (by first | rfl | simp only [hg18, hg14, hg6] <;> rfl | simp [hg18, hg14, hg6]) (Ae Cf rfl rfl rfl) ?_
       refine Dn rfl rfl rfl rfl (by first | rfl | simp only [hg18, hg14, hg6] <;> rfl | simp [hg18, hg14, hg6]) (As D0 rfl) ?_
       refine Dn rfl rfl rfl rfl (by first | rfl | simp only [hg18, hg14, hg6] <;> rfl | simp [hg18, hg14, hg6]) (Dq (q := 0) ok3 rfl rfl) ?_
       refine Dn rfl rfl rfl rfl (by first | rfl | simp only [hg18, hg14, hg6] <;> rfl | simp [hg18, hg14, hg6]) (Bt rfl (by first | rfl | simp only [hg18, hg14, hg6] <;> rfl | simp [hg18, hg14, hg6]) rfl) ?_
       refine DF (Bx rfl (by first | rfl | simp only [hg18, hg14, hg6] <;> rfl | simp [hg18, hg14, hg6]) rfl) ?_
       refine DF (Bv rfl) (Bl ?_)
       exact ⟨rfl, by simp, ⟨⟨congrArg (fun b => some (AV.bool b)) (by first | exact absurd hg6 (by decide) | exact absurd hg18 (by decide) | exact hg14.symm | rfl | (simp [hg14]; done)), trivial⟩, rfl⟩⟩
     ·refine Gu (anns := [aP 0 1, aR 0 1, aP 0 0, aE 0 1, aE 1 2, aP 2 2, aP 2 2, aP 2 3, aR 2 3, aP 2 2, aE 2 3, aE 3 4, aP 4 4, aP 4 4, aP 4 4, aP 4 4, aR 4 4, aP 4 4, aP 4 4, aP 4 4, aR 4 4, aR 4 4, aP 4 4, aP 4 4, aP 4 4, aP 4 4]) A5 (Ar (l := [(283, [.fn (.func 207) [] []], σ, .fn (.func 284) [] [.pv [.fn (.func 207) [] []]], σ), (31, [A9 [[120]], .fn (.func 284) [] [.pv [.fn (.func 207) [] []]]], σ, .bool false, σ), (283, [.fn (.func 285) [] []], σ, .fn (.func 284) [] [.pv [.fn (.func 285) [] []]], σ), (31, [A9 [s], .fn (.func 284) [] [.pv [.fn (.func 285) [] []]]], σ, .bool (!b), σ)]) ⟨f283 207 σ, (by have := f31 (fun w => !Kl [2, 3] w) [[120]] 284 [.pv [.fn (.func 207) [] []]] σ (by simp) (fun a _ => f284 207 a _ σ (Akt a σ)); simpa [symX] using this), f283 285 σ, (by have := f31 (fun _ => !b) [s] 284 [.pv [.fn (.func 285) [] []]] σ (by simp) (fun a ha => by simp at ha; subst ha; exact f284 285 a b σ hp); simpa using this), trivial⟩) (by kernel_rfl) ?_
      refine DF (Ac M4 rfl rfl) (DF (Ae Cf rfl rfl rfl) (DF (Ag rfl) (DT (A7 rfl rfl Ba) (DT (A7 rfl rfl (Cz (by decide) Ba)) ?_))))
      refine DF (A8 rfl) (DF (Ag rfl) ?_)
      refine Dn rfl rfl rfl rfl (by first | rfl | simp only [hg14, hg6] <;> rfl | simp [hg14, hg6]) (Ac To rfl rfl) ?_
      refine Dn rfl rfl rfl rfl (by first | rfl | simp only [hg14, hg6] <;> rfl | simp [hg14, hg6]) (Ae Cf rfl rfl rfl) ?_
      refine Dn rfl rfl rfl rfl (by first | rfl | simp only [hg14, hg6] <;> rfl | simp [hg14, hg6]) (Ag rfl) ?_
      refine K8 (e := true) rfl rfl rfl rfl (by first | rfl | simp only [hg14, hg6] <;> rfl | simp [hg14, hg6]) rfl rfl (A7 rfl rfl (L7 (by intro h; simp at h) (Cz (by decide) Ba))) ?_
      refine K8 (e := true) rfl rfl rfl rfl (by first | rfl | simp only [hg14, hg6] <;> rfl | simp [hg14, hg6]) rfl rfl (A7 rfl rfl (Cz (by decide) (L7 (by intro h; simp at h) (Cz (by decide) Ba)))) ?_
      refine Dn rfl rfl rfl rfl (by first | rfl | simp only [hg14, hg6] <;> rfl | simp [hg14, hg6]) (A8 rfl) ?_
      refine DF (Bx rfl (by first | rfl | simp only [hg14, hg6] <;> rfl | simp [hg14, hg6]) rfl) ?_
      refine DF (Ag rfl) ?_
      refine Dx rfl rfl rfl rfl (by first | rfl | simp only [hg14, hg6] <;> rfl | simp [hg14, hg6]) ?_
      refine Dx rfl rfl rfl rfl (by first | rfl | simp only [hg14, hg6] <;> rfl | simp [hg14, hg6]) ?_
      refine Dx rfl rfl rfl rfl (by first | rfl | simp only [hg14, hg6] <;> rfl | simp [hg14, hg6]) ?_
      refine Dx rfl rfl rfl rfl (by first | rfl | simp only [hg14, hg6] <;> rfl | simp [hg14, hg6]) ?_
      refine Du (Du (Du (Du ?_)))
      refine Dx rfl rfl rfl rfl (by first | rfl | simp only [hg14, hg6] <;> rfl | simp [hg14, hg6]) ?_
      refine DF (Bt rfl (by first | rfl | simp only [hg14, hg6] <;> rfl | simp [hg14, hg6]) rfl) ?_
      refine DF (Bv rfl) (Bl ?_)
      exact ⟨rfl, by simp, ⟨⟨congrArg (fun b => some (AV.bool b)) (by first | exact absurd hg6 (by decide) | exact absurd hg18 (by decide) | exact hg14.symm | rfl | (simp [hg14]; done)), trivial⟩, rfl⟩⟩
    ·refine Gu (anns := [aP 0 1, aR 0 1, aP 0 0, aE 0 1, aE 1 2, aP 2 2, aP 2 2, aP 2 3, aR 2 3, aP 2 2, aE 2 3, aE 3 4, aP 4 4, aP 4 4, aP 4 4, aP 4 4, aR 4 4, aP 4 4, aP 4 4, aP 4 4, aR 4 4, aR 4 4, aP 4 4, aP 4 4, aP 4 4, aP 4 4]) A5 (Ar (l := [(283, [.fn (.func 207) [] []], σ, .fn (.func 284) [] [.pv [.fn (.func 207) [] []]], σ), (31, [A9 [[120]], .fn (.func 284) [] [.pv [.fn (.func 207) [] []]]], σ, .bool false, σ), (283, [.fn (.func 285) [] []], σ, .fn (.func 284) [] [.pv [.fn (.func 285) [] []]], σ), (31, [A9 [s], .fn (.func 284) [] [.pv [.fn (.func 285) [] []]]], σ, .bool (!b), σ)]) ⟨f283 207 σ, (by have := f31 (fun w => !Kl [2, 3] w) [[120]] 284 [.pv [.fn (.func 207) [] []]] σ (by simp) (fun a _ => f284 207 a _ σ (Akt a σ)); simpa [symX] using this), f283 285 σ, (by have := f31 (fun _ => !b) [s] 284 [.pv [.fn (.func 285) [] []]] σ (by simp) (fun a ha => by simp at ha; subst ha; exact f284 285 a b σ hp); simpa using this), trivial⟩) (by kernel_rfl) ?_
     refine DF (Ac M4 rfl rfl) (DF (Ae Cf rfl rfl rfl) (DF (Ag rfl) (DT (A7 rfl rfl Ba) (DT (A7 rfl rfl (Cz (by decide) Ba)) ?_))))
     refine DF (A8 rfl) (DF (Ag rfl) ?_)
     refine Dx rfl rfl rfl rfl (by first | rfl | simp only [hg6] <;> rfl | simp [hg6]) ?_
     refine Dx rfl rfl rfl rfl (by first | rfl | simp only [hg6] <;> rfl | simp [hg6]) ?_
     refine Dx rfl rfl rfl rfl (by first | rfl | simp only [hg6] <;> rfl | simp [hg6]) ?_
     refine Lm (e := true) rfl rfl rfl rfl (by first | rfl | simp only [hg6] <;> rfl | simp [hg6]) rfl rfl ?_
     refine Lm (e := true) rfl rfl rfl rfl (by first | rfl | simp only [hg6] <;> rfl | simp [hg6]) rfl rfl ?_
     refine Dx rfl rfl rfl rfl (by first | rfl | simp only [hg6] <;> rfl | simp [hg6]) ?_
     refine DF (Bt rfl (by first | rfl | simp only [hg6] <;> rfl | simp [hg6]) rfl) ?_
     refine DF (Ag rfl) ?_
     refine Dx rfl rfl rfl rfl (by first | rfl | simp only [hg6] <;> rfl | simp [hg6]) ?_
     refine Dx rfl rfl rfl rfl (by first | rfl | simp only [hg6] <;> rfl | simp [hg6]) ?_
     refine Dx rfl rfl rfl rfl (by first | rfl | simp only [hg6] <;> rfl | simp [hg6]) ?_
     refine Dx rfl rfl rfl rfl (by first | rfl | simp only [hg6] <;> rfl | simp [hg6]) ?_
     refine Du (Du (Du (Du ?_)))
     refine Dx rfl rfl rfl rfl (by first | rfl | simp only [hg6] <;> rfl | simp [hg6]) ?_
     refine DF (Bt rfl (by first | rfl | simp only [hg6] <;> rfl | simp [hg6]) rfl) ?_
     refine DF (Bv rfl) (Bl ?_)
     exact ⟨rfl, by simp, ⟨⟨congrArg (fun b => some (AV.bool b)) (by first | exact absurd hg6 (by decide) | exact absurd hg18 (by decide) | exact hg14.symm | rfl | (simp [hg14]; done)), trivial⟩, rfl⟩⟩
   refine Ak (Bw hw rfl ?_);exact rfl
theorem f268 (s : Str) (b : Bool) (σ : Sto) (hp : Ah Ew 285 [sV s] σ fun v σ' => v = .bool b /\ σ' = σ) : Ah Ew 268 [.agg (stX s)] σ fun v σ' => v = .bool (!b) /\ σ' = σ := by
 refine A2 Tryz.func268 rfl rfl fun hw hu0 => ?_
 refine Ad (Aa (Ax Vk rfl rfl rfl (OA rfl (Ab (Ad (Aa (O1 (Ae Vk rfl rfl rfl) ?_)))))));refine Aq rfl rfl rfl rfl (f269 s b σ hp) (O1 (A8 rfl) (OA rfl (Ab ?_)));refine Ak (Bw hw rfl ?_);exact rfl
theorem Akw {N : Nat} : ∀ m : SM Str, Ia N (Ct sV m) = true := fun m => Aar (fun _ => rfl) m
theorem f218 (a b va : Nat) (M N : SM Str) (σ : Sto) (ha : σ.get a = some (.map 9 (Ct sV M) va)) (hb : Bg sV σ b N) (hab : a ≠ b) (sM : SM.Srt M) (sN : SM.Srt N) :
  Ah Ew 218 [.mp a, .mp b] σ fun v σ' => v = Bd /\ σ' = σ.set a (.map 9 (Ct sV (SM.over N M)) (va + N.length)) := by
 refine A2 Tryz.func218 rfl rfl fun hw hu0 => ?_
 refine T_itv fun hi => ?_
 obtain ⟨vb, hb⟩ := hb;have hla : a < nx σ := (hw _ _ ha).1;have hlb : b < nx σ := (hw _ _ hb).1;refine Ad (Aa (OM rfl (O1 (Aex Aa1 rfl hb) (Ab (Am ?_)))));refine E9 (fun q : SM Str × SM Str => [(0, .mp a), (7, .it (nx σ))])
  (fun q σ0 => (∃ cur, σ0.get (nx σ) = some (.iter (some b) vb (Ct sV q.1) cur)) /\ σ0.get a = some (.map 9 (Ct sV q.2) (va + (N.length - q.1.length))) /\ q.1.length <= N.length /\ nx σ <= nx σ0 /\ (∀ c, c < nx σ -> c ≠ a -> σ0.get c = σ.get c) /\ SM.Srt q.2 /\ SM.Key1 q.1 /\ (q.1 = N -> q.2 = M) /\ ∀ s, (q.1.get s).or (q.2.get s) = (N.get s).or (M.get s))
  (fun q => q.1.length) (N, M) ⟨rfl, rfl, trivial⟩
  ⟨⟨none, by rw [Sto.get_new, if_pos rfl]⟩, by rw [Sto.get_new, if_neg (by omega), ha, Nat.sub_self]; rfl, nl, by rw [Ap]; omega, fun c hc _ => by rw [Sto.get_new, if_neg (by omega)], sM, sN.key1, fun _ => rfl, fun _ => rfl⟩ ?_
 rintro ⟨left, M1⟩ σ0 ⟨⟨cur, hit⟩, hM, hln, hn, hk, hs, hk1, hid, hg⟩;simp only at hit hM hln hs hk1 hid hg;refine Ad ?_
 refine Ame rfl rfl rfl hit (by show (match σ0.get b with | some (.map _ _ v) => Nat.beq v vb | _ => false) = true; rw [hk b hlb (Ne.symm hab), hb]; exact Nat.beq_refl _) (fun h0 => ?_) (fun p hp => ?_)
 ·have h0' : left = [] := by cases left with
   | nil => rfl
   | cons x l => cases h0
  subst h0';refine O1 (Ao rfl rfl) (Ab (Ad ?_))
  refine Ai rfl (fun h1 => by cases h1) (fun h1 => ?_)
  refine Bf ?_
  have hO : M1 = SM.over N M := hs.ext (SM.Srt.over sM) fun s => by rw [SM.get_over sN.key1, ← hg s]; simp [SM.get]
  subst hO
  refine ⟨_, rfl, Bd, σ.set a (.map 9 (Ct sV (SM.over N M)) (va + N.length)), Aw.setMap hw hi ha (Akw _) ?_ (by rw [An]; exact hn) (fun c hc hne => ?_) ?_, by rw [An]; exact nl, .same rfl, rfl, rfl⟩
  ·cases N with
   | nil => exact .inr ⟨rfl, rfl⟩
   | cons x l => exact .inl (by simp only [List.length_cons]; omega)
  ·rw [Sto.get_set, if_neg (by omega)]; exact hk c hc hne
  ·rw [Sto.get_set, if_neg (by omega), hM]; simp
 ·obtain ⟨q, hq, rfl⟩ := Rc hp;obtain ⟨q1, q2, q3⟩ := Yl hk1 hq;obtain ⟨_, _, q4⟩ := Pd hq
  have hM' : (σ0.set (nx σ) (.iter (some b) vb (Ct sV q.2) (some (kS q.1.1, sV q.1.2)))).get a = some (.map 9 (Ct sV M1) (va + (N.length - left.length))) := by rw [Sto.get_set, if_neg (by omega)]; exact hM
  refine O1 (Ao rfl rfl) (Ab (Ad ?_))
  refine Ai rfl (fun h1 => ?_) (fun h1 => by cases h1)
  refine Aj (Am (Ad (Aa (O1 (Aey rfl (by rw [Sto.get_set, if_pos rfl]) (by rw [Sto.get_set, if_neg (by omega), hk b hlb (Ne.symm hab)]; exact hb)) ?_))))
  refine O1 (Ao rfl rfl) (O1 (Ao rfl rfl) (OA rfl (OA rfl (Ab (Aa (OM rfl (OM rfl ?_)))))));refine OM rfl (O1 (Fj (v := q.1.2) st9 Aa1 rfl hM' rfl rfl (fun te k1 k2 => G3 k1 k2)) ?_)
  refine Ab ?_
  refine ⟨(q.2, M1.put q.1.1 q.1.2), by show q.2.length < left.length; omega, ⟨rfl, rfl, trivial⟩, ⟨_, by rw [Sto.get_set, if_neg (by omega), Sto.get_set, if_pos rfl]⟩, ?_, by show q.2.length <= N.length; omega, by rw [An, An]; exact hn, fun c hc hne => ?_, hs.put, q1, fun hh => ?_, fun s => ?_⟩
  ·rw [Sto.get_set, if_pos rfl]
   show some _ = some (AO.map 9 _ (va + (N.length - q.2.length)))
   congr 2; omega
  ·rw [Sto.get_set, if_neg (by omega), Sto.get_set, if_neg (by omega)]; exact hk c hc hne
  ·have : q.2.length = N.length := congrArg List.length hh;omega
  ·show (SM.get q.2 s).or ((M1.put q.1.1 q.1.2).get s) = _
   rw [← hg s, q3 s, SM.get_put]
   by_cases hs : s = q.1.1
   ·subst hs; simp [q2]
   ·simp [hs]
def Kn.fr (k : Kn) (s : Str) : Kn := { k with frames := k.frames.put s true }
def Jg (k : Kn) (nh : Nat) : List Hp -> Nat -> SM Bool -> SM Str -> Int × SM Str
 | [], _, _, ty => (0, ty)
 | h :: r, i, lab, ty => if (!decide (V3 k lab ty h (decide (Int.ofNat nh <= Int.ofNat i)) = 0)) = true then (V3 k lab ty h (decide (Int.ofNat nh <= Int.ofNat i)), ty)
  else Jg k nh r (i + 1) (lab.put h.label true) (if h.floating = true then ty.put (h.text.tail.headD []) (h.text.headD []) else ty)
def prfB (pw : Str -> Bool) (f : Fr) : Bool := decide ((0 : Int) < Int.ofNat f.proof.length) && ((!f.thm || decide ((8000 : Int) < Int.ofNat f.proof.length)) || f.proof.any (fun s => !pw s))
def Fr.all (f : Fr) : List Hp := [f.hyps, f.dummies].flatten
def Kn.hyps' (k : Kn) (l : List Hp) : Kn := { k with hyps := l.foldl (fun m h => m.put h.label h) k.hyps }
def Ahi (f : Fr) : List Hp := Ea (fun h => h.floating) f.hyps
def Aja (f : Fr) (before : List Hp) : List Hp := (Ahi f).drop (Gy before (Ahi f))
def knF (k : Kn) (f : Fr) : Kn := { (k.fr f.label).hyps' f.all with types := SM.over (Jg (k.fr f.label) f.hyps.length f.all 0 [] []).2 k.types }
def Fb (pw : Str -> Bool) (k : Kn) (f : Fr) (before : List Hp) : Int :=
 if (!Kl [2] f.label) = true then 2
 else if (((k.hyps.get f.label).isSome || k.isSym f.label) || k.frames.has f.label) = true then 6
 else if (decide ((40 : Int) < Int.ofNat f.hyps.length) || decide ((40 : Int) < Int.ofNat f.dummies.length)) = true then 4
 else if (!decide ((Jg (k.fr f.label) f.hyps.length f.all 0 [] []).1 = 0)) = true then (Jg (k.fr f.label) f.hyps.length f.all 0 [] []).1
 else if (!decide ((k.fr f.label).textF f.text = 0)) = true then (k.fr f.label).textF f.text
 else if (!decide (Ko (k.fr f.label) f = 0)) = true then Ko (k.fr f.label) f
 else if prfB pw f = true then 2
 else if ((Aja f before).any fun h => ((k.fr f.label).hyps.get h.label).isSome) = true then 7 else 0
structure FrB (f : Fr) : Prop where
 h : f.hyps.length < 1000000
 a : f.all.length < 1000000
 t : f.text.length < 1000000
 x : ∀ h ∈ f.all, h.text.length < 1000000
 w : f.wide.length < 1000000
 p : f.proof.length < 1000000
def Ajb (m : Nat) (σ σ' : Sto) : Prop := nx σ <= nx σ' /\ ∀ b, b < nx σ -> (b < m ∨ m + 5 <= b) -> σ'.get b = σ.get b
theorem nx1 {σ : Sto} {n : Nat} {o : AO} (h : nx σ = n) : nx (σ.new o) = n + 1 := by rw [Ap, h]
theorem Cr {ρ : Al} {σ : Sto} {Rr : Rec} {t n kt sz : Nat} {agg : Bool} {z : AV} (hi : mpI Ew.P t = some (kt, z, sz, agg)) (hn : nx σ = n) : Bu Ew Rr (.makeMap t none) ρ σ (.mp n) (σ.new (.map kt [] 0)) := by subst hn; exact Mu hi
theorem Gc.fr {σ σ' : Sto} {m : Nat} {k : Kn} {s : Str} {ver : Nat} (hk : Gc σ m k) (hw : WFS σ) (hf : σ'.get (m + 2) = some (.map 9 (Ct bV (k.frames.put s true)) ver)) (hg : ∀ b, b < nx σ -> b ≠ m + 2 -> σ'.get b = σ.get b) : Gc σ' m (k.fr s) :=
 ⟨hk.c.of_get (hg _ (hk.c.lt hw) (by omega)), hk.v.of_get (hg _ (hk.v.lt hw) (by omega)), ⟨ver, hf⟩, hk.h.of_get (hg _ (hk.h.lt hw) (by omega)), hk.t.of_get (hg _ (hk.t.lt hw) (by omega))⟩
theorem Gc.hi {σ : Sto} {m a : Nat} {k : Kn} {O : AO} (hk : Gc σ m k) (h : m + 5 <= a) : Gc (σ.set a O) m k := ⟨hk.c.set (by omega), hk.v.set (by omega), hk.f.set (by omega), hk.h.set (by omega), hk.t.set (by omega)⟩
theorem Gc.hp {σ : Sto} {m ver : Nat} {k : Kn} {h : Hp} (hk : Gc σ m k) : Gc (σ.set (m + 3) (.map 9 (Ct hV (k.hyps.put h.label h)) ver)) m { k with hyps := k.hyps.put h.label h } :=
 ⟨hk.c.set (by omega), hk.v.set (by omega), hk.f.set (by omega), Bg.put, hk.t.set (by omega)⟩
theorem Gc.ty {σ : Sto} {m ver : Nat} {k : Kn} {ty : SM Str} (hk : Gc σ m k) : Gc (σ.set (m + 4) (.map 9 (Ct sV ty) ver)) m { k with types := ty } :=
 ⟨hk.c.set (by omega), hk.v.set (by omega), hk.f.set (by omega), hk.h.set (by omega), Bg.put⟩
structure Akx (σ σ0 : Sto) (m : Nat) (k : Kn) (lab : SM Bool) (ty : SM Str) : Prop where
 n : nx σ0 = nx σ + 2
 g : ∀ b, b < nx σ -> b ≠ m + 2 -> σ0.get b = σ.get b
 k : Gc σ0 m k
 l : E3 σ0 (nx σ) lab
 t : Bg sV σ0 (nx σ + 1) ty
 s : SM.Srt ty
theorem Akx.up {σ σ0 : Sto} {m : Nat} {k : Kn} {lab : SM Bool} {ty : SM Str} (h : Akx σ σ0 m k lab ty) : Ajb m σ σ0 := ⟨by rw [h.n]; omega, fun b hb hm => h.g b hb (by omega)⟩
theorem Afg {k : Kn} {lab : SM Bool} {ty : SM Str} {h : Hp} {du : Bool} (h0 : V3 k lab ty h du = 0) (hf : h.floating = true) : ∃ a b, h.text = [a, b] := by
 have h2 : h.text.length = 2 := by
  unfold V3 at h0
  split at h0
  ·cases h0
  ·rename_i hb
   simp [Ap9, hf] at hb
   omega
 match h.text, h2 with
 | [a, b], _ => exact ⟨a, b, rfl⟩
theorem Ahj (k : Kn) (l : List Hp) (h : Hp) : k.hyps' (l ++ [h]) = { k.hyps' l with hyps := (k.hyps' l).hyps.put h.label h } := by
 unfold Kn.hyps'; rw [List.foldl_append]; rfl
theorem FrB.ess {f : Fr} (h : FrB f) : ∀ t ∈ f.text :: G6 f.hyps, t.length < 1000000 := fun t ht => by
 rcases List.mem_cons.1 ht with rfl | ht
 ·exact h.t
 ·obtain ⟨x, hx, rfl⟩ := List.mem_map.1 ht
  exact h.x x (List.mem_flatten.2 ⟨f.hyps, by simp, (List.mem_filter.1 hx).1⟩)
theorem Am7 {e : Int} (h : (!decide (e = 0)) = false) : e = 0 := by simpa using h
theorem Apd {ρ : Al} {σ : Sto} {Rr : Rec} {x : Operand} {lo hi mx : Option Operand} {own : List Hp} {n : Nat} (hx : A0 Ew ρ x = some (slV eH 3 own)) (h1 : Gd Ew ρ lo = some (some (iV (.ofNat n)))) (h2 : Gd Ew ρ hi = some (some (iV (.ofNat own.length)))) (h3 : Gd Ew ρ mx = some (some (iV (.ofNat own.length)))) (hn : n <= own.length) :
  Bu Ew Rr (.slice 75 x lo hi mx) ρ σ (.sv ((own.drop n).flatMap eH) 3 (own.drop n).length (some (own.length - n))) σ := by
 have hb : C6 own.length none (some (iV (.ofNat n))) (some (iV (.ofNat own.length))) (some (iV (.ofNat own.length))) = some (n, own.length, some (own.length - n)) := by
  have h2 : Nat.ble n own.length = true := Nat.ble_eq_true_of_le hn;have h3 : Nat.ble own.length own.length = true := Nat.ble_eq_true_of_le nl;simp only [C6, iV, I3, h2, Ls, h3, cond_true, Bool.and_self]
 have := Agp (Rr := Rr) (σ := σ) (lo := lo) (hi := hi) (mx := mx) H0 Oh hx h1 h2 h3 hb hn nl;rw [List.take_length] at this
 rwa [List.length_drop]
theorem f182 (pw : Str -> Bool) (hpw : ∀ s σ, Ah Ew 214 [sV s] σ fun v σ' => v = .bool (!pw s) /\ σ' = σ) (m : Nat) (k : Kn) (f : Fr) (before : List Hp) (σ : Sto) (hk : Gc σ m k) (hsr : SM.Srt k.types) (hB : FrB f) (hbe : before.length < 1000000) : Ah Ew 182 [knV m, .agg (eF f), slV eH 3 before] σ fun v σ' => v = iV (Fb pw k f before) /\ Ajb m σ σ' /\ (Fb pw k f before = 0 -> Gc σ' m (knF k f) /\ SM.Srt (knF k f).types) := by
 refine A2 Tryz.func182 rfl rfl fun hw hu0 => ?_
 obtain ⟨vf, hvf⟩ := id hk.f;have hm5 : m + 4 < nx σ := hk.t.lt hw;have hba := hB.a;refine Ad (Aa (Ax Jd rfl rfl rfl (Ax Oe rfl rfl rfl (OA rfl (Ab (Ad (Ad ?_)))))));refine Aa (O1 (Ac Rg rfl rfl) (O1 (Ae ld9 rfl rfl rfl) (Aq rfl rfl rfl rfl (f209 f.label _) (O1 (A8 rfl) (Ab ?_)))));refine Ai rfl (fun h1 => ?_) (fun h1 => ?_)
 ·refine Ad (Aa (OA rfl (Ab ?_)));have hE : Fb pw k f before = 2 := (if_pos h1);refine Ec fun hw9 => ?_
  refine Ak ?_
  exact ⟨_, rfl, _, _, Aw.of_same hw9 nl (fun _ _ => rfl), nl, .same rfl, congrArg iV hE.symm, ⟨nl, fun _ _ _ => rfl⟩, fun hh => absurd (hE.symm.trans hh) (by decide)⟩
 ·refine Aj (Ad ?_);refine My 7 zH (hcs (k.hyps.get f.label)) [(8, .bool (k.hyps.get f.label).isSome)] (Tu _) rfl (fun hw => ?_) ?_
  ·refine Gv 1 (anns := [aR 0 1, aP 0 1, aP 0 1, aR 0 1, aP 0 1, aR 0 1, aR 0 1, aP 0 1, aP 0 1, aP 0 2, aE 0 1, aE 1 2, aP 2 2]) A5 (Ar (l := []) trivial) (by kernel_rfl) (by kernel_rfl) ?_
   refine DF (Ae Jd rfl rfl rfl) (DF (Bz rfl) (DF (Ac Tn rfl rfl) (DF (Ae Afa rfl rfl rfl) (DF (Ac Rg rfl rfl) (DF (Ae ld9 rfl rfl rfl) (DF (Tv rfl hk.h rfl) (DF (Ag rfl) ?_)))))));refine DF (Ao rfl rfl) (DF (Ao rfl rfl) (DT (Dt Rh) (DT (A6 (vs := zH) (vs' := hcs (k.hyps.get f.label)) Dy rfl rfl (Bp (Iw _)) Cd (Ey (Iw _))) (DF (Bv rfl) (Bl ?_)))))
   exact ⟨(by intro e he; simp at he; rcases he with rfl | rfl <;> first | exact .refl | exact Th hw), ⟨rfl, trivial⟩, sb, rfl, rfl⟩
  refine Hg [(48, .bool (((k.hyps.get f.label).isSome || k.isSym f.label) || k.frames.has f.label))] ?_ ?_
  ·rcases Bool.eq_false_or_eq_true ((k.hyps.get f.label).isSome) with hg1 | hg1
   ·refine Cq (anns := [aP 0 0, aP 0 0, aR 0 0, aP 0 0, aR 0 0, aE 0 1, aP 1 1, aP 1 1, aR 1 1, aP 1 1, aP 1 1, aR 1 1, aP 1 1, aR 1 1, aR 1 1, aP 1 1]) A5 (Ar (l := [(208, [knV m, sV f.label], σ, .bool (k.isSym f.label), σ)]) ⟨Afc m k f.label σ hk, trivial⟩) (by kernel_rfl) (by kernel_rfl) ?_
    refine DF (Ag rfl) (DF (Ag rfl) ?_)
    refine Dx rfl rfl rfl rfl (by first | rfl | simp only [hg1] <;> rfl | simp [hg1]) ?_
    refine Dx rfl rfl rfl rfl (by first | rfl | simp only [hg1] <;> rfl | simp [hg1]) ?_
    refine Dx rfl rfl rfl rfl (by first | rfl | simp only [hg1] <;> rfl | simp [hg1]) ?_
    refine La rfl rfl rfl rfl (by first | rfl | simp only [hg1] <;> rfl | simp [hg1]) rfl rfl ?_
    refine DF (Bx rfl (by first | rfl | simp only [hg1] <;> rfl | simp [hg1]) rfl) ?_
    refine DF (Ag rfl) ?_
    refine Dx rfl rfl rfl rfl (by first | rfl | simp only [hg1] <;> rfl | simp [hg1]) ?_
    refine Dx rfl rfl rfl rfl (by first | rfl | simp only [hg1] <;> rfl | simp [hg1]) ?_
    refine Dx rfl rfl rfl rfl (by first | rfl | simp only [hg1] <;> rfl | simp [hg1]) ?_
    refine Dx rfl rfl rfl rfl (by first | rfl | simp only [hg1] <;> rfl | simp [hg1]) ?_
    refine Dx rfl rfl rfl rfl (by first | rfl | simp only [hg1] <;> rfl | simp [hg1]) ?_
    refine Dx rfl rfl rfl rfl (by first | rfl | simp only [hg1] <;> rfl | simp [hg1]) ?_
    refine Dx rfl rfl rfl rfl (by first | rfl | simp only [hg1] <;> rfl | simp [hg1]) ?_
    refine DF (Bx rfl (by first | rfl | simp only [hg1] <;> rfl | simp [hg1]) rfl) ?_
    refine Bl ?_
    exact ⟨⟨congrArg (fun b => some (AV.bool b)) (by first | rfl | simp only [hg1] <;> rfl | simp [hg1]), trivial⟩, sb, rfl⟩
   ·rcases Bool.eq_false_or_eq_true (k.isSym f.label) with hg7 | hg7
    ·refine Cq (anns := [aP 0 0, aP 0 0, aR 0 0, aP 0 0, aR 0 0, aE 0 1, aP 1 1, aP 1 1, aR 1 1, aP 1 1, aP 1 1, aR 1 1, aP 1 1, aR 1 1, aR 1 1, aP 1 1]) A5 (Ar (l := [(208, [knV m, sV f.label], σ, .bool (k.isSym f.label), σ)]) ⟨Afc m k f.label σ hk, trivial⟩) (by kernel_rfl) (by kernel_rfl) ?_
     refine DF (Ag rfl) (DF (Ag rfl) ?_)
     refine Dn rfl rfl rfl rfl (by first | rfl | simp only [hg7, hg1] <;> rfl | simp [hg7, hg1]) (Ae Jd rfl rfl rfl) ?_
     refine Dn rfl rfl rfl rfl (by first | rfl | simp only [hg7, hg1] <;> rfl | simp [hg7, hg1]) (Ac Rg rfl rfl) ?_
     refine Dn rfl rfl rfl rfl (by first | rfl | simp only [hg7, hg1] <;> rfl | simp [hg7, hg1]) (Ae ld9 rfl rfl rfl) ?_
     refine Mz rfl rfl rfl rfl (by first | rfl | simp only [hg7, hg1] <;> rfl | simp [hg7, hg1]) rfl rfl (A7 rfl rfl Ba) ?_
     refine DF (Bt rfl (by first | rfl | simp only [hg7, hg1] <;> rfl | simp [hg7, hg1]) rfl) ?_
     refine DF (Ag rfl) ?_
     refine Dx rfl rfl rfl rfl (by first | rfl | simp only [hg7, hg1] <;> rfl | simp [hg7, hg1]) ?_
     refine Dx rfl rfl rfl rfl (by first | rfl | simp only [hg7, hg1] <;> rfl | simp [hg7, hg1]) ?_
     refine Dx rfl rfl rfl rfl (by first | rfl | simp only [hg7, hg1] <;> rfl | simp [hg7, hg1]) ?_
     refine Dx rfl rfl rfl rfl (by first | rfl | simp only [hg7, hg1] <;> rfl | simp [hg7, hg1]) ?_
     refine Dx rfl rfl rfl rfl (by first | rfl | simp only [hg7, hg1] <;> rfl | simp [hg7, hg1]) ?_
     refine Dx rfl rfl rfl rfl (by first | rfl | simp only [hg7, hg1] <;> rfl | simp [hg7, hg1]) ?_
     refine Dx rfl rfl rfl rfl (by first | rfl | simp only [hg7, hg1] <;> rfl | simp [hg7, hg1]) ?_
     refine DF (Bx rfl (by first | rfl | simp only [hg7, hg1] <;> rfl | simp [hg7, hg1]) rfl) ?_
     refine Bl ?_
     exact ⟨⟨congrArg (fun b => some (AV.bool b)) (by first | rfl | simp only [hg7, hg1] <;> rfl | simp [hg7, hg1]), trivial⟩, sb, rfl⟩
    ·refine Cq (anns := [aP 0 0, aP 0 0, aR 0 0, aP 0 0, aR 0 0, aE 0 1, aP 1 1, aP 1 1, aR 1 1, aP 1 1, aP 1 1, aR 1 1, aP 1 1, aR 1 1, aR 1 1, aP 1 1]) A5 (Ar (l := [(208, [knV m, sV f.label], σ, .bool (k.isSym f.label), σ)]) ⟨Afc m k f.label σ hk, trivial⟩) (by kernel_rfl) (by kernel_rfl) ?_
     refine DF (Ag rfl) (DF (Ag rfl) ?_)
     refine Dn rfl rfl rfl rfl (by first | rfl | simp only [hg7, hg1] <;> rfl | simp [hg7, hg1]) (Ae Jd rfl rfl rfl) ?_
     refine Dn rfl rfl rfl rfl (by first | rfl | simp only [hg7, hg1] <;> rfl | simp [hg7, hg1]) (Ac Rg rfl rfl) ?_
     refine Dn rfl rfl rfl rfl (by first | rfl | simp only [hg7, hg1] <;> rfl | simp [hg7, hg1]) (Ae ld9 rfl rfl rfl) ?_
     refine Mz rfl rfl rfl rfl (by first | rfl | simp only [hg7, hg1] <;> rfl | simp [hg7, hg1]) rfl rfl (A7 rfl rfl Ba) ?_
     refine DF (Bt rfl (by first | rfl | simp only [hg7, hg1] <;> rfl | simp [hg7, hg1]) rfl) ?_
     refine DF (Ag rfl) ?_
     refine Dn rfl rfl rfl rfl (by first | rfl | simp only [hg7, hg1] <;> rfl | simp [hg7, hg1]) (Ae Jd rfl rfl rfl) ?_
     refine Dn rfl rfl rfl rfl (by first | rfl | simp only [hg7, hg1] <;> rfl | simp [hg7, hg1]) (Bz rfl) ?_
     refine Dn rfl rfl rfl rfl (by first | rfl | simp only [hg7, hg1] <;> rfl | simp [hg7, hg1]) (Ac Wm rfl rfl) ?_
     refine Dn rfl rfl rfl rfl (by first | rfl | simp only [hg7, hg1] <;> rfl | simp [hg7, hg1]) (Ae E4 rfl rfl rfl) ?_
     refine Dn rfl rfl rfl rfl (by first | rfl | simp only [hg7, hg1] <;> rfl | simp [hg7, hg1]) (Ac Rg rfl rfl) ?_
     refine Dn rfl rfl rfl rfl (by first | rfl | simp only [hg7, hg1] <;> rfl | simp [hg7, hg1]) (Ae ld9 rfl rfl rfl) ?_
     refine Dn rfl rfl rfl rfl (by first | rfl | simp only [hg7, hg1] <;> rfl | simp [hg7, hg1]) (Dj st9 C1 rfl hk.f rfl) ?_
     refine DF (Bt rfl (by first | rfl | simp only [hg7, hg1] <;> rfl | simp [hg7, hg1]) rfl) ?_
     refine Bl ?_
     exact ⟨⟨congrArg (fun b => some (AV.bool b)) (by first | rfl | simp only [hg7, hg1] <;> rfl | simp [hg7, hg1]), trivial⟩, sb, rfl⟩
  refine Ai rfl (fun h2 => ?_) (fun h2 => ?_)
  ·refine Ad (Aa (OA rfl (Ab ?_)));have hE : Fb pw k f before = 6 := ((if_neg (fun hh => Bool.noConfusion (h1.symm.trans hh))).trans (if_pos h2))
   refine Ec fun hw9 => ?_
   refine Ak ?_
   exact ⟨_, rfl, _, _, Aw.of_same hw9 nl (fun _ _ => rfl), nl, .same rfl, congrArg iV hE.symm, ⟨nl, fun _ _ _ => rfl⟩, fun hh => absurd (hE.symm.trans hh) (by decide)⟩
  ·refine Aj (Ad (Ad (Aa (O1 (Ac G4 rfl rfl) (O1 (Ae Kk rfl rfl rfl) (O1 (As Fs rfl) (O1 (Cm (q := 40) ok3 rfl rfl) ?_)))))));refine OM rfl ?_;refine Co 4 _ ?_ rfl rfl rfl rfl rfl (Av rfl) (fun hg => ?_) (fun hg => ?_) ?_
   rotate_left
   ·refine On hg (Ac Ul rfl rfl) (On hg (Ae Kk rfl rfl rfl) (On hg (As Fs rfl) (On hg (Cm (q := 40) ok3 rfl rfl) (Ab ?_))));refine ⟨rfl, ?_, ?_⟩
    ·exact sb
    ·exact rfl
   ·refine Of hg (Of hg (Of hg (Of hg (Ab ?_))));exact ⟨rfl, sb⟩
   refine Ab ?_;refine Ai rfl (fun h3 => ?_) (fun h3 => ?_)
   ·refine Ad (Aa (OA rfl (Ab ?_)));have hE : Fb pw k f before = 4 := ((if_neg (fun hh => Bool.noConfusion (h1.symm.trans hh))).trans ((if_neg (fun hh => Bool.noConfusion (h2.symm.trans hh))).trans (if_pos h3)))
    refine Ec fun hw9 => ?_
    refine Ak ?_
    exact ⟨_, rfl, _, _, Aw.of_same hw9 nl (fun _ _ => rfl), nl, .same rfl, congrArg iV hE.symm, ⟨nl, fun _ _ _ => rfl⟩, fun hh => absurd (hE.symm.trans hh) (by decide)⟩
   ·refine Aj (Ad ?_)
    refine Cq (anns := [aR 0 0, aP 0 0, aP 0 0, aR 0 0, aP 0 0, aR 0 0, aE 0 1]) A5 (Ar (l := []) trivial) (by kernel_rfl) (by kernel_rfl) ?_
    refine DF (Ae Jd rfl rfl rfl) (DF (Bz rfl) (DF (Ac Wm rfl rfl) (DF (Ae E4 rfl rfl rfl) (DF (Ac Rg rfl rfl) (DF (Ae ld9 rfl rfl rfl) (DT (Fj (v := true) st9 C1 rfl hvf rfl rfl (fun te k1 k2 => by first | exact G2 k1 k2 | exact G3 k1 k2 | exact Hu k1 k2 | exact Hv k1 k2 | exact Gj k1 k2 rfl)) ?_))))))
    refine Bl (Ad (Aa (O1 (Cr (n := nx σ) C1 (An σ _ _)) (O1 (Cr (n := nx σ + 1) Aa1 (nx1 (An σ _ _))) (O1 (Cl bd307 rfl rfl) (B6 zi307 Amz rfl (fun _ => rfl) rfl rfl rfl rfl ?_))))))
    refine Ab (Ad (Ad (Aa (O1 (Ac G4 rfl rfl) (O1 (Ae Kk rfl rfl rfl) (O1 (Ac Ul rfl rfl) (O1 (Ae Kk rfl rfl rfl) ?_)))))))
    refine E2 (Br Ai2 byW rfl rfl rfl) (Gq (len := 2)) rfl rfl (Aq rfl rfl rfl rfl (f210 [f.hyps, f.dummies] _ (by simp) hB.a) ?_)
    refine O1 (As Fs rfl) (OM rfl (Ab ?_))
    have hinit0 : ∃ lab ty, Akx σ (((σ.set (m + 2) (.map 9 (Ct bV (k.frames.put f.label true)) (vf + 1))).new (.map 9 [] 0)).new (.map 9 [] 0)) m (k.fr f.label) lab ty /\ Jg (k.fr f.label) f.hyps.length f.all 0 [] [] = Jg (k.fr f.label) f.hyps.length (f.all.drop 0) 0 lab ty /\ ∀ h ∈ f.all.take 0, h.floating = true -> ∃ a b, h.text = [a, b] := by
     have hg : ∀ b, b < nx σ -> b ≠ m + 2 -> (((σ.set (m + 2) (.map 9 (Ct bV (k.frames.put f.label true)) (vf + 1))).new (.map 9 [] 0)).new (.map 9 [] 0)).get b = σ.get b := fun b h8 h9 => by
      rw [Sto.get_new, if_neg (by rw [Ap, An]; omega), Sto.get_new, if_neg (by rw [An]; omega), Sto.get_set, if_neg (by omega)]
     refine ⟨[], [], ⟨by rw [Ap, Ap, An], hg, hk.fr (ver := vf + 1) hw ?_ hg, ⟨0, ?_⟩, ⟨0, ?_⟩, .nil⟩, rfl, fun h hh => by simp at hh⟩
     ·rw [Sto.get_new, if_neg (by rw [Ap, An]; omega), Sto.get_new, if_neg (by rw [An]; omega), Sto.get_set, if_pos rfl]
     ·rw [Sto.get_new, if_neg (by rw [Ap, An]; omega), Sto.get_new, if_pos (by rw [An])]; rfl
     ·rw [Sto.get_new, if_pos (by rw [Ap, An])]; rfl
    refine Am ?_;refine Cg f.all.length (fun i0 => [(2, slV eH 3 before), (3, .pv [knV m]), (4, .pv (eF f)), (9, .pv [.mp (nx σ), .mp (nx σ + 1)]), (73, slV eH 3 f.all), (74, iV (.ofNat f.all.length)), (75, iV (.ofNat i0))]) (fun i0 σ0 => ∃ lab ty, Akx σ σ0 m (k.fr f.label) lab ty /\ Jg (k.fr f.label) f.hyps.length f.all 0 [] [] = Jg (k.fr f.label) f.hyps.length (f.all.drop i0) i0 lab ty /\ ∀ h ∈ f.all.take i0, h.floating = true -> ∃ a b, h.text = [a, b]) ⟨rfl, rfl, rfl, rfl, rfl, rfl, rfl, trivial⟩ hinit0 ?_
    rintro i0 σ0 hi0 ⟨lab, ty, ⟨hn0, hg0, hk0, hl0, ht0, hs0⟩, hf0, h20⟩;refine Ad (Aa (O1 (Bb ok3 rfl rfl) (Ab (Ad ?_))));refine Ai rfl (fun h4 => ?_) (fun h4 => ?_)
    ·have hlt0 : i0 < f.all.length := by simpa using h4
     obtain ⟨a0, ha0⟩ := B3 hlt0;have hd0 := Bn ha0;have hne0 : a0 ∈ f.all := List.mem_of_getElem? ha0;obtain ⟨vl, hvl⟩ := id hl0;obtain ⟨vt0, hvt0⟩ := id ht0;refine Aj (Ad (Am (Ad (Aa (OM rfl (O1 (A3 H0 (fun _ => rfl) rfl rfl ha0) ?_))))))
     refine O1 (Ae Dy rfl rfl rfl) (K9 Rh Dy rfl rfl (fun _ => rfl) rfl (fun _ => rfl) rfl rfl rfl rfl rfl ?_)
     refine Ab (Ad (Ad (Aa (O1 (Ae Jd rfl rfl rfl) (O1 (Ae Amz rfl rfl rfl) (O1 (Ae Dy rfl rfl rfl) (OM rfl ?_)))))));refine O1 (Ac G4 rfl rfl) (O1 (Ae Kk rfl rfl rfl) (O1 (As Fs rfl) (O1 (Gi ok3 rfl rfl) (Aq rfl rfl rfl rfl (f211 m (k.fr f.label) (nx σ) (nx σ + 1) lab ty a0 _ σ0 hk0 hl0 ht0 (hB.x a0 (List.mem_of_getElem? ha0))) (OA rfl (Ab (Ad ?_)))))));refine Aa (OM rfl (O1 (C9 (q := 0) Jp rfl rfl) (Ab ?_)));refine Ai rfl (fun h5 => ?_) (fun h5 => ?_)
     ·refine Ad (Aa (OM rfl (OA rfl (Ab ?_))))
      have hH : Jg (k.fr f.label) f.hyps.length f.all 0 [] [] = ((V3 (k.fr f.label) lab ty a0 (decide (Int.ofNat f.hyps.length <= Int.ofNat i0))), ty) := by rw [hf0, hd0, Jg, if_pos h5]
      have hup : Ajb m σ σ0 := Akx.up ⟨hn0, hg0, hk0, hl0, ht0, hs0⟩
      have hE : Fb pw k f before = (V3 (k.fr f.label) lab ty a0 (decide (Int.ofNat f.hyps.length <= Int.ofNat i0))) := ((if_neg (fun hh => Bool.noConfusion (h1.symm.trans hh))).trans ((if_neg (fun hh => Bool.noConfusion (h2.symm.trans hh))).trans ((if_neg (fun hh => Bool.noConfusion (h3.symm.trans hh))).trans (by rw [hH]; exact if_pos h5))))
      refine Ec fun hw9 => ?_
      refine Ak ?_
      exact ⟨_, rfl, _, _, Aw.of_same hw9 nl (fun _ _ => rfl), (by rw [hn0]; omega), .same rfl, congrArg iV hE.symm, hup, fun hh => by have h9 : (!decide ((V3 (k.fr f.label) lab ty a0 (decide (Int.ofNat f.hyps.length <= Int.ofNat i0))) = 0)) = true := h5; rw [hE.symm.trans hh] at h9; exact absurd h9 (by decide)⟩
     ·refine Aj (Ad (Aa (O1 (Ac Ai1 rfl rfl) (O1 (Ae E4 rfl rfl rfl) (O1 (Ac Fk rfl rfl) (O1 (Ae ld9 rfl rfl rfl) (O1 (Fj (v := true) st9 C1 rfl hvl rfl rfl (fun te k1 k2 => by first | exact G2 k1 k2 | exact G3 k1 k2 | exact Hu k1 k2 | exact Hv k1 k2 | exact Gj k1 k2 rfl)) ?_)))))))
      refine Ab (Ad (Aa (O1 (Ac Io rfl rfl) (O1 (Ae ld4 rfl rfl rfl) (Ab ?_)))));refine Ai rfl (fun h6 => ?_) (fun h6 => ?_)
      ·have h6f : a0.floating = true := h6;obtain ⟨t0, t1, htx⟩ := Afg (Am7 h5) h6f
       have htw : ∀ h ∈ f.all.take (i0 + 1), h.floating = true -> ∃ a b, h.text = [a, b] := fun h hh hf => by
        rw [Cx ha0] at hh
        rcases List.mem_append.1 hh with hh | hh
        ·exact h20 h hh hf
        ·cases List.mem_singleton.1 hh; exact ⟨t0, t1, htx⟩
       refine Cq (anns := [aP 0 0, aR 0 0, aP 0 0, aR 0 0, aP 0 0, aR 0 0, aP 0 0, aR 0 0, aP 0 0, aR 0 0, aE 0 1]) A5 (Ar (l := []) trivial) (by kernel_rfl) (by kernel_rfl) ?_
       refine DF (Ac Ac7 rfl rfl) (DF (Ae Afb rfl rfl rfl) (DF (Ac Da rfl rfl) (DF (Ae Cf rfl rfl rfl) (DF (A3 C5 (fun _ => rfl) rfl rfl (by rw [htx]; rfl : a0.text[1]? = some t1) (i := 1)) ?_))))
       refine DF (Ae ld9 rfl rfl rfl) (DF (Ac Da rfl rfl) (DF (Ae Cf rfl rfl rfl) (DF (A3 C5 (fun _ => rfl) rfl rfl (by rw [htx]; rfl : a0.text[0]? = some t0) (i := 0)) ?_)))
       refine DF (Ae ld9 rfl rfl rfl) (DT (Fj (v := t0) st9 Aa1 rfl (by rw [Sto.get_set, if_neg (by omega)]; exact hvt0) rfl rfl (fun te k1 k2 => by first | exact G2 k1 k2 | exact G3 k1 k2 | exact Hu k1 k2 | exact Hv k1 k2 | exact Gj k1 k2 rfl)) ?_)
       refine Bl (Aa (O1 (A1 (q := 1) ok3 rfl rfl (by omega)) ?_))
       refine OM rfl (Ab ?_)
       refine ⟨hlt0, ⟨rfl, rfl, rfl, rfl, rfl, rfl, rfl, trivial⟩, ⟨lab.put a0.label true, ty.put t1 t0, ⟨by rw [An, An]; exact hn0, fun b h7 h8 => by rw [Sto.get_set, if_neg (by omega), Sto.get_set, if_neg (by omega)]; exact hg0 b h7 h8, (hk0.hi (by omega)).hi (by omega), Bg.set Bg.put (by omega), Bg.put, hs0.put⟩, by rw [hf0, hd0, Jg, if_neg (fun hh => Bool.noConfusion (h5.symm.trans hh)), if_pos h6f, htx]; rfl, htw⟩⟩
      ·have h6f : a0.floating = false := h6
       have htw : ∀ h ∈ f.all.take (i0 + 1), h.floating = true -> ∃ a b, h.text = [a, b] := fun h hh hf => by
        rw [Cx ha0] at hh
        rcases List.mem_append.1 hh with hh | hh
        ·exact h20 h hh hf
        ·cases List.mem_singleton.1 hh; rw [h6f] at hf; cases hf
       refine Aj (Aa (O1 (A1 (q := 1) ok3 rfl rfl (by omega)) ?_))
       refine OM rfl (Ab ?_)
       refine ⟨hlt0, ⟨rfl, rfl, rfl, rfl, rfl, rfl, rfl, trivial⟩, ⟨lab.put a0.label true, ty, ⟨by rw [An]; exact hn0, fun b h7 h8 => by rw [Sto.get_set, if_neg (by omega)]; exact hg0 b h7 h8, hk0.hi (by omega), Bg.put, ht0.set (by omega), hs0⟩, by rw [hf0, hd0, Jg, if_neg (fun hh => Bool.noConfusion (h5.symm.trans hh)), if_neg (by rw [h6f]; simp)], htw⟩⟩
    ·have hge0 : f.all.length <= i0 := by simpa using h4
     have hH : Jg (k.fr f.label) f.hyps.length f.all 0 [] [] = (0, ty) := by rw [hf0, List.drop_eq_nil_of_le hge0]; rfl
     have hup : Ajb m σ σ0 := Akx.up ⟨hn0, hg0, hk0, hl0, ht0, hs0⟩;have hb2 : ∀ t ∈ f.text :: G6 f.hyps, t.length < 1000000 := hB.ess
     have hfl : ∀ h ∈ f.hyps, h.floating = true -> ∃ a b, h.text = [a, b] := fun h hh => h20 h (by rw [List.take_of_length_le hge0]; simp [Fr.all, hh])
     have hrl : (Aja f before).length < 4611686018427387904 := by have := hB.h; have h9 := Gx (p := fun h : Hp => h.floating) (l := f.hyps); unfold Aja Ahi; rw [List.length_drop]; omega
     refine Bf ?_
     refine Ad (Ad (Aa (O1 (Ae Jd rfl rfl rfl) (O1 (Ac Uk rfl rfl) (O1 (Ae Cf rfl rfl rfl) (Aq rfl rfl rfl rfl (f212 m (k.fr f.label) f.text σ0 hk0 (by have := hB.t; omega)) ?_))))))
     refine OA rfl (Ab (Ad (Aa (OM rfl (O1 (C9 (q := 0) Jp rfl rfl) (Ab ?_))))));refine Ai rfl (fun h5 => ?_) (fun h5 => ?_)
     ·refine Ad (Aa (OM rfl (OA rfl (Ab ?_))))
      have hE : Fb pw k f before = (k.fr f.label).textF f.text := ((if_neg (fun hh => Bool.noConfusion (h1.symm.trans hh))).trans ((if_neg (fun hh => Bool.noConfusion (h2.symm.trans hh))).trans ((if_neg (fun hh => Bool.noConfusion (h3.symm.trans hh))).trans ((if_neg (by rw [hH]; simp)).trans (if_pos h5)))))
      refine Ec fun hw9 => ?_
      refine Ak ?_
      exact ⟨_, rfl, _, _, Aw.of_same hw9 nl (fun _ _ => rfl), (by rw [hn0]; omega), .same rfl, congrArg iV hE.symm, hup, fun hh => by have h9 : (!decide ((k.fr f.label).textF f.text = 0)) = true := h5; rw [hE.symm.trans hh] at h9; exact absurd h9 (by decide)⟩
     ·refine Aj (Ad (Ad (Aa (O1 (Ae Jd rfl rfl rfl) (O1 (Ae Oe rfl rfl rfl) (Aq rfl rfl rfl rfl (f213 m (k.fr f.label) f σ0 hk0 hB.h hb2 hB.w hfl) (OA rfl ?_)))))));refine Ab (Ad (Aa (OM rfl (O1 (C9 (q := 0) Jp rfl rfl) (Ab ?_)))));refine Ai rfl (fun h6 => ?_) (fun h6 => ?_)
      ·refine Ad (Aa (OM rfl (OA rfl (Ab ?_))))
       have hE : Fb pw k f before = Ko (k.fr f.label) f := ((if_neg (fun hh => Bool.noConfusion (h1.symm.trans hh))).trans ((if_neg (fun hh => Bool.noConfusion (h2.symm.trans hh))).trans ((if_neg (fun hh => Bool.noConfusion (h3.symm.trans hh))).trans ((if_neg (by rw [hH]; simp)).trans ((if_neg (fun hh => Bool.noConfusion (h5.symm.trans hh))).trans (if_pos h6))))))
       refine Ec fun hw9 => ?_
       refine Ak ?_
       exact ⟨_, rfl, _, _, Aw.of_same hw9 nl (fun _ _ => rfl), (by rw [hn0]; omega), .same rfl, congrArg iV hE.symm, hup, fun hh => by have h9 : (!decide (Ko (k.fr f.label) f = 0)) = true := h6; rw [hE.symm.trans hh] at h9; exact absurd h9 (by decide)⟩
      ·refine Aj (Ad (Ad (Aa (O1 (Ac Yr rfl rfl) (O1 (Ae Cf rfl rfl rfl) (O1 (As D0 rfl) (O1 (Cm (q := 0) ok3 rfl rfl) ?_)))))));refine OM rfl ?_;refine Cv 14 _ ?_ rfl rfl rfl rfl rfl (Av rfl) (fun hg => ?_) (fun hg => ?_) ?_
       rotate_left
       ·refine On hg (Ac Ac3 rfl rfl) (On hg (Ae ld4 rfl rfl rfl) (On hg (A8 rfl) (On hg (Ag rfl) ?_)))
        refine Co 4 _ ?_ rfl rfl rfl rfl rfl (Iu rfl rfl rfl rfl (by rw [hg]; rfl)) (fun hg => ?_) (fun hg => ?_) ?_
        rotate_left
        ·refine On hg (Ac Yr rfl rfl) (On hg (Ae Cf rfl rfl rfl) (On hg (As D0 rfl) (On hg (Cm (q := 8000) ok3 rfl rfl) (Ab ?_))));refine ⟨rfl, ?_, ?_⟩
         ·exact sb
         ·exact rfl
        ·refine Of hg (Of hg (Of hg (Of hg (Ab ?_))));exact ⟨rfl, sb⟩
        refine On hg (Ag rfl) ?_
        refine Co 3 _ ?_ rfl rfl rfl rfl rfl (Iu rfl rfl rfl rfl (by rw [hg]; rfl)) (fun hg => ?_) (fun hg => ?_) ?_
        rotate_left
        ·refine On hg (Ac Yr rfl rfl) (On hg (Ae Cf rfl rfl rfl) (B0 rfl rfl rfl (by rw [hg]; rfl) rfl rfl rfl rfl (f31 (fun s => !pw s) f.proof 214 [] σ0 (by have := hB.p; omega) (fun a _ => hpw a σ0)) ?_))
         refine Ab ?_;refine ⟨rfl, ?_, ?_⟩
         ·exact sb
         ·exact rfl
        ·refine Of hg (Of hg (Of hg (Ab ?_)));exact ⟨rfl, sb⟩
        refine Ab ?_;refine ⟨rfl, ?_, ?_⟩
        ·exact sb
        ·exact rfl
       ·refine Of hg (Of hg (Of hg (Of hg (Ou (Ou (Ou (Ou ?_)))))));refine Of hg (Of hg (Ou (Ou (Ou (Of hg (Ab ?_))))));exact ⟨rfl, sb⟩
       refine Ab ?_;refine Ai rfl (fun h7 => ?_) (fun h7 => ?_)
       ·refine Ad (Aa (OA rfl (Ab ?_)))
        have hE : Fb pw k f before = 2 := ((if_neg (fun hh => Bool.noConfusion (h1.symm.trans hh))).trans ((if_neg (fun hh => Bool.noConfusion (h2.symm.trans hh))).trans ((if_neg (fun hh => Bool.noConfusion (h3.symm.trans hh))).trans ((if_neg (by rw [hH]; simp)).trans ((if_neg (fun hh => Bool.noConfusion (h5.symm.trans hh))).trans ((if_neg (fun hh => Bool.noConfusion (h6.symm.trans hh))).trans (if_pos h7)))))))
        refine Ec fun hw9 => ?_
        refine Ak ?_
        exact ⟨_, rfl, _, _, Aw.of_same hw9 nl (fun _ _ => rfl), (by rw [hn0]; omega), .same rfl, congrArg iV hE.symm, hup, fun hh => absurd (hE.symm.trans hh) (by decide)⟩
       ·refine Aj (Ad (Aa (O1 (Ae Oe rfl rfl rfl) (Aq rfl rfl rfl rfl (f183 f σ0 hB.h) (OA rfl (Ab (Ad ?_)))))));refine Aa (OM rfl (OM rfl (OM rfl (Aq rfl rfl rfl rfl (f216 before (Ahi f) σ0 hbe) (OM rfl (O1 (As Fs rfl) (OM rfl ?_)))))));refine O1 (As Fs rfl) (E2 (Apd rfl rfl rfl rfl (Yz _ _)) Gq rfl rfl (OA rfl (Ab (Ad (Ad (Aa (OM rfl ?_)))))));refine O1 (E8 rfl rfl) (Aq rfl rfl rfl rfl (f44 (fun h => ((k.fr f.label).hyps.get h.label).isSome) (Aja f before) 217 [.pv [knV m]] σ0 hrl (fun a _ => f217 m (k.fr f.label) a σ0 hk0)) ?_)
        refine Ab ?_;refine Ai rfl (fun h8 => ?_) (fun h8 => ?_)
        ·refine Ad (Aa (OA rfl (Ab ?_)))
         have hE : Fb pw k f before = 7 := ((if_neg (fun hh => Bool.noConfusion (h1.symm.trans hh))).trans ((if_neg (fun hh => Bool.noConfusion (h2.symm.trans hh))).trans ((if_neg (fun hh => Bool.noConfusion (h3.symm.trans hh))).trans ((if_neg (by rw [hH]; simp)).trans ((if_neg (fun hh => Bool.noConfusion (h5.symm.trans hh))).trans ((if_neg (fun hh => Bool.noConfusion (h6.symm.trans hh))).trans ((if_neg (fun hh => Bool.noConfusion (h7.symm.trans hh))).trans (if_pos h8))))))))
         refine Ec fun hw9 => ?_
         refine Ak ?_
         exact ⟨_, rfl, _, _, Aw.of_same hw9 nl (fun _ _ => rfl), (by rw [hn0]; omega), .same rfl, congrArg iV hE.symm, hup, fun hh => absurd (hE.symm.trans hh) (by decide)⟩
        ·refine Aj (Ad (Ad (Aa (O1 (Ac G4 rfl rfl) (O1 (Ae Kk rfl rfl rfl) (O1 (Ac Ul rfl rfl) (O1 (Ae Kk rfl rfl rfl) ?_)))))))
         refine E2 (Br Ai2 byW rfl rfl rfl) (Gq (len := 2)) rfl rfl (Aq rfl rfl rfl rfl (f210 [f.hyps, f.dummies] _ (by simp) hB.a) ?_)
         refine O1 (As Fs rfl) (OM rfl (Ab (Am ?_)));refine Cg f.all.length (fun i2 => [(3, .pv [knV m]), (9, .pv [.mp (nx σ), .mp (nx σ + 1)]), (161, slV eH 3 f.all), (162, iV (.ofNat f.all.length)), (163, iV (.ofNat i2))]) (fun i2 σ2 => nx σ2 = nx σ + 2 /\ (∀ b, b < nx σ -> b ≠ m + 2 -> b ≠ m + 3 -> σ2.get b = σ.get b) /\ Gc σ2 m ((k.fr f.label).hyps' (f.all.take i2)) /\ Bg sV σ2 (nx σ + 1) ty) ⟨rfl, rfl, rfl, rfl, rfl, trivial⟩ ⟨hn0, fun b h9 h10 _ => hg0 b h9 h10, hk0, ht0⟩ ?_
         rintro i2 σ2 hi2 ⟨hn2, hg2, hk2, ht2⟩;refine Ad (Aa (O1 (Bb ok3 rfl rfl) (Ab (Ad ?_))));refine Ai rfl (fun h9 => ?_) (fun h9 => ?_)
         ·have hlt2 : i2 < f.all.length := by simpa using h9
          obtain ⟨a2, ha2⟩ := B3 hlt2;have hd2 := Bn ha2;obtain ⟨vh, hvh⟩ := id hk2.h;refine Aj (Ad (Am (Ad (Aa (O1 (A3 H0 (fun _ => rfl) rfl rfl ha2) ?_)))))
          refine O1 (Ae Dy rfl rfl rfl) (B6 Rh Dy rfl (fun _ => rfl) rfl rfl rfl rfl ?_)
          refine Ab ?_
          refine Gv 1 (anns := [aR 0 1, aP 0 1, aP 0 1, aR 0 1, aP 0 1, aR 0 1, aR 0 0, aE 0 1, aE 1 2]) A5 (Ar (l := [(186, [.agg (eH a2)], σ2, .agg (eH a2), σ2)]) ⟨f186 a2 σ2 (hB.x a2 (List.mem_of_getElem? ha2)), trivial⟩) (by kernel_rfl) (by kernel_rfl) ?_
          refine DF (Ae Jd rfl rfl rfl) (DF (Bz rfl) (DF (Ac Tn rfl rfl) (DF (Ae Afa rfl rfl rfl) (DF (Ac Fk rfl rfl) (DF (Ae ld9 rfl rfl rfl) (DF (Ae Dy rfl rfl rfl) (DT (A7 rfl rfl Ba) ?_)))))))
          refine DT (Fj (v := a2) st9 Og rfl hvh rfl rfl (fun te k1 k2 => by first | exact G2 k1 k2 | exact G3 k1 k2 | exact Hu k1 k2 | exact Hv k1 k2 | exact Gj k1 k2 rfl)) ?_
          refine Bl ?_
          refine ⟨(by intro e he; simp at he; subst he; exact .refl), ?_⟩
          refine Aa (O1 (A1 (q := 1) ok3 rfl rfl (by omega)) ?_)
          refine OM rfl (Ab ?_)
          refine ⟨hlt2, ⟨rfl, rfl, rfl, rfl, rfl, trivial⟩, by rw [An]; exact hn2, fun b h11 h12 h13 => by rw [Sto.get_set, if_neg (by omega)]; exact hg2 b h11 h12 h13, by rw [Cx ha2, Ahj]; exact hk2.hp, ht2.set (by omega)⟩
         ·have hge2 : f.all.length <= i2 := by simpa using h9
          rw [List.take_of_length_le hge2] at hk2;obtain ⟨vt, hvt⟩ := id hk2.t;refine Bf ?_;refine Ad ?_
          refine Cq (anns := [aR 0 0, aP 0 0, aP 0 0, aR 0 0, aP 0 0, aR 0 0, aE 0 1]) A5 (Ar (l := [(218, [.mp (m + 4), .mp (nx σ + 1)], σ2, Bd, (σ2.set (m + 4) (.map 9 (Ct sV (SM.over ty k.types)) (vt + ty.length))))]) ⟨f218 (m + 4) (nx σ + 1) vt k.types ty σ2 hvt ht2 (by omega) hsr hs0, trivial⟩) (by kernel_rfl) (by kernel_rfl) ?_
          refine DF (Ae Jd rfl rfl rfl) (DF (Bz rfl) (DF (Ac Ai0 rfl rfl) (DF (Ae Afb rfl rfl rfl) (DF (Ac Ac7 rfl rfl) (DF (Ae Afb rfl rfl rfl) (DT (A7 rfl rfl Ba) (Bl ?_)))))));refine Ad (Aa (OA rfl (Ab ?_)))
          have hE : Fb pw k f before = 0 := ((if_neg (fun hh => Bool.noConfusion (h1.symm.trans hh))).trans ((if_neg (fun hh => Bool.noConfusion (h2.symm.trans hh))).trans ((if_neg (fun hh => Bool.noConfusion (h3.symm.trans hh))).trans ((if_neg (by rw [hH]; simp)).trans ((if_neg (fun hh => Bool.noConfusion (h5.symm.trans hh))).trans ((if_neg (fun hh => Bool.noConfusion (h6.symm.trans hh))).trans ((if_neg (fun hh => Bool.noConfusion (h7.symm.trans hh))).trans (if_neg (fun hh => Bool.noConfusion (h8.symm.trans hh))))))))))
          refine Ec fun hw9 => ?_
          refine Ak ?_
          exact ⟨_, rfl, _, _, Aw.of_same hw9 nl (fun _ _ => rfl), (by rw [An, hn2]; omega), .same rfl, congrArg iV hE.symm, ⟨by rw [An, hn2]; omega, fun b h10 h11 => by rw [Sto.get_set, if_neg (by omega)]; exact hg2 b h10 (by omega) (by omega)⟩, fun _ => ⟨by unfold knF; rw [hH]; exact hk2.ty, by unfold knF; exact SM.Srt.over hsr⟩⟩
def kn0 : Kn := ⟨[], [], [], [], []⟩
def I7 (pw : Str -> Bool) : List Fr -> Kn -> List Hp -> Int
 | [], _, _ => 0
 | f :: r, k, before => if (!decide (Fb pw k f before = 0)) = true then Fb pw k f before else I7 pw r (knF k f) (Ahi f)
def Fc (pw : Str -> Bool) (d : Db) : Int :=
 if ((decide ((400 : Int) < Int.ofNat d.frames.length) || decide ((8000 : Int) < Int.ofNat d.consts.length)) || decide ((8000 : Int) < Int.ofNat d.vars.length)) = true then 8
 else if (!decide ((Kv d kn0).1 = 0)) = true then (Kv d kn0).1 else I7 pw d.frames (Kv d kn0).2 []
structure DbB (d : Db) : Prop where
 f : ∀ f ∈ d.frames, FrB f
 c : d.consts.length < 1000000
 v : d.vars.length < 1000000
 n : d.frames.length < 1000000
theorem Rp : ∀ (l : List Str) (k : Kn), (Rm l k).2.types = k.types
 | [], _ => rfl
 | c :: r, k => by unfold Rm; cases Pm c <;> cases k.consts.has c <;> simp [Rp r]
theorem Y0 : ∀ (l : List Str) (k : Kn), (Tp l k).2.types = k.types
 | [], _ => rfl
 | c :: r, k => by unfold Tp; cases Pm c <;> cases k.isSym c <;> simp [Y0 r]
theorem Ahk (d : Db) (k : Kn) : (Kv d k).2.types = k.types := by
 unfold Kv; split
 ·rw [Y0, Rp]
 ·rw [Rp]
theorem f152 (pw : Str -> Bool) (hpw : ∀ s σ, Ah Ew 214 [sV s] σ fun v σ' => v = .bool (!pw s) /\ σ' = σ) (d : Db) (σ : Sto) (hB : DbB d) : Ah Ew 152 [dbV d] σ fun v σ' => v = iV (Fc pw d) /\ σ' = σ := by
 refine A2 Tryz.func152 rfl rfl fun hw hu0 => ?_
 refine Ad (Aa (Ax Ki rfl rfl rfl (OA rfl (Ab (Ad (Ad (Aa ?_)))))));refine O1 (Ac Rf rfl rfl) (O1 (Ae Ag8 rfl rfl rfl) (O1 (As Ag9 rfl) (O1 (Cm (q := 400) ok3 rfl rfl) (OM rfl ?_))));refine Co 4 _ ?_ rfl rfl rfl rfl rfl (Av rfl) (fun hg => ?_) (fun hg => ?_) ?_
 rotate_left
 ·refine On hg (Ac Aha rfl rfl) (On hg (Ae Cf rfl rfl rfl) (On hg (As D0 rfl) (On hg (Cm (q := 8000) ok3 rfl rfl) (Ab ?_))));refine ⟨rfl, ?_, ?_⟩
  ·exact sb
  ·exact rfl
 ·refine Of hg (Of hg (Of hg (Of hg (Ab ?_))));exact ⟨rfl, sb⟩
 refine OM rfl ?_;refine Co 4 _ ?_ rfl rfl rfl rfl rfl (Av rfl) (fun hg => ?_) (fun hg => ?_) ?_
 rotate_left
 ·refine On hg (Ac Od rfl rfl) (On hg (Ae Cf rfl rfl rfl) (On hg (As D0 rfl) (On hg (Cm (q := 8000) ok3 rfl rfl) (Ab ?_))));refine ⟨rfl, ?_, ?_⟩
  ·exact sb
  ·exact rfl
 ·refine Of hg (Of hg (Of hg (Of hg (Ab ?_))));exact ⟨rfl, sb⟩
 refine Ab ?_;refine Ai rfl (fun h1 => ?_) (fun h1 => ?_)
 ·refine Ad (Aa (OA rfl (Ab ?_)));have hE : Fc pw d = 8 := (if_pos h1);refine Ak ?_;exact ⟨_, rfl, _, σ, Aw.below hw Below.rfl', nl, .same rfl, congrArg iV hE.symm, rfl⟩
 ·refine Aj ?_;have hbn := hB.n
  have hg5 : ∀ b, b < nx σ -> (((((σ.new (.map 9 [] 0)).new (.map 9 [] 0)).new (.map 9 [] 0)).new (.map 9 [] 0)).new (.map 9 [] 0)).get b = σ.get b := fun b hb => by
   rw [Sto.get_new, if_neg (by simp only [Ap]; omega), Sto.get_new, if_neg (by simp only [Ap]; omega), Sto.get_new, if_neg (by simp only [Ap]; omega), Sto.get_new, if_neg (by simp only [Ap]; omega), Sto.get_new, if_neg (by omega)]
  have hkn0 : Gc (((((σ.new (.map 9 [] 0)).new (.map 9 [] 0)).new (.map 9 [] 0)).new (.map 9 [] 0)).new (.map 9 [] 0)) (nx σ) kn0 := by
   refine ⟨⟨0, ?_⟩, ⟨0, ?_⟩, ⟨0, ?_⟩, ⟨0, ?_⟩, ⟨0, ?_⟩⟩ <;> simp only [Sto.get_new, Ap] <;> simp <;> rfl
  refine Ad (Aa (O1 (Cr (n := nx σ) C1 rfl) (O1 (Cr (n := nx σ + 1) C1 (nx1 rfl)) (O1 (Cr (n := nx σ + 2) C1 (nx1 (nx1 rfl))) (O1 (Cr (n := nx σ + 3) Og (nx1 (nx1 (nx1 rfl)))) (O1 (Cr (n := nx σ + 4) Aa1 (nx1 (nx1 (nx1 (nx1 rfl))))) (O1 (Cl bd276 rfl rfl) ?_)))))));refine Ax ld276 rfl rfl rfl (OA rfl (Ab (Ad (Ad (Aa (OM rfl (O1 (Ae Ki rfl rfl rfl) ?_)))))))
  refine Cu rfl rfl rfl rfl (f181 (nx σ) kn0 d (((((σ.new (.map 9 [] 0)).new (.map 9 [] 0)).new (.map 9 [] 0)).new (.map 9 [] 0)).new (.map 9 [] 0)) hkn0 (by have := hB.c; omega) (by have := hB.v; omega)) fun v τ ⟨hv, hup1, hk1⟩ => ?_
  subst hv;refine OA rfl (Ab (Ad (Aa (OM rfl (O1 (C9 (q := 0) Jp rfl rfl) (Ab ?_))))));refine Ai rfl (fun h2 => ?_) (fun h2 => ?_)
  ·refine Ad (Aa (OM rfl (OA rfl (Ab ?_))));have hE : Fc pw d = (Kv d kn0).1 := ((if_neg (fun hh => Bool.noConfusion (h1.symm.trans hh))).trans (if_pos h2))
   refine Ak ?_
   exact ⟨_, rfl, _, σ, Aw.below hw ⟨by rw [hup1.1]; simp only [Ap]; omega, fun b hb => (hup1.2 b (.inl hb)).trans (hg5 b hb)⟩, nl, .same rfl, congrArg iV hE.symm, rfl⟩
  ·refine Aj (Ad (Aa (E2 (Bv rfl) (X5 (sz := 3)) rfl rfl (Ab (Ad (Ad (Aa ?_)))))));refine O1 (Ac Rf rfl rfl) (O1 (Ae Ag8 rfl rfl rfl) (O1 (As Ag9 rfl) (OM rfl (Ab ?_))))
   have hn1 : nx σ + 5 <= nx τ := by rw [hup1.1]; simp only [Ap]; omega
   have hg1 : ∀ b, b < nx σ -> τ.get b = σ.get b := fun b hb => (hup1.2 b (.inl hb)).trans (hg5 b hb)
   have hs1 : SM.Srt (Kv d kn0).2.types := by rw [Ahk]; exact .nil
   refine Am ?_
   refine E9 (fun q : Nat × AV => [(3, knV (nx σ)), (5, q.2), (39, slV eF 8 d.frames), (40, iV (.ofNat d.frames.length)), (41, iV (.ofNat q.1))]) (fun q σ0 => q.1 <= d.frames.length /\ ∃ k be, q.2 = slV eH 3 be /\ be.length < 1000000 /\ nx σ + 5 <= nx σ0 /\ (∀ b, b < nx σ -> σ0.get b = σ.get b) /\ Gc σ0 (nx σ) k /\ SM.Srt k.types /\ I7 pw d.frames (Kv d kn0).2 [] = I7 pw (d.frames.drop q.1) k be) (fun q => d.frames.length - q.1) (0, slV eH 3 []) ⟨rfl, rfl, rfl, rfl, rfl, trivial⟩ ⟨Nat.zero_le _, (Kv d kn0).2, [], rfl, by simp, hn1, hg1, hk1, hs1, rfl⟩ ?_
   rintro ⟨i0, v0⟩ σ0 hP0;obtain ⟨hi0, k, be, hbe, hbl, hn0, hg0, hk0, hs0, hf0⟩ : i0 <= d.frames.length /\ ∃ k be, v0 = slV eH 3 be /\ be.length < 1000000 /\ nx σ + 5 <= nx σ0 /\ (∀ b, b < nx σ -> σ0.get b = σ.get b) /\ Gc σ0 (nx σ) k /\ SM.Srt k.types /\ I7 pw d.frames (Kv d kn0).2 [] = I7 pw (d.frames.drop i0) k be := hP0;refine Ad (Aa (O1 (Bb ok3 rfl rfl) (Ab (Ad ?_))));refine Ai rfl (fun h3 => ?_) (fun h3 => ?_)
   ·have hlt0 : i0 < d.frames.length := by simpa using h3
    obtain ⟨a0, ha0⟩ := B3 hlt0;have hd0 := Bn ha0;subst hbe;refine Aj (Ad (Am (Ad (Aa (O1 (A3 el23 (fun _ => rfl) rfl rfl ha0) ?_)))))
    refine O1 (Ae Oe rfl rfl rfl) (B6 zi78 Oe rfl (fun _ => rfl) rfl rfl rfl rfl ?_)
    refine Ab (Ad (Ad (Aa (OM rfl (O1 (Ae Oe rfl rfl rfl) (OM rfl (Cu rfl rfl rfl rfl (f182 pw hpw (nx σ) k a0 be σ0 hk0 hs0 (hB.f a0 (List.mem_of_getElem? ha0)) hbl) fun v2 τ2 ⟨hv2, hup, hkn⟩ => ?_)))))))
    subst hv2;refine OA rfl (Ab (Ad (Aa (OM rfl (O1 (C9 (q := 0) Jp rfl rfl) (Ab ?_))))));refine Ai rfl (fun h4 => ?_) (fun h4 => ?_)
    ·refine Ad (Aa (OM rfl (OA rfl (Ab ?_))))
     have hE : Fc pw d = Fb pw k a0 be := ((if_neg (fun hh => Bool.noConfusion (h1.symm.trans hh))).trans ((if_neg (fun hh => Bool.noConfusion (h2.symm.trans hh))).trans (by rw [hf0, hd0, I7]; exact if_pos h4)))
     refine Ak ?_
     exact ⟨_, rfl, _, σ, Aw.below hw ⟨by have := hup.1; omega, fun b hb => (hup.2 b (by omega) (.inl hb)).trans (hg0 b hb)⟩, nl, .same rfl, congrArg iV hE.symm, rfl⟩
    ·refine Aj (Aa (O1 (Ae Oe rfl rfl rfl) (Aq rfl rfl rfl rfl (f183 a0 _ (hB.f a0 (List.mem_of_getElem? ha0)).h) (OA rfl (Ab (Aa (O1 (A1 (q := 1) ok3 rfl rfl (by omega)) ?_)))))))
     refine OM rfl (Ab ?_)
     refine ⟨(i0 + 1, slV eH 3 (Ahi a0)), by show d.frames.length - (i0 + 1) < d.frames.length - i0; omega, ⟨rfl, rfl, rfl, rfl, rfl, trivial⟩, hlt0, knF k a0, Ahi a0, rfl, Nat.lt_of_le_of_lt Gx (hB.f a0 (List.mem_of_getElem? ha0)).h, Nat.le_trans hn0 hup.1, fun b hb => (hup.2 b (by omega) (.inl hb)).trans (hg0 b hb), (hkn (Am7 h4)).1, (hkn (Am7 h4)).2, by rw [hf0, hd0, I7, if_neg (fun hh => Bool.noConfusion (h4.symm.trans hh))]⟩
   ·have hge0 : d.frames.length <= i0 := by simpa using h3
    have hH : I7 pw d.frames (Kv d kn0).2 [] = 0 := by rw [hf0, List.drop_eq_nil_of_le hge0]; rfl
    refine Bf ?_;refine Ad (Aa (OA rfl (Ab ?_)));have hE : Fc pw d = 0 := ((if_neg (fun hh => Bool.noConfusion (h1.symm.trans hh))).trans ((if_neg (fun hh => Bool.noConfusion (h2.symm.trans hh))).trans (hH)))
    refine Ak ?_
    exact ⟨_, rfl, _, σ, Aw.below hw ⟨by omega, hg0⟩, nl, .same rfl, congrArg iV hE.symm, rfl⟩
def txv (h : Hp) : Str := h.text.tail.headD []
def Aky (s : SM Bool) (l : List Hp) : SM Bool := l.foldl (fun m b => m.put (txv b) true) s
abbrev Ord := SM Hp × SM (SM Bool)
def Nk (i : Nat) (h : Hp) (s : Ord) : Ord := if i = 0 then (s.1.put (txv h) h, s.2.put (txv h) []) else s
def Afh (i : Nat) (pre : List Hp) (h : Hp) (s : Ord) : Option Ord :=
 match (Nk i h s).2.get (txv h) with
 | none => none
 | some a => if Ai8 ((Nk i h s).1.get (txv h)) h = true then some ((Nk i h s).1, (Nk i h s).2.put (txv h) (Aky a pre)) else none
def V4 (i : Nat) (all : List Hp) : List Hp -> Nat -> Ord -> Option Ord
 | [], _, s => some s
 | h :: r, n, s => match Afh i (all.take n) h s with
  | none => none
  | some s' => V4 i all r (n + 1) s'
def Ni (i : Nat) : List (List Hp) -> Ord -> Option Ord
 | [], s => some s
 | l :: r, s => match V4 i l l 0 s with
  | none => none
  | some s' => Ni i r s'
def flo (l : List Hp) : List Hp := Ea Ts l
def Am8 (d : Db) (f : Fr) : Bool := !decide (Int.ofNat ((flo f.hyps).length + (flo f.dummies).length) = Int.ofNat d.vars.length) || (f.hyps.drop (flo f.hyps).length).any (fun h => h.floating)
def M8 (d : Db) : List Fr -> Nat -> Ord -> Option Ord
 | [], _, s => some s
 | f :: r, i, s => if Am8 d f = true then none else match Ni i [flo f.hyps, flo f.dummies] s with
  | none => none
  | some s' => M8 d r (i + 1) s'
def rdy (a : SM (SM Bool)) (done : SM Bool) (v : Str) : Bool := !done.has v && ((a.get v).getD []).all (fun p => done.has p.1)
def Um (vars : List Str) (s : Ord) : Nat -> SM Bool -> List Hp -> Option (List Hp)
 | 0, _, out => some out
 | n + 1, done, out => match vars.find? (rdy s.2 done) with
  | none => none
  | some v => match s.1.get v with
   | none => none
   | some h => Um vars s n (done.put v true) (out ++ [h])
def Eo (d : Db) : Option (List Hp) :=
 if d.frames.length = 0 then (if d.vars.length = 0 then some [] else none)
 else match M8 d d.frames 0 ([], []) with
  | none => none
  | some s => Um d.vars s d.vars.length [] []
structure Add (σ : Sto) (N r : Nat) (A : SM (SM Bool)) (refs : SM Nat) : Prop where
 m : Bg (fun q => AV.mp q) σ r refs
 s : ∀ v, (refs.get v).isSome = (A.get v).isSome
 a : ∀ v q s, refs.get v = some q -> A.get v = some s -> E3 σ q s
 n : ∀ v q, refs.get v = some q -> N <= q
 i : ∀ v v' q, refs.get v = some q -> refs.get v' = some q -> v = v'
theorem Add.new {σ σ' : Sto} {N r q ver : Nat} {A : SM (SM Bool)} {refs : SM Nat} {v : Str} (h : Add σ N r A refs) (hw : WFS σ) (hr : r < N) (hN : N <= nx σ) (hq : q = nx σ) (hm : σ'.get r = some (.map 9 (Ct (fun q => AV.mp q) (refs.put v q)) ver)) (hs : E3 σ' q [])
  (hg : ∀ b, N <= b -> b < nx σ -> σ'.get b = σ.get b) : Add σ' N r (A.put v []) (refs.put v q) := by
 refine ⟨⟨ver, hm⟩, fun u => ?_, fun u p s k1 k2 => ?_, fun u p k1 => ?_, fun u u' p k1 k2 => ?_⟩
 ·rw [SM.get_put, SM.get_put]; split <;> first | rfl | exact h.s u
 ·rw [SM.get_put] at k1 k2
  split at k1
  ·rename_i e; rw [if_pos e] at k2; cases k1; cases k2; exact hs
  ·rename_i e; rw [if_neg e] at k2
   exact (h.a u p s k1 k2).of_get (hg p (h.n u p k1) ((h.a u p s k1 k2).lt hw))
 ·rw [SM.get_put] at k1
  split at k1
  ·cases k1; omega
  ·exact h.n u p k1
 ·have lt : ∀ w p, refs.get w = some p -> p < nx σ := fun w p hh => by
   have := h.s w; rw [hh] at this;obtain ⟨s, hs⟩ := Option.isSome_iff_exists.1 this.symm;exact (h.a w p s hh hs).lt hw
  rw [SM.get_put] at k1 k2
  split at k1 <;> split at k2
  ·rename_i e1 e2; rw [e1, e2]
  ·cases k1; have := lt _ _ k2; omega
  ·cases k2; have := lt _ _ k1; omega
  ·exact h.i u u' p k1 k2
theorem Add.upd {σ σ' : Sto} {N r q : Nat} {A : SM (SM Bool)} {refs : SM Nat} {v : Str} {s : SM Bool} (h : Add σ N r A refs) (hq : refs.get v = some q) (hr : σ'.get r = σ.get r) (hs : E3 σ' q s)
  (hg : ∀ b, N <= b -> b ≠ q -> σ'.get b = σ.get b) : Add σ' N r (A.put v s) refs := by
 refine ⟨h.m.of_get hr, fun u => ?_, fun u p t k1 k2 => ?_, h.n, h.i⟩
 ·rw [SM.get_put]
  split
  ·rename_i e; subst e; rw [hq]; rfl
  ·exact h.s u
 ·rw [SM.get_put] at k2
  split at k2
  ·rename_i e; subst e; rw [hq] at k1; cases k1; cases k2; exact hs
  ·rename_i e
   refine (h.a u p t k1 k2).of_get (hg p (h.n u p k1) fun hh => e ?_)
   subst hh; exact h.i u v p k1 hq
end Go.AM
namespace Go.AM
open Go Go.Proofs
structure Nj (σ τ : Sto) (s : Ord) : Prop where
 n : nx σ + 2 <= nx τ
 g : ∀ b, b < nx σ -> τ.get b = σ.get b
 o : Bg hV τ (nx σ) s.1
 a : ∃ refs, Add τ (nx σ + 2) (nx σ + 1) s.2 refs
 k : ∀ v, (s.1.get v).isSome = (s.2.get v).isSome
theorem Akz {s : SM Bool} {l : List Hp} {b : Hp} : Aky s (l ++ [b]) = (Aky s l).put (txv b) true := by unfold Aky; rw [List.foldl_append]; rfl
theorem Wn {h : Hp} {a b : Str} (e : h.text = [a, b]) : txv h = b := by unfold txv; rw [e]; rfl
theorem Aq7 {i : Nat} {h : Hp} {s : Ord} (hk : ∀ v, (s.1.get v).isSome = (s.2.get v).isSome) : ∀ v, ((Nk i h s).1.get v).isSome = ((Nk i h s).2.get v).isSome := fun v => by
 unfold Nk
 split
 ·simp only [SM.get_put]; split <;> first | rfl | exact hk v
 ·exact hk v
theorem Nj.first {σ τ τ' : Sto} {s : Ord} {h : Hp} {ver ver2 : Nat} {refs : SM Nat} (hO : Nj σ τ s) (hA : Add τ (nx σ + 2) (nx σ + 1) s.2 refs) (hw : WFS τ) (hn : nx τ <= nx τ') (ho : τ'.get (nx σ) = some (.map 9 (Ct hV (s.1.put (txv h) h)) ver))
  (hr : τ'.get (nx σ + 1) = some (.map 9 (Ct (fun q => AV.mp q) (refs.put (txv h) (nx τ))) ver2)) (hs : E3 τ' (nx τ) []) (hg : ∀ b, b < nx τ -> b ≠ nx σ -> b ≠ nx σ + 1 -> τ'.get b = τ.get b) : Nj σ τ' (Nk 0 h s) := by
 have hN := hO.n
 refine ⟨by omega, fun b hb => (hg b (by omega) (by omega) (by omega)).trans (hO.g b hb), ⟨ver, ho⟩, ⟨_, hA.new hw (by omega) hN rfl hr hs fun b h1 h2 => hg b h2 (by omega) (by omega)⟩, Aq7 hO.k⟩
theorem Nj.turn {σ τ τ' : Sto} {s : Ord} {a : SM Bool} {v : Str} {q : Nat} {refs : SM Nat} (hO : Nj σ τ s) (hA : Add τ (nx σ + 2) (nx σ + 1) s.2 refs) (hq : refs.get v = some q) (hn : nx τ <= nx τ') (hs : E3 τ' q a) (hg : ∀ b, b ≠ q -> τ'.get b = τ.get b) : Nj σ τ' (s.1, s.2.put v a) := by
 have hN := hO.n;have hqn := hA.n v q hq
 refine ⟨by omega, fun b hb => (hg b (by omega)).trans (hO.g b hb), hO.o.of_get (hg _ (by omega)), ⟨refs, hA.upd hq (hg _ (by omega)) hs fun b _ h2 => hg b h2⟩, fun u => ?_⟩
 show (s.1.get u).isSome = _
 rw [SM.get_put, hO.k u]
 split
 ·rename_i e; subst e
  have := hA.s u; rw [hq] at this; rw [← this]; rfl
 ·rfl
open Go Go.Proofs Go.RowKit
def Ff : ByteArray := ⟨#[45, 95, 46, 63]⟩
theorem Ape (p : Nat) (h : p < Ff.size) : (Utf8.decode Ff p).2 = 1 /\ ((Utf8.decode Ff p).1 : Int) ≠ 65533 := by
 have h4 : p < 4 := h
 match p, h4 with
 | 0, _ => decide
 | 1, _ => decide
 | 2, _ => decide
 | 3, _ => decide
set_option maxRecDepth 1000000 in
set_option maxHeartbeats 2000000 in
theorem Am9 (w : World) : Calls Tryz.prog 292 #[.string Ff, .int .i32 65533] w fun e w' => e = .returned (.int .i64 (-1)) /\ Go.RowKit.Below w.heap.size w w' := by
 go_enter Tryz.func292, Tryz.ntmps292
 go_wp2
 go_loopg [] 4 (fun gf wx => ∃ pos : Nat, wx.heap[w.heap.size]? = some (.stringIter Ff pos) /\ Go.RowKit.Below w.heap.size w wx /\ Ff.size <= pos + gf)
 case atStart => exact ⟨0, World.iter_heap w Ff 0, (Go.RowKit.Below.refl _ w).alloc nl _, nl⟩
 case round =>
  obtain ⟨pos, hit, hbw, hfu⟩ := hrel
  by_cases hps : pos < Ff.size
  ·obtain ⟨g', rfl⟩ : ∃ g', gk = g' + 1 := ⟨gk - 1, by omega⟩
   have hnx : ∀ ty, (Instr.next (.pointer (some ⟨w.heap.size, 0, none⟩)) true ty).run Tryz.prog wr = _ := fun ty => Lib.run_next_any_at wr w.heap.size Ff pos ty hit hps
   obtain ⟨hd1, hd2⟩ := Ape pos hps;obtain ⟨R, hR⟩ : ∃ R, (Utf8.decode Ff pos).1 = R := ⟨_, rfl⟩;rw [hR] at hd2;rw [hR, hd1] at hnx;have hit2 := Lib.iterAt_heap wr w.heap.size Ff pos (pos + 1) hit;have hbw2 := Lib.below_iterAt hbw (k := w.heap.size) nl Ff (pos + 1);obtain ⟨W, hWd⟩ : ∃ W, wr.iterAt w.heap.size Ff (pos + 1) = W := ⟨_, rfl⟩;rw [hWd] at hnx hit2 hbw2
   go_wp2
   go_roundg g'
   case measure => omega
   case rel => exact ⟨pos + 1, hit2, hbw2, by omega⟩
  ·have hnx : ∀ ty, (Instr.next (.pointer (some ⟨w.heap.size, 0, none⟩)) true ty).run Tryz.prog wr = _ := fun ty => Lib.run_next_end_at wr w.heap.size Ff pos ty hit hps
   go_wp2
   go_ret
   exact ⟨rfl, hbw⟩
set_option maxRecDepth 1000000 in
set_option maxHeartbeats 2000000 in
theorem Ana (x : Int) (h0 : 128 <= x) (h1 : Lib.validRune x = false) (h2 : x ≠ 65533) (w : World) : Calls Tryz.prog 292 #[.string Ff, .int .i32 x] w fun e w' => e = .returned (.int .i64 (-1)) /\ w' = w := by
 have hd0 : decide ((0 : Int) <= x) = true := by simp; omega
 have hd1 : decide (x < (128 : Int)) = false := by simp; omega
 have e295 : ∀ args w, (callFunc 295 args).run Tryz.prog w = .ok (.enter 295 args) w := enters_of Tryz.func295 (by kernel_rfl) rfl
 go_enter Tryz.func292, Tryz.ntmps292
 go_wp2_with (go_at_fn 295; refine (Tryz.utf8_ValidRune _ _).mono ?_; rintro e w' ⟨rfl, hw⟩; rw [hw, h1])
 go_ret
 exact ⟨rfl, rfl⟩
theorem Ak0 (x : Int) (h : 128 <= x) : (∃ a b : UInt8, Utf8.encode x = ⟨#[a, b]⟩ /\ 128 <= b.toNat) ∨ (∃ a b d : UInt8, Utf8.encode x = ⟨#[a, b, d]⟩ /\ 128 <= d.toNat) ∨ ∃ a b d e : UInt8, Utf8.encode x = ⟨#[a, b, d, e]⟩ /\ 128 <= e.toNat := by
 have hb : ∀ n : Nat, 128 <= (UInt8.ofNat (0x80 + n % 64)).toNat := fun n => by
  rw [UInt8.toNat_ofNat']; omega
 unfold Utf8.encode;obtain ⟨c, hc⟩ : ∃ c, (if Utf8.valid x = true then x.toNat else Utf8.runeError) = c := ⟨_, rfl⟩
 have h128 : 128 <= c := by
  rw [← hc]; split
  ·omega
  ·decide
 simp only [hc]
 rw [if_neg (by omega)]
 split
 ·exact .inl ⟨_, _, rfl, hb _⟩
 ·split
  ·exact .inr (.inl ⟨_, _, _, rfl, hb _⟩)
  ·exact .inr (.inr ⟨_, _, _, _, rfl, hb _⟩)
theorem Ahl (s : ByteArray) (c : Int) (w : World) : Calls Tryz.prog 294 #[.string s, .int .u8 c] w fun e w' => e = .returned (.int .i64 (Lib.indexByte s.data.toList c.toNat.toUInt8)) /\ w' = w := Any.strings_IndexByte { Tryz.lays151 with } s c w
theorem Ajc {b : UInt8} (hb : 128 <= b.toNat) : ∀ {l : List UInt8}, (∀ c ∈ l, c.toNat < 128) -> Lib.indexByte l b = -1
 | [], _ => rfl
 | c :: l, h => by
  have h1 : (c == b) = false := by
   cases hh : c == b with
   | false => rfl
   | true => have := eq_of_beq hh; subst this; have := h c (List.mem_cons_self ..); omega
  have h2 := Ajc hb (l := l) fun x hx => h x (List.mem_cons_of_mem _ hx)
  simp [Lib.indexByte, h1, h2]
set_option maxRecDepth 1000000 in
set_option maxHeartbeats 2000000 in
theorem Ak1 (x : Int) (a b : UInt8) (he : Utf8.encode x = ⟨#[a, b]⟩) (hb : 128 <= b.toNat) (h0 : 128 <= x) (h1 : Lib.validRune x = true) (h2 : x ≠ 65533) (w : World) : Calls Tryz.prog 292 #[.string Ff, .int .i32 x] w fun e w' => e = .returned (.int .i64 (-1)) /\ Go.RowKit.Below w.heap.size w w' := by
 have hd0 : decide ((0 : Int) <= x) = true := by simp; omega
 have hd1 : decide (x < (128 : Int)) = false := by simp; omega
 have hd2 : decide ((95 : Int) = b.toNat) = false := by simp; omega
 have e295 : ∀ args w, (callFunc 295 args).run Tryz.prog w = .ok (.enter 295 args) w := enters_of Tryz.func295 (by kernel_rfl) rfl
 have e294 : ∀ args w, (callFunc 294 args).run Tryz.prog w = .ok (.enter 294 args) w := enters_of Tryz.func294 (by kernel_rfl) rfl
 have mixed : Tryz.prog.follows .mixedOrders = true := by kernel_rfl
 have hsz : Ff.size = 4 := rfl
 have hne : (((Ff[1]'(by decide)).toNat : Int) != (((⟨#[a, b]⟩ : ByteArray)[1]'(by show 1 < 2; omega)).toNat : Int)) = true := by
  show (((95 : Nat) : Int) != ((b.toNat : Nat) : Int)) = true
  simp; omega
 have hix : Lib.indexByte (Ff.extract 2 4).data.toList ((((⟨#[a, b]⟩ : ByteArray)[1]'(by show 1 < 2; omega)).toNat : Int)).toNat.toUInt8 = -1 := by
  show Lib.indexByte [46, 63] (b.toNat : Int).toNat.toUInt8 = -1
  rw [Int.toNat_natCast, show b.toNat.toUInt8 = b from UInt8.ofNat_toNat]
  exact Ajc hb (by decide)
 have hI : ∀ w, Calls Tryz.prog 294 #[.string (Ff.extract 2 4), .int .u8 (((⟨#[a, b]⟩ : ByteArray)[1]'(by show 1 < 2; omega)).toNat : Int)] w fun e w' => e = .returned (.int .i64 (-1)) /\ w' = w := fun w => by
  have := Ahl (Ff.extract 2 4) (((⟨#[a, b]⟩ : ByteArray)[1]'(by show 1 < 2; omega)).toNat : Int) w
  rwa [hix] at this
 clear hix
 have hwr : IntKind.i64.wrap 2 = 2 := by decide
 have kc : ∀ (w : World), (convert 21 9 (.int .i32 x)).run Tryz.prog w = .ok (.string ⟨#[a, b]⟩) w := fun w => by rw [← he]; exact run_convert_int_string (P := Tryz.prog) w 21 9 .i32 x (by rw [Tryz.underlying21]; rfl) Tryz.underlying9
 go_enter Tryz.func292, Tryz.ntmps292
 go_wp2_with (first | (go_at_fn 295; refine (Tryz.utf8_ValidRune _ _).mono ?_; rintro e w' ⟨rfl, hw⟩; rw [hw, h1]) | (go_at_fn 294; refine (Any.strings_IndexByte { Tryz.lays151 with } _ _ _).mono ?_; rintro e w' ⟨rfl, hw⟩; rw [hw]))
 refine wp_scope_straight ?_
 go_wp2
 go_loopg [9] 1 (fun gf s9 wx => s9 = .int .i64 1 /\ wx = w)
 case atStart => exact ⟨rfl, rfl⟩
 case round =>
  obtain ⟨rfl, rfl⟩ := hrel
  go_wp2
  refine wp_scope_straight ?_
  go_wp2
  go_quiet (fail)
  go_wp2
  go_quiet ((refine (hI _).mono fun e w'' h => ⟨h.1, _, h.2⟩))
  go_wp2
  simp only [Exit.noGoto, Exit.inBlock, Exit.then]
  go_ret
  exact ⟨rfl, below_drewNg _ _⟩
set_option maxRecDepth 1000000 in
set_option maxHeartbeats 2000000 in
theorem Ak2 (x : Int) (a b d : UInt8) (he : Utf8.encode x = ⟨#[a, b, d]⟩) (hb : 128 <= d.toNat) (h0 : 128 <= x) (h1 : Lib.validRune x = true) (h2 : x ≠ 65533) (w : World) : Calls Tryz.prog 292 #[.string Ff, .int .i32 x] w fun e w' => e = .returned (.int .i64 (-1)) /\ Go.RowKit.Below w.heap.size w w' := by
 have hd0 : decide ((0 : Int) <= x) = true := by simp; omega
 have hd1 : decide (x < (128 : Int)) = false := by simp; omega
 have hd2 : decide ((46 : Int) = d.toNat) = false := by simp; omega
 have e295 : ∀ args w, (callFunc 295 args).run Tryz.prog w = .ok (.enter 295 args) w := enters_of Tryz.func295 (by kernel_rfl) rfl
 have e294 : ∀ args w, (callFunc 294 args).run Tryz.prog w = .ok (.enter 294 args) w := enters_of Tryz.func294 (by kernel_rfl) rfl
 have mixed : Tryz.prog.follows .mixedOrders = true := by kernel_rfl
 have hsz : Ff.size = 4 := rfl
 have hne : (((Ff[2]'(by decide)).toNat : Int) != (((⟨#[a, b, d]⟩ : ByteArray)[2]'(by show 2 < 3; omega)).toNat : Int)) = true := by
  show (((46 : Nat) : Int) != ((d.toNat : Nat) : Int)) = true
  simp; omega
 have hix : Lib.indexByte (Ff.extract 3 4).data.toList ((((⟨#[a, b, d]⟩ : ByteArray)[2]'(by show 2 < 3; omega)).toNat : Int)).toNat.toUInt8 = -1 := by
  show Lib.indexByte [63] (d.toNat : Int).toNat.toUInt8 = -1
  rw [Int.toNat_natCast, show d.toNat.toUInt8 = d from UInt8.ofNat_toNat]
  exact Ajc hb (by decide)
 have hI : ∀ w, Calls Tryz.prog 294 #[.string (Ff.extract 3 4), .int .u8 (((⟨#[a, b, d]⟩ : ByteArray)[2]'(by show 2 < 3; omega)).toNat : Int)] w fun e w' => e = .returned (.int .i64 (-1)) /\ w' = w := fun w => by
  have := Ahl (Ff.extract 3 4) (((⟨#[a, b, d]⟩ : ByteArray)[2]'(by show 2 < 3; omega)).toNat : Int) w
  rwa [hix] at this
 clear hix
 have hwr : IntKind.i64.wrap 3 = 3 := by decide
 have kc : ∀ (w : World), (convert 21 9 (.int .i32 x)).run Tryz.prog w = .ok (.string ⟨#[a, b, d]⟩) w := fun w => by rw [← he]; exact run_convert_int_string (P := Tryz.prog) w 21 9 .i32 x (by rw [Tryz.underlying21]; rfl) Tryz.underlying9
 go_enter Tryz.func292, Tryz.ntmps292
 go_wp2_with (first | (go_at_fn 295; refine (Tryz.utf8_ValidRune _ _).mono ?_; rintro e w' ⟨rfl, hw⟩; rw [hw, h1]) | (go_at_fn 294; refine (Any.strings_IndexByte { Tryz.lays151 with } _ _ _).mono ?_; rintro e w' ⟨rfl, hw⟩; rw [hw]))
 refine wp_scope_straight ?_
 go_wp2
 go_loopg [9] 1 (fun gf s9 wx => s9 = .int .i64 2 /\ wx = w)
 case atStart => exact ⟨rfl, rfl⟩
 case round =>
  obtain ⟨rfl, rfl⟩ := hrel
  go_wp2
  refine wp_scope_straight ?_
  go_wp2
  go_quiet (fail)
  go_wp2
  go_quiet ((refine (hI _).mono fun e w'' h => ⟨h.1, _, h.2⟩))
  go_wp2
  simp only [Exit.noGoto, Exit.inBlock, Exit.then]
  go_ret
  exact ⟨rfl, below_drewNg _ _⟩
set_option maxRecDepth 1000000 in
set_option maxHeartbeats 2000000 in
theorem Ak3 (x : Int) (a b d e : UInt8) (he : Utf8.encode x = ⟨#[a, b, d, e]⟩) (hb : 128 <= e.toNat) (h0 : 128 <= x) (h1 : Lib.validRune x = true) (h2 : x ≠ 65533) (w : World) : Calls Tryz.prog 292 #[.string Ff, .int .i32 x] w fun e w' => e = .returned (.int .i64 (-1)) /\ Go.RowKit.Below w.heap.size w w' := by
 have hd0 : decide ((0 : Int) <= x) = true := by simp; omega
 have hd1 : decide (x < (128 : Int)) = false := by simp; omega
 have hd2 : decide ((63 : Int) = e.toNat) = false := by simp; omega
 have e295 : ∀ args w, (callFunc 295 args).run Tryz.prog w = .ok (.enter 295 args) w := enters_of Tryz.func295 (by kernel_rfl) rfl
 have e294 : ∀ args w, (callFunc 294 args).run Tryz.prog w = .ok (.enter 294 args) w := enters_of Tryz.func294 (by kernel_rfl) rfl
 have mixed : Tryz.prog.follows .mixedOrders = true := by kernel_rfl
 have hsz : Ff.size = 4 := rfl
 have hne : (((Ff[3]'(by decide)).toNat : Int) != (((⟨#[a, b, d, e]⟩ : ByteArray)[3]'(by show 3 < 4; omega)).toNat : Int)) = true := by
  show (((63 : Nat) : Int) != ((e.toNat : Nat) : Int)) = true
  simp; omega
 have hix : Lib.indexByte (Ff.extract 4 4).data.toList ((((⟨#[a, b, d, e]⟩ : ByteArray)[3]'(by show 3 < 4; omega)).toNat : Int)).toNat.toUInt8 = -1 := by
  show Lib.indexByte ([] : List UInt8) (e.toNat : Int).toNat.toUInt8 = -1
  rw [Int.toNat_natCast, show e.toNat.toUInt8 = e from UInt8.ofNat_toNat]
  exact Ajc hb (by decide)
 have hI : ∀ w, Calls Tryz.prog 294 #[.string (Ff.extract 4 4), .int .u8 (((⟨#[a, b, d, e]⟩ : ByteArray)[3]'(by show 3 < 4; omega)).toNat : Int)] w fun e w' => e = .returned (.int .i64 (-1)) /\ w' = w := fun w => by
  have := Ahl (Ff.extract 4 4) (((⟨#[a, b, d, e]⟩ : ByteArray)[3]'(by show 3 < 4; omega)).toNat : Int) w
  rwa [hix] at this
 clear hix
 have hwr : IntKind.i64.wrap 4 = 4 := by decide
 have kc : ∀ (w : World), (convert 21 9 (.int .i32 x)).run Tryz.prog w = .ok (.string ⟨#[a, b, d, e]⟩) w := fun w => by rw [← he]; exact run_convert_int_string (P := Tryz.prog) w 21 9 .i32 x (by rw [Tryz.underlying21]; rfl) Tryz.underlying9
 go_enter Tryz.func292, Tryz.ntmps292
 go_wp2_with (first | (go_at_fn 295; refine (Tryz.utf8_ValidRune _ _).mono ?_; rintro e w' ⟨rfl, hw⟩; rw [hw, h1]) | (go_at_fn 294; refine (Any.strings_IndexByte { Tryz.lays151 with } _ _ _).mono ?_; rintro e w' ⟨rfl, hw⟩; rw [hw]))
 refine wp_scope_straight ?_
 go_wp2
 go_loopg [9] 1 (fun gf s9 wx => s9 = .int .i64 3 /\ wx = w)
 case atStart => exact ⟨rfl, rfl⟩
 case round =>
  obtain ⟨rfl, rfl⟩ := hrel
  go_wp2
  refine wp_scope_straight ?_
  go_wp2
  go_quiet (fail)
  go_wp2
  go_quiet ((refine (hI _).mono fun e w'' h => ⟨h.1, _, h.2⟩))
  go_wp2
  simp only [Exit.noGoto, Exit.inBlock, Exit.then]
  go_ret
  exact ⟨rfl, below_drewNg _ _⟩
theorem Apf (x : Int) (h0 : 128 <= x) (w : World) : Calls Tryz.prog 292 #[.string Ff, .int .i32 x] w fun e w' => e = .returned (.int .i64 (-1)) /\ Go.RowKit.Below w.heap.size w w' := by
 by_cases h2 : x = 65533
 ·subst h2; exact Am9 w
 ·cases h1 : Lib.validRune x with
  | false => exact (Ana x h0 h1 h2 w).mono fun e w' h => ⟨h.1, h.2 ▸ Go.RowKit.Below.refl _ _⟩
  | true =>
   rcases Ak0 x h0 with ⟨a, b, he, hb⟩ | ⟨a, b, d, he, hb⟩ | ⟨a, b, d, e, he, hb⟩
   ·exact Ak1 x a b he hb h0 h1 h2 w
   ·exact Ak2 x a b d he hb h0 h1 h2 w
   ·exact Ak3 x a b d e he hb h0 h1 h2 w
def Aa6 (x : Int) : Bool := decide (x = 45) || decide (x = 95) || decide (x = 46) || decide (x = 63)
theorem Aq8 (x : Nat) (h : x < 128) : decide ((0 : Int) <= Lib.indexByte Ff.data.toList x.toUInt8) = Aa6 x := by
 have : ∀ x : Fin 128, decide ((0 : Int) <= Lib.indexByte Ff.data.toList x.val.toUInt8) = Aa6 x.val := by decide
 exact this ⟨x, h⟩
set_option maxRecDepth 1000000 in
theorem Apg (x : Nat) (w : World) : Calls Tryz.prog 290 #[.string Ff, .int .i32 x] w fun e w' => e = .returned (.bool (Aa6 x)) /\ Go.RowKit.Below w.heap.size w w' := by
 by_cases h : x < 128
 ·have := Tryz.strings_ContainsRune_ascii Ff (x : Int) w (by omega) (by omega)
  rw [Int.toNat_natCast, Aq8 x h] at this;exact this.mono fun e w' h => ⟨h.1, h.2 ▸ Go.RowKit.Below.refl _ _⟩
 ·have e292 : ∀ args w, (callFunc 292 args).run Tryz.prog w = .ok (.enter 292 args) w := enters_of Tryz.func292 (by kernel_rfl) rfl
  have hi : Aa6 x = false := by simp [Aa6]; omega
  rw [hi]
  go_enter Tryz.func290, Tryz.ntmps290
  go_wp2_with (go_at_fn 292; refine (Apf (x : Int) (by omega) _).mono ?_; rintro e w' ⟨rfl, hw⟩)
  go_ret
  exact ⟨rfl, hw⟩
def prC (n : Int) : Bool := (((decide ((97 : Int) <= n) && decide (n <= 122)) || (decide ((65 : Int) <= n) && decide (n <= 90))) || (decide ((48 : Int) <= n) && decide (n <= 57))) || Aa6 n
open Go Go.Proofs Go.RowKit
set_option maxRecDepth 1000000 in
set_option maxHeartbeats 1000000 in
theorem g289 (x : Nat) (w : World) : Calls Tryz.prog 289 #[.int .i32 x] w fun e w' => e = .returned (.bool (!prC x)) /\ Go.RowKit.Below w.heap.size w w' := by
  have e290 : ∀ args w, (callFunc 290 args).run Tryz.prog w = .ok (.enter 290 args) w := enters_of Tryz.func290 (by kernel_rfl) rfl
  obtain ⟨X, hX⟩ : ∃ X : Int, (x : Int) = X := ⟨_, rfl⟩;have hR := Apg x;rw [hX] at hR ⊢;unfold prC;cases h1 : decide ((97 : Int) <= X) <;> cases h2 : decide (X <= 122) <;> cases h3 : decide ((65 : Int) <= X) <;> cases h4 : decide (X <= 90) <;> cases h5 : decide ((48 : Int) <= X) <;> cases h6 : decide (X <= 57) <;>
  (go_enter Tryz.func289, Tryz.ntmps289
   go_wp2_with (go_at_fn 290; refine (hR _).mono ?_; rintro e w' ⟨rfl, hw⟩)
   go_ret
   first | exact ⟨rfl, Go.RowKit.Below.refl _ _⟩ | exact ⟨rfl, hw⟩)
theorem Afi {f : Nat} {args : List AV} {σ : Sto} {b : Bool} (he : Ub Ew.P f) (h : ∀ C w (vs : Array Value), RL C (nx σ) w args vs.toList -> Calls Ew.P f vs w (fun e w' => e = .returned (.bool b) /\ Go.RowKit.Below w.heap.size w w')) : Ah Ew f args σ fun u τ => u = .bool b /\ τ = σ := by
 intro C w vs hs hg ha;refine ⟨he, (h C w vs ha).mono fun e w' hq => ?_⟩
 obtain ⟨rfl, hb⟩ := hq;obtain ⟨k1, k2⟩ := hs.same hb.size hb.block ⟨hb.os, hb.output⟩
 exact ⟨.bool b, σ, C, ⟨rfl, rfl⟩, k1, k2, by unfold R; rfl⟩
def prS (s : Str) : Bool := decide (0 <= Lib.idxFunc (fun x => !prC x) true ⟨⟨s⟩⟩)
theorem Aq9 {C : Ctx} {N : Nat} {w : World} {k : Nat} {x : Value} (h : R C N w (.fn (.func k) [] []) x) : x = .func (.func k) #[] #[] := by
 unfold R at h;obtain ⟨a, b, rfl, h1, h2⟩ := h
 have e : ∀ a : Array Value, RL C N w [] a.toList -> a = #[] := fun a h => by
  obtain ⟨l⟩ := a;cases l with
  | nil => rfl
  | cons x r => unfold RL at h; exact h.elim
 rw [e a h1, e b h2]
theorem f288 (s : Str) (σ : Sto) : Ah Ew 288 [sV s, .fn (.func 289) [] []] σ fun v σ' => v = .bool (prS s) /\ σ' = σ := by
 refine Afi ⟨_, Tryz.func288, rfl, rfl⟩ fun C w vs ha => ?_
 obtain ⟨x, y, rfl, hx, hy⟩ := Ahg ha;obtain ⟨a, rfl, rfl⟩ := Aff hx;rw [Aq9 hy]
 have e289 : ∀ args w, (callFunc 289 args).run Tryz.prog w = .ok (.enter 289 args) w := enters_of Tryz.func289 (by kernel_rfl) rfl
 exact Any.strings_ContainsFunc_grows Tryz.laysGw17 289 #[] e289 (fun x => !prC x) a w fun W x _ _ => g289 x W
def Ep (s : Str) : Bool := (decide (s = [40]) || decide (s = [41])) || (!decide (s = []) && !prS s)
abbrev e1 (s : Str) : List AV := [sV s]
def M9 (s : Str) : List Str := [[120], [36, 112], [120], [36, 61], s, [36, 46]]
def Ade (s : Str) : Stm := ⟨7, [120], [[120]], [s]⟩
theorem Na {N : Nat} (s : Str) : AV.unds N (e1 s) = true := rfl
theorem f285 (s : Str) (σ : Sto) : Ah Ew 285 [sV s] σ fun v σ' => v = .bool (Ep s) /\ σ' = σ := by
 refine A2 Tryz.func285 rfl rfl fun hw hu0 => ?_
 refine Ad (Aa (OA rfl (Ab (Ad (Ad (Aa (OM rfl ?_)))))));refine O1 (Hr (q := [40]) ok9 rfl rfl) (OM rfl ?_);refine Co 2 _ ?_ rfl rfl rfl rfl rfl (Av rfl) (fun hg => ?_) (fun hg => ?_) ?_
 rotate_left
 ·refine On hg (Ag rfl) (On hg (Hr (q := [41]) ok9 rfl rfl) (Ab ?_));refine ⟨rfl, ?_, ?_⟩
  ·exact sb
  ·exact rfl
 ·refine Of hg (Of hg (Ab ?_));exact ⟨rfl, sb⟩
 refine Ab ?_;refine Ai rfl (fun h1 => ?_) (fun h1 => ?_)
 ·refine Ad (Aa (OA rfl (Ab ?_)));refine Ak (Bw hw rfl ?_)
  exact congrArg AV.bool (by unfold Ep; rw [show (decide (s = [40]) || decide (s = [41])) = true from h1]; rfl)
 ·refine Aj (Ad (Aa (OM rfl (O1 (En (q := []) ok9 rfl rfl) (OM rfl ?_)))));refine Cv 3 _ ?_ rfl rfl rfl rfl rfl (Av rfl) (fun hg => ?_) (fun hg => ?_) ?_
  rotate_left
  ·refine On hg (Ag rfl) (B0 rfl rfl rfl (by rw [hg]; rfl) rfl rfl rfl rfl (f288 s _) ?_)
   refine On hg (A8 rfl) (Ab ?_);refine ⟨rfl, ?_, ?_⟩
   ·exact sb
   ·exact rfl
  ·refine Of hg (Of hg (Of hg (Ab ?_)));exact ⟨rfl, sb⟩
  refine OA rfl (Ab ?_);refine Ak (Bw hw rfl ?_)
  exact congrArg AV.bool (by unfold Ep; rw [show (decide (s = [40]) || decide (s = [41])) = false from h1]; rfl)
theorem f270 (s : Str) (σ : Sto) : Ah Ew 270 [.agg (stX s)] σ fun v σ' => v = A9 (M9 s) /\ σ' = σ := by
 refine A2 Tryz.func270 rfl rfl fun hw hu0 => ?_
 refine Ad (Aa (Ax Vk rfl rfl rfl (OA rfl (Ab (Ad (Aa (O1 (Ac M3 rfl rfl) ?_)))))))
 refine O1 (Ae ld3 rfl rfl rfl) (O1 (I1 Ap7 rfl rfl (by decide) (n := 7) rfl) ?_)
 refine O1 (Ae Ai3 rfl rfl rfl) (B6 Ap6 Ai3 rfl (fun _ => rfl) rfl rfl rfl rfl ?_)
 refine Ab (Ad (Aa (OA rfl (Ab (Ad (Ad (Aa ?_)))))));refine O1 (Ac Ac9 rfl rfl) (O1 (Ae ld4 rfl rfl rfl) (Ab ?_));refine Ai rfl (fun h1 => ?_) (fun h1 => ?_)
 ·obtain ⟨v1, τ1, ha1, ho1, hb1, _⟩ := Own.app (by' := 16) (enc := e1) (fun _ => rfl) (Nat.le_refl (nx σ)) (Own.nil (sz := 1)) [[120]] (by simp [sizeLim])
  have hB1 := hb1
  obtain ⟨v2, τ2, ha2, ho2, hb2, _⟩ := Own.app (by' := 16) (enc := e1) (fun _ => rfl) hB1.1 ho1 [[36, 112]] (by simp [sizeLim])
  have hB2 := hB1.trans hb2
  obtain ⟨v3, τ3, ha3, ho3, hb3, _⟩ := Own.app (by' := 16) (enc := e1) (fun _ => rfl) hB2.1 ho2 [[120]] (by simp [sizeLim])
  have hB3 := hB2.trans hb3
  obtain ⟨v4, τ4, ha4, ho4, hb4, _⟩ := Own.app (by' := 16) (enc := e1) (fun _ => rfl) hB3.1 ho3 [[36, 61]] (by simp [sizeLim])
  have hB4 := hB3.trans hb4
  obtain ⟨v5, τ5, ha5, ho5, hb5, _⟩ := Own.app (by' := 16) (enc := e1) (fun _ => rfl) hB4.1 ho4 [s] (by simp [sizeLim])
  have hB5 := hB4.trans hb5
  obtain ⟨v6, τ6, ha6, ho6, hb6, _⟩ := Own.app (by' := 16) (enc := e1) (fun _ => rfl) hB5.1 ho5 [[36, 46]] (by simp [sizeLim])
  have hB6 := hB5.trans hb6;refine Aa (OM rfl (O1 (Ac Ac8 rfl rfl) (O1 (Ae ld9 rfl rfl rfl) (E2 (Br C5 byW rfl rfl rfl) (Gq (len := 1)) rfl rfl (O1 (B5 C5 rfl D0 rfl rfl rfl (new := e1 [120]) rfl ha1) (OA rfl (Ab ?_)))))));refine Ad ?_
  refine Al4 (Rr := Gf []) (anns := [aP 0 0, aP 0 0, aR 0 0, aP 0 0, aE 0 1, aP 0 1, aR 0 1, aE 1 2, aP 2 2]) A5 (Ar trivial) (by kernel_rfl) ?_
  refine DF (Ag rfl) (DF (Ac Ao8 rfl rfl) (DF (Ae ld9 rfl rfl rfl) (DF (Br C5 byW rfl rfl rfl) (DT (B5 C5 rfl D0 rfl rfl rfl (new := e1 [36, 112]) rfl ha2) (DF (Ac M4 rfl rfl) (DF (Ae Cf rfl rfl rfl) (DT (B5 C5 rfl D0 rfl rfl rfl (new := [[120]].flatMap e1) (Yh (enc := e1) (sz := 1) (fun _ => rfl) _ _) ha3) ?_)))))))
  refine DF (Bv rfl) (Bl ?_);refine ⟨⟨trivial, trivial, fun τ _ => ⟨τ, Ae ld9 rfl rfl rfl⟩, trivial, trivial, trivial, fun τ _ => ⟨τ, Ae Cf rfl rfl rfl⟩, trivial, trivial, trivial⟩, ?_⟩
  refine Ad (Ad (Aa (O1 (Ac M3 rfl rfl) (O1 (Ae ld3 rfl rfl rfl) (O1 (Dq (q := 7) ok3 rfl rfl) (Ab ?_))))));refine Ai rfl (fun h2 => ?_) (fun h2 => ?_)
  ·refine Al4 (Rr := Gf []) (anns := [aP 0 0, aP 0 0, aE 0 1, aP 0 1, aR 0 1, aE 1 2, aP 2 2]) A5 (Ar trivial) (by kernel_rfl) ?_
   refine DF (Ag rfl) (DF (Br C5 byW rfl rfl rfl) (DT (B5 C5 rfl D0 rfl rfl rfl (new := e1 [36, 61]) rfl ha4) (DF (Ac To rfl rfl) (DF (Ae Cf rfl rfl rfl) (DT (B5 C5 rfl D0 rfl rfl rfl (new := [s].flatMap e1) (Yh (enc := e1) (sz := 1) (fun _ => rfl) _ _) ha5) ?_)))))
   refine DF (Bv rfl) (Bl ?_);refine ⟨⟨trivial, trivial, trivial, trivial, fun τ _ => ⟨τ, Ae Cf rfl rfl rfl⟩, trivial, trivial, trivial⟩, ?_⟩
   refine Ad (Ad (Aa (O1 (Ac Ai4 rfl rfl) (O1 (Ae ld3 rfl rfl rfl) (O1 (Cm (q := 0) ok3 rfl rfl) (Ab ?_))))));refine Ai rfl (fun h3 => ?_) (fun h3 => ?_)
   ·refine Aa (OM rfl (E2 (Br C5 byW rfl rfl rfl) (Gq (len := 1)) rfl rfl (O1 (B5 C5 rfl D0 rfl rfl rfl (new := e1 [36, 46]) rfl ha6) (OA rfl (Ab (Ad (Aa ?_)))))));refine OM rfl (OA rfl (Ab ?_));refine Ak ?_;exact ⟨_, rfl, A9 (M9 s), σ, Aw.below hw hB6, nl, ho6.fz (fun _ => rfl) (fun a ha => hw.none ha) (Ce Na _), rfl, rfl⟩
   ·exact absurd h3 (by decide)
  ·exact absurd h2 (by decide)
 ·exact absurd h1 (by decide)
def outX (s : Str) : Nat -> List Str
 | 0 => []
 | _ + 1 => M9 s
def Ara (s : Str) (b : Bool) : AV := if b = true then A9 (M9 s) else .nil (.slice none 0 0)
theorem f244 (s : Str) (σ : Sto) : Ah Ew 244 [slV eSt 4 [Ade s]] σ fun v σ' => v = .tup [Ara s (Ep s), iV (if Ep s = true then 0 else 2)] /\ σ' = σ := by
 refine A2 Tryz.func244 rfl rfl fun hw hu0 => ?_
 refine Ad (Aa (OA rfl (OA rfl (Ab (Ad (Ad (Aa ?_)))))));refine OM rfl (O1 (As Am0 rfl) (O1 (Cm (q := 2000) ok3 rfl rfl) (Ab ?_)));refine Ai rfl (fun h1 => ?_) (fun h1 => ?_)
 ·exact absurd h1 (by simp)
 ·refine Aj (Ad (Ad (Aa (OM rfl (Aq rfl rfl rfl rfl (f267 (fun _ => !Ep s) [Ade s] 268 [] σ (by simp) (fun a ha => by simp at ha; subst ha; exact f268 s (Ep s) σ (f285 s σ))) ?_)))))
  refine Ab ?_;refine Ai rfl (fun h2 => ?_) (fun h2 => ?_)
  ·refine Ad (Aa (OA rfl (OA rfl (Ab ?_))));refine Ak (Bw hw rfl ?_)
   exact (by rw [show Ep s = false from by simpa using h2]; rfl)
  ·refine Aj (Ad (Aa (OA rfl (Ab (Ad (Ad (Aa ?_)))))));refine OM rfl (O1 (As Am0 rfl) (OM rfl (Ab (Am ?_))));refine E9 (fun q : Nat × AV => [(4, q.2), (12, slV eSt 4 [Ade s]), (13, iV (.ofNat [Ade s].length)), (14, iV (.ofNat q.1))]) (fun q σ0 => q.1 <= [Ade s].length /\ Own σ0 (nx σ) e1 1 (outX s q.1) q.2 /\ Below (nx σ) σ σ0) (fun q => [Ade s].length - q.1) (0, .nil (.slice none 0 0)) ⟨rfl, rfl, rfl, rfl, trivial⟩ ⟨Nat.zero_le _, .nil, .rfl'⟩ ?_
   rintro ⟨i0, v0⟩ σ0 hP0;obtain ⟨hi0, hown0, hbel0⟩ : i0 <= [Ade s].length /\ Own σ0 (nx σ) e1 1 (outX s i0) v0 /\ Below (nx σ) σ σ0 := hP0;refine Ad (Aa (O1 (Bb ok3 rfl rfl) (Ab (Ad ?_))));refine Ai rfl (fun h3 => ?_) (fun h3 => ?_)
   ·have h3n := of_decide_eq_true h3
    have hi00 : i0 = 0 := by simp at h3n; omega
    subst hi00
    have hlt0 : 0 < 1 := by omega
    have ha0 : [Ade s][0]? = some (Ade s) := rfl
    obtain ⟨v1, τ1, ha1, ho1, hb1, _⟩ := Own.app (by' := 16) (enc := e1) (fun _ => rfl) hbel0.1 hown0 (M9 s) (by simp [sizeLim, outX, M9])
    refine Aj (Ad (Am (Ad (Aa (O1 (A3 Am1 (fun _ => rfl) rfl rfl ha0) ?_)))))
    refine O1 (Ae Vk rfl rfl rfl) (B6 zi341 Vk rfl (fun _ => rfl) rfl rfl rfl rfl ?_)
    refine Ab (Ad (Aa (OM rfl (O1 (Ae Vk rfl rfl rfl) (Aq rfl rfl rfl rfl (f270 s _) (O1 (B5 C5 rfl D0 rfl rfl rfl (new := (M9 s).flatMap e1) (Yh (enc := e1) (sz := 1) (fun _ => rfl) _ _) ha1) ?_))))))
    refine OA rfl (Ab (Ad (Aa (OM rfl (O1 (Fd D0 rfl ho1.lenA.1 ho1.lenA.2) (O1 (Cm (q := 8000) ok3 rfl rfl) (Ab ?_)))))));refine Ai rfl (fun h4 => ?_) (fun h4 => ?_)
    ·exact absurd h4 (by simp [outX, M9])
    ·refine Aj (Aa (O1 (A1 (q := 1) ok3 rfl rfl (by omega)) ?_))
     refine OM rfl (Ab ?_)
     refine ⟨(0 + 1, v1), by show 1 - 1 < 1 - 0; omega, ⟨rfl, rfl, rfl, rfl, trivial⟩, hlt0, ho1, hbel0.trans hb1⟩
   ·have h3n := of_decide_eq_false h3
    have hi01 : i0 = 1 := by have : i0 <= 1 := hi0; simp at h3n; omega
    subst hi01;refine Bf ?_;refine Ad (Aa (OM rfl (OA rfl (OA rfl (Ab ?_)))))
    have hp : Ep s = true := by simpa using h2
    refine Ak ?_
    exact ⟨_, rfl, .tup [A9 (M9 s), iV 0], σ, Aw.below hw hbel0, nl, .tup (.cons (hown0.fz (fun _ => rfl) (fun a ha => hw.none ha) (Ce Na _)) (.cons (.same rfl) .nil)), by rw [hp]; rfl, rfl⟩
theorem f215 (s : Str) (σ : Sto) : Ah Ew 215 [sV s] σ fun v σ' => v = .bool (Ep s) /\ σ' = σ := by
 refine A2 Tryz.func215 rfl rfl fun hw hu0 => ?_
 refine Ad (Aa (OA rfl (Ab (Ad (Aa (E2 (Br C5 byW rfl rfl rfl) (Gq (len := 1)) rfl rfl (OM rfl ?_)))))));refine E2 (Br C5 byW rfl rfl rfl) (Gq (len := 1)) rfl rfl (O1 (Cl bd341 rfl rfl) (E2 (Br Am1 byW rfl rfl rfl) (Gq (len := 1)) rfl rfl (Aq rfl rfl rfl rfl (f244 s _) (OM rfl (O1 (Ao rfl rfl) (O1 (Ao rfl rfl) (OA rfl ?_)))))));refine OA rfl (Ab (Ad (Aa (OM rfl (O1 (Dq (q := 0) Jp rfl rfl) (OA rfl (Ab ?_)))))));refine Ak (Bw hw rfl ?_)
 exact (by cases Ep s <;> rfl)
theorem f214 (s : Str) (σ : Sto) : Ah Ew 214 [sV s] σ fun v σ' => v = .bool (!Ep s) /\ σ' = σ := by
 refine A2 Tryz.func214 rfl rfl fun hw hu0 => ?_
 refine Ad (Aa (OA rfl (Ab (Ad (Aa (OM rfl (Aq rfl rfl rfl rfl (f215 s _) ?_)))))));refine O1 (A8 rfl) (OA rfl (Ab ?_));refine Ak (Bw hw rfl ?_);exact rfl
end Go.AM
