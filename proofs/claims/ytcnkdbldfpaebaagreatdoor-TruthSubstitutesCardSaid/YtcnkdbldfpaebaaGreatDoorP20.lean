/- A part of the proof; shortened by program. -/
import Derived.Test.YtcnkdbldfpaebaaGreatDoorP19
set_option maxRecDepth 100000
set_option maxHeartbeats 4000000
set_option linter.unusedSimpArgs false
set_option linter.unusedVariables false
namespace Go.AM
open Go Go.Proofs
def Ql (mu : SM Bool) : List Hp -> Nat -> Option Nat
 | [],n => some n
 | h :: r,n => if h.floating = true then (if (!mu.has (h.text.tail.headD [])) = true then none else Ql mu r (n + 1)) else Ql mu r n
def Alo (l : List Pr) (i : Nat) (p : Pr) : Bool := match i with
 | 0 => false
 | j + 1 => match l[j]? with | some q => decide ((0 : Int) <= cmpP q p) | none => false
theorem Apz {l : List Pr} {i : Nat} {p q : Pr} (h : 1 <= i) (hq : l[i - 1]? = some q) : Alo l i p = decide ((0 : Int) <= cmpP q p) := by
 cases i with
 | zero => omega
 | succ j => simp only [Nat.add_sub_cancel] at hq; simp only [Alo,hq]
theorem Asg {l : List Pr} {i : Nat} {p : Pr} (h : i = 0) : Alo l i p = false := by subst h; rfl
def Xi (k : Kn) (l : List Pr) (i : Nat) (p : Pr) : Bool := ((!ltS p.a p.b || !k.vars.has p.a) || !k.vars.has p.b) || Alo l i p
def Nq (k : Kn) (l : List Pr) : List Pr -> Nat -> Bool
 | [],_ => false
 | p :: r,i => Xi k l i p || Nq k l r (i + 1)
def Jy (k : Kn) (f : Fr) : SM Bool := occM k.vars (f.text :: Hh f.hyps)
def Ra (mu : SM Bool) (l : List Pr) : List Pr := Dy (fun p => !mu.has p.a || !mu.has p.b) l
def Jk (k : Kn) (f : Fr) : Int := match Ql (Jy k f) f.hyps 0 with
 | none => 70
 | some n => if (!decide (Int.ofNat n = Int.ofNat (Jy k f).length)) = true then 70 else if Nq k f.wide f.wide 0 = true then 70 else if (!decide (f.apart = Ra (Jy k f) f.wide)) = true then 70 else 0
theorem Gs.new {J : Sto} {m : Nat} {k : Kn} {o : AO} (hw : WFS J) (h : Gs J m k) : Gs (J.new o) m k := ⟨h.c.new (h.c.lt hw),h.v.new (h.v.lt hw),h.f.new (h.f.lt hw),h.h.new (h.h.lt hw),h.t.new (h.t.lt hw)⟩
theorem f137 (m : Nat) (k : Kn) (f : Fr) (J : Sto) (hk : Gs J m k) (hb : f.hyps.length < 1000000) (hb2 : ∀ t ∈ f.text :: Hh f.hyps,t.length < 1000000) (hb3 : f.wide.length < 1000000) (hfl : ∀ h ∈ f.hyps,h.floating = true -> ∃ a b,h.text = [a,b]) : Cv 137 [knV m,.agg (eF f)] J (iV (Jk k f)) := by
 refine Az Tryz.func137 rfl rfl fun hw hu0 => ?_
 refine Ac (Aa (Ar Qf rfl rfl rfl (OA rfl (Ab (Ac ?_)))))
 refine Ig 1 (anns := [aP 0 1,aP 0 1,aP 0 1,aR 0 1,aP 0 0,aR 0 0,aP 0 0,aR 0 0,aE 0 1,aE 1 2,aP 2 2]) A1 (As (l := [(164,[slV eH 3 f.hyps,A3 f.text],J,slV eL 1 (f.text :: Hh f.hyps),J),(163,[.mp (m + 1),slV eL 1 (f.text :: Hh f.hyps)],J,.mp (nx J),(J.new (Rj k.vars (f.text :: Hh f.hyps))))]) ⟨f164 f.hyps f.text J hb,f163x (m + 1) k.vars (f.text :: Hh f.hyps) J hk.v (by have := Alm (l := f.hyps); simp; omega) hb2,trivial⟩) Kr Kr ?_
 refine DF (Ag rfl) (DF (Bp rfl) (DF (Ad Ii rfl rfl) (DF (Ae E9 rfl rfl rfl) (DF (Ad Hf rfl rfl) (DF (Ae K7 rfl rfl rfl) (DF (Ad Wf rfl rfl) (DF (Ae Ce rfl rfl rfl) ?_)))))))
 refine DT (Bl rfl rfl Bm) (DT (Bl rfl rfl (D1 (by decide) Bm)) ?_)
 refine DF (Bk rfl) (Bi ?_)
 refine ⟨(by intro e he; simp at he; subst he; exact .refl),?_⟩
 refine Ac (Aa (OA rfl (Ab (Ac (Ac (Aa (O1 (Ad Hf rfl rfl) ?_)))))));refine O1 (Ae K7 rfl rfl rfl) (O1 (Aq F3 rfl) (OM rfl (Ab ?_)));have hmu : E7 (J.new (Rj k.vars (f.text :: Hh f.hyps))) (nx J) (Jy k f) := Bx.fresh;have hk1 : Gs (J.new (Rj k.vars (f.text :: Hh f.hyps))) m k := hk.new hw;refine Am ?_;refine Fi (fun q : Nat × AV => [(0,knV m),(3,.pv (eF f)),(5,.mp (nx J)),(6,q.2),(22,slV eH 3 f.hyps),(23,iV (.ofNat f.hyps.length)),(24,iV (.ofNat q.1))]) (fun q J0 => q.1 <= f.hyps.length /\ J0 = (J.new (Rj k.vars (f.text :: Hh f.hyps))) /\ ∃ n,q.2 = iV (.ofNat n) /\ n <= q.1 /\ Ql (Jy k f) f.hyps 0 = Ql (Jy k f) (f.hyps.drop q.1) n) (fun q => f.hyps.length - q.1) (0,iV (.ofNat 0)) SL ⟨ch_ _,rfl,0,rfl,nl,rfl⟩ ?_
 rintro ⟨i0,v0⟩ J0 hP0;obtain ⟨hi0,rfl,n,hvn,hni,hf0⟩ : i0 <= f.hyps.length /\ J0 = (J.new (Rj k.vars (f.text :: Hh f.hyps))) /\ ∃ n,v0 = iV (.ofNat n) /\ n <= i0 /\ Ql (Jy k f) f.hyps 0 = Ql (Jy k f) (f.hyps.drop i0) n := hP0;refine Ac (Aa (O1 (A8 ok3 rfl rfl) (Ab (Ac ?_))));refine Ah rfl ?_ ?_ <;> intro h1
 ·have bf : i0 < f.hyps.length := by simpa using h1
  obtain ⟨a0,ha0⟩ := Bt bf;have hd0 := Bh ha0;subst hvn;refine Ai (Ac (Am (Ac (Aa (O1 (Ax Ih (fun _ => rfl) rfl rfl ha0) ?_)))))
  refine O1 (Ae D2 rfl rfl rfl) (Bz Sm D2 rfl (fun _ => rfl) rfl rfl rfl rfl ?_)
  refine Ab (Ac (Aa (O1 (Ad I2 rfl rfl) (O1 (Ae ld4 rfl rfl rfl) (Ab ?_)))));refine Ah rfl ?_ ?_ <;> intro h2
  ·have h2' : a0.floating = true := h2;obtain ⟨ta,tb,htx⟩ := hfl a0 (af_ ha0) h2'
   refine Ac (Ac (Aa (OM rfl (O1 (Ad C7 rfl rfl) (O1 (Ae Ce rfl rfl rfl) (O1 (Ax Da (fun _ => rfl) rfl rfl (by rw [htx]; rfl : a0.text[1]? = some tb) (i := 1)) ?_))))))
   refine O1 (Ae ld9 rfl rfl rfl) (O1 (De st9 Cz rfl hmu rfl) (O1 (Bb rfl) (Ab ?_)));refine Ah rfl ?_ ?_ <;> intro h3
   ·refine Ac (Aa (OA rfl (Ab ?_)))
    have hS : Jk k f = 70 := by rw [Jk,hf0,hd0,Ql,if_pos h2',if_pos (by rw [htx]; exact h3)]
    refine An ?_;exact ⟨_,rfl,_,J,ap_ hw (Below.rfl'.new nl _),nl,.same rfl,congrArg iV hS.symm,rfl⟩
   ·refine Ai (Aa (OM rfl (O1 (Ay (p := n) (q := 1) ok3 rfl rfl Om) ?_)));refine OA rfl (Ab (Aa (O1 (Ay (q := 1) ok3 rfl rfl Om) ?_)));refine OM rfl (Ab ?_)
    refine ⟨(i0 + 1,iV (.ofNat (n + 1))),by show f.hyps.length - (i0 + 1) < f.hyps.length - i0; omega,SL,bf,rfl,n + 1,rfl,by omega,by rw [hf0,hd0,Ql,if_pos h2',if_neg (by rw [htx]; exact fun hh => Bool.noConfusion (h3.symm.trans hh))]⟩
  ·have h2' : a0.floating = false := h2;refine Ai (Aa (O1 (Ay (q := 1) ok3 rfl rfl Om) ?_));refine OM rfl (Ab ?_)
   refine ⟨(i0 + 1,iV (.ofNat n)),by show f.hyps.length - (i0 + 1) < f.hyps.length - i0; omega,SL,bf,rfl,n,rfl,by omega,by rw [hf0,hd0,Ql,if_neg (by rw [h2']; simp)]⟩
 ·have bq : f.hyps.length <= i0 := by simpa using h1
  subst hvn
  have hs : Ql (Jy k f) f.hyps 0 = some n := by rw [hf0,ah_ bq]; rfl
  refine Ba ?_;refine Ac (Ac (Aa (OM rfl (OM rfl (O1 (Ak0 Cz rfl hmu) (O1 (Cx ok3 rfl rfl) (Ab ?_)))))));refine Ah rfl ?_ ?_ <;> intro h2
  ·refine Ac (Aa (OA rfl (Ab ?_)))
   have hS : Jk k f = 70 := by rw [Jk,hs]; exact if_pos h2
   refine An ?_;exact ⟨_,rfl,_,J,ap_ hw (Below.rfl'.new nl _),nl,.same rfl,congrArg iV hS.symm,rfl⟩
  ·refine Ai (Ac (Ac (Aa (O1 (Ad Aeu rfl rfl) (O1 (Ae Am7 rfl rfl rfl) (O1 (Aq Aak rfl) (OM rfl ?_)))))));refine Ab (Am ?_);refine B8 f.wide.length (fun i2 => [(0,knV m),(3,.pv (eF f)),(5,.mp (nx J)),(45,slV eP 2 f.wide),(46,iV (.ofNat f.wide.length)),(47,iV (.ofNat i2))]) (fun i2 J2 => J2 = (J.new (Rj k.vars (f.text :: Hh f.hyps))) /\ Nq k f.wide f.wide 0 = Nq k f.wide (f.wide.drop i2) i2) SL ⟨rfl,rfl⟩ ?_
   rintro i2 J2 hi2 ⟨rfl,hf2⟩;refine Ac (Aa (O1 (A8 ok3 rfl rfl) (Ab (Ac ?_))));refine Ah rfl ?_ ?_ <;> intro h3
   ·have br : i2 < f.wide.length := by simpa using h3
    obtain ⟨a2,ha2⟩ := Bt br;have hd2 := Bh ha2;refine Ai (Ac (Am (Ac (Aa (OM rfl (O1 (Ax We (fun _ => rfl) rfl rfl ha2) ?_))))))
    refine O1 (Ae Jx rfl rfl rfl) (Ub Ath Jx rfl rfl (fun _ => rfl) rfl (fun _ => rfl) rfl rfl rfl rfl rfl ?_)
    refine Ab ?_;refine Hu [(91,.bool (Xi k f.wide i2 a2))] ?_ ?_
    ·rcases au_ (!ltS a2.a a2.b) with hg5 | hg5
     ·refine Cc (anns := [aP 0 0,aR 0 0,aP 0 0,aR 0 0,aP 0 0,aP 0 0,aP 0 0,aP 0 0,aP 0 0,aR 0 0,aP 0 0,aR 0 0,aR 0 0,aP 0 0,aP 0 0,aP 0 0,aP 0 0,aP 0 0,aP 0 0,aR 0 0,aP 0 0,aR 0 0,aR 0 0,aP 0 0,aP 0 0,aP 0 0,aP 0 0,aP 0 0,aP 0 0,aP 0 0,aR 0 0,aP 0 0,aP 0 0,aP 0 0,aR 0 0,aR 0 0,aE 0 1,aP 1 1,aP 1 1,aP 1 1]) A1 (As (l := []) trivial) Kr Kr ?_;refine DF (Ad G8 rfl rfl) (DF (Ae ld9 rfl rfl rfl) (DF (Ad Ij rfl rfl) (DF (Ae ld9 rfl rfl rfl) (DF (Z8 ok9 rfl rfl) (DF (Ag rfl) ?_)))))
      refine Wx (w := by first|rfl|simp only [hg5]<;>rfl|simp [hg5]) ?_
      refine Wx (w := by first|rfl|simp only [hg5]<;>rfl|simp [hg5]) ?_
      refine Wx (w := by first|rfl|simp only [hg5]<;>rfl|simp [hg5]) ?_
      refine Wx (w := by first|rfl|simp only [hg5]<;>rfl|simp [hg5]) ?_
      refine Wx (w := by first|rfl|simp only [hg5]<;>rfl|simp [hg5]) ?_
      refine Wx (w := by first|rfl|simp only [hg5]<;>rfl|simp [hg5]) ?_
      refine Wx (w := by first|rfl|simp only [hg5]<;>rfl|simp [hg5]) ?_
      refine Wx (w := by first|rfl|simp only [hg5]<;>rfl|simp [hg5]) ?_
      refine DF (Bu rfl (by first|rfl|simp only [hg5]<;>rfl|simp [hg5]) rfl) ?_
      refine DF (Ag rfl) ?_
      refine Wx (w := by first|rfl|simp only [hg5]<;>rfl|simp [hg5]) ?_
      refine Wx (w := by first|rfl|simp only [hg5]<;>rfl|simp [hg5]) ?_
      refine Wx (w := by first|rfl|simp only [hg5]<;>rfl|simp [hg5]) ?_
      refine Wx (w := by first|rfl|simp only [hg5]<;>rfl|simp [hg5]) ?_
      refine Wx (w := by first|rfl|simp only [hg5]<;>rfl|simp [hg5]) ?_
      refine Wx (w := by first|rfl|simp only [hg5]<;>rfl|simp [hg5]) ?_
      refine Wx (w := by first|rfl|simp only [hg5]<;>rfl|simp [hg5]) ?_
      refine Wx (w := by first|rfl|simp only [hg5]<;>rfl|simp [hg5]) ?_
      refine DF (Bu rfl (by first|rfl|simp only [hg5]<;>rfl|simp [hg5]) rfl) ?_
      refine DF (Ag rfl) ?_
      refine Wx (w := by first|rfl|simp only [hg5]<;>rfl|simp [hg5]) ?_
      refine Wx (w := by first|rfl|simp only [hg5]<;>rfl|simp [hg5]) ?_
      refine Wx (w := by first|rfl|simp only [hg5]<;>rfl|simp [hg5]) ?_
      refine Du (Du (Du (Du (Du (Du (Du (Yb (e := true) rfl rfl rfl rfl rfl rfl ?_)))))));refine Du ?_
      refine Wx (w := by first|rfl|simp only [hg5]<;>rfl|simp [hg5]) ?_
      refine DF (Bu rfl (by first|rfl|simp only [hg5]<;>rfl|simp [hg5]) rfl) ?_
      refine Bi ?_
      exact ⟨⟨congrArg (fun b => some (AV.bool b)) (by unfold Xi; rw [hg5]; rfl),trivial⟩,sb,rfl⟩
     ·rcases au_ (!k.vars.has a2.a) with bc | bc
      ·refine Cc (anns := [aP 0 0,aR 0 0,aP 0 0,aR 0 0,aP 0 0,aP 0 0,aP 0 0,aP 0 0,aP 0 0,aR 0 0,aP 0 0,aR 0 0,aR 0 0,aP 0 0,aP 0 0,aP 0 0,aP 0 0,aP 0 0,aP 0 0,aR 0 0,aP 0 0,aR 0 0,aR 0 0,aP 0 0,aP 0 0,aP 0 0,aP 0 0,aP 0 0,aP 0 0,aP 0 0,aR 0 0,aP 0 0,aP 0 0,aP 0 0,aR 0 0,aR 0 0,aE 0 1,aP 1 1,aP 1 1,aP 1 1]) A1 (As (l := []) trivial) Kr Kr ?_;refine DF (Ad G8 rfl rfl) (DF (Ae ld9 rfl rfl rfl) (DF (Ad Ij rfl rfl) (DF (Ae ld9 rfl rfl rfl) (DF (Z8 ok9 rfl rfl) (DF (Ag rfl) ?_)))))
       refine Wn (w := by first|rfl|simp only [bc,hg5]<;>rfl|simp [bc,hg5]) (Ag rfl) ?_
       refine Wn (w := by first|rfl|simp only [bc,hg5]<;>rfl|simp [bc,hg5]) (Bp rfl) ?_
       refine Wn (w := by first|rfl|simp only [bc,hg5]<;>rfl|simp [bc,hg5]) (Ad Ii rfl rfl) ?_
       refine Wn (w := by first|rfl|simp only [bc,hg5]<;>rfl|simp [bc,hg5]) (Ae E9 rfl rfl rfl) ?_
       refine Wn (w := by first|rfl|simp only [bc,hg5]<;>rfl|simp [bc,hg5]) (Ad G8 rfl rfl) ?_
       refine Wn (w := by first|rfl|simp only [bc,hg5]<;>rfl|simp [bc,hg5]) (Ae ld9 rfl rfl rfl) ?_
       refine Wn (w := by first|rfl|simp only [bc,hg5]<;>rfl|simp [bc,hg5]) (De st9 Cz rfl hk1.v rfl) ?_
       refine Wn (w := by first|rfl|simp only [bc,hg5]<;>rfl|simp [bc,hg5]) (Bb rfl) ?_
       refine DF (Br rfl (by first|rfl|simp only [bc,hg5]<;>rfl|simp [bc,hg5]) rfl) ?_
       refine DF (Ag rfl) ?_
       refine Wx (w := by first|rfl|simp only [bc,hg5]<;>rfl|simp [bc,hg5]) ?_
       refine Wx (w := by first|rfl|simp only [bc,hg5]<;>rfl|simp [bc,hg5]) ?_
       refine Wx (w := by first|rfl|simp only [bc,hg5]<;>rfl|simp [bc,hg5]) ?_
       refine Wx (w := by first|rfl|simp only [bc,hg5]<;>rfl|simp [bc,hg5]) ?_
       refine Wx (w := by first|rfl|simp only [bc,hg5]<;>rfl|simp [bc,hg5]) ?_
       refine Wx (w := by first|rfl|simp only [bc,hg5]<;>rfl|simp [bc,hg5]) ?_
       refine Wx (w := by first|rfl|simp only [bc,hg5]<;>rfl|simp [bc,hg5]) ?_
       refine Wx (w := by first|rfl|simp only [bc,hg5]<;>rfl|simp [bc,hg5]) ?_
       refine DF (Bu rfl (by first|rfl|simp only [bc,hg5]<;>rfl|simp [bc,hg5]) rfl) ?_
       refine DF (Ag rfl) ?_
       refine Wx (w := by first|rfl|simp only [bc,hg5]<;>rfl|simp [bc,hg5]) ?_
       refine Wx (w := by first|rfl|simp only [bc,hg5]<;>rfl|simp [bc,hg5]) ?_
       refine Wx (w := by first|rfl|simp only [bc,hg5]<;>rfl|simp [bc,hg5]) ?_
       refine Du (Du (Du (Du (Du (Du (Du (Yb (e := true) rfl rfl rfl rfl rfl rfl ?_)))))));refine Du ?_
       refine Wx (w := by first|rfl|simp only [bc,hg5]<;>rfl|simp [bc,hg5]) ?_
       refine DF (Bu rfl (by first|rfl|simp only [bc,hg5]<;>rfl|simp [bc,hg5]) rfl) ?_
       refine Bi ?_
       exact ⟨⟨congrArg (fun b => some (AV.bool b)) (by unfold Xi; rw [hg5,bc]; rfl),trivial⟩,sb,rfl⟩
      ·rcases au_ (!k.vars.has a2.b) with bd | bd
       ·refine Cc (anns := [aP 0 0,aR 0 0,aP 0 0,aR 0 0,aP 0 0,aP 0 0,aP 0 0,aP 0 0,aP 0 0,aR 0 0,aP 0 0,aR 0 0,aR 0 0,aP 0 0,aP 0 0,aP 0 0,aP 0 0,aP 0 0,aP 0 0,aR 0 0,aP 0 0,aR 0 0,aR 0 0,aP 0 0,aP 0 0,aP 0 0,aP 0 0,aP 0 0,aP 0 0,aP 0 0,aR 0 0,aP 0 0,aP 0 0,aP 0 0,aR 0 0,aR 0 0,aE 0 1,aP 1 1,aP 1 1,aP 1 1]) A1 (As (l := []) trivial) Kr Kr ?_;refine DF (Ad G8 rfl rfl) (DF (Ae ld9 rfl rfl rfl) (DF (Ad Ij rfl rfl) (DF (Ae ld9 rfl rfl rfl) (DF (Z8 ok9 rfl rfl) (DF (Ag rfl) ?_)))))
        refine Wn (w := by first|rfl|simp only [bd,bc,hg5]<;>rfl|simp [bd,bc,hg5]) (Ag rfl) ?_
        refine Wn (w := by first|rfl|simp only [bd,bc,hg5]<;>rfl|simp [bd,bc,hg5]) (Bp rfl) ?_
        refine Wn (w := by first|rfl|simp only [bd,bc,hg5]<;>rfl|simp [bd,bc,hg5]) (Ad Ii rfl rfl) ?_
        refine Wn (w := by first|rfl|simp only [bd,bc,hg5]<;>rfl|simp [bd,bc,hg5]) (Ae E9 rfl rfl rfl) ?_
        refine Wn (w := by first|rfl|simp only [bd,bc,hg5]<;>rfl|simp [bd,bc,hg5]) (Ad G8 rfl rfl) ?_
        refine Wn (w := by first|rfl|simp only [bd,bc,hg5]<;>rfl|simp [bd,bc,hg5]) (Ae ld9 rfl rfl rfl) ?_
        refine Wn (w := by first|rfl|simp only [bd,bc,hg5]<;>rfl|simp [bd,bc,hg5]) (De st9 Cz rfl hk1.v rfl) ?_
        refine Wn (w := by first|rfl|simp only [bd,bc,hg5]<;>rfl|simp [bd,bc,hg5]) (Bb rfl) ?_
        refine DF (Br rfl (by first|rfl|simp only [bd,bc,hg5]<;>rfl|simp [bd,bc,hg5]) rfl) ?_
        refine DF (Ag rfl) ?_
        refine Wn (w := by first|rfl|simp only [bd,bc,hg5]<;>rfl|simp [bd,bc,hg5]) (Ag rfl) ?_
        refine Wn (w := by first|rfl|simp only [bd,bc,hg5]<;>rfl|simp [bd,bc,hg5]) (Bp rfl) ?_
        refine Wn (w := by first|rfl|simp only [bd,bc,hg5]<;>rfl|simp [bd,bc,hg5]) (Ad Ii rfl rfl) ?_
        refine Wn (w := by first|rfl|simp only [bd,bc,hg5]<;>rfl|simp [bd,bc,hg5]) (Ae E9 rfl rfl rfl) ?_
        refine Wn (w := by first|rfl|simp only [bd,bc,hg5]<;>rfl|simp [bd,bc,hg5]) (Ad Ij rfl rfl) ?_
        refine Wn (w := by first|rfl|simp only [bd,bc,hg5]<;>rfl|simp [bd,bc,hg5]) (Ae ld9 rfl rfl rfl) ?_
        refine Wn (w := by first|rfl|simp only [bd,bc,hg5]<;>rfl|simp [bd,bc,hg5]) (De st9 Cz rfl hk1.v rfl) ?_
        refine Wn (w := by first|rfl|simp only [bd,bc,hg5]<;>rfl|simp [bd,bc,hg5]) (Bb rfl) ?_
        refine DF (Br rfl (by first|rfl|simp only [bd,bc,hg5]<;>rfl|simp [bd,bc,hg5]) rfl) ?_
        refine DF (Ag rfl) ?_
        refine Wx (w := by first|rfl|simp only [bd,bc,hg5]<;>rfl|simp [bd,bc,hg5]) ?_
        refine Wx (w := by first|rfl|simp only [bd,bc,hg5]<;>rfl|simp [bd,bc,hg5]) ?_
        refine Wx (w := by first|rfl|simp only [bd,bc,hg5]<;>rfl|simp [bd,bc,hg5]) ?_
        refine Du (Du (Du (Du (Du (Du (Du (Yb (e := true) rfl rfl rfl rfl rfl rfl ?_)))))));refine Du ?_
        refine Wx (w := by first|rfl|simp only [bd,bc,hg5]<;>rfl|simp [bd,bc,hg5]) ?_
        refine DF (Bu rfl (by first|rfl|simp only [bd,bc,hg5]<;>rfl|simp [bd,bc,hg5]) rfl) ?_
        refine Bi ?_
        exact ⟨⟨congrArg (fun b => some (AV.bool b)) (by unfold Xi; rw [hg5,bc,bd]; rfl),trivial⟩,sb,rfl⟩
       ·rcases au_ (decide ((0 : Int) < Int.ofNat i2)) with bg | bg
        ·have h1i : 0 < i2 := by simpa using bg
         obtain ⟨pq,hpq⟩ := Bt (show i2 - 1 < f.wide.length by omega)
         refine Cc (anns := [aP 0 0,aR 0 0,aP 0 0,aR 0 0,aP 0 0,aP 0 0,aP 0 0,aP 0 0,aP 0 0,aR 0 0,aP 0 0,aR 0 0,aR 0 0,aP 0 0,aP 0 0,aP 0 0,aP 0 0,aP 0 0,aP 0 0,aR 0 0,aP 0 0,aR 0 0,aR 0 0,aP 0 0,aP 0 0,aP 0 0,aP 0 0,aP 0 0,aP 0 0,aP 0 0,aR 0 0,aP 0 0,aP 0 0,aP 0 0,aR 0 0,aR 0 0,aE 0 1,aP 1 1,aP 1 1,aP 1 1]) A1 (As (l := [(165,[.agg (eP pq),.agg (eP a2)],(J.new (Rj k.vars (f.text :: Hh f.hyps))),iV (cmpP pq a2),(J.new (Rj k.vars (f.text :: Hh f.hyps))))]) ⟨f165 pq a2 _,trivial⟩) Kr Kr ?_;refine DF (Ad G8 rfl rfl) (DF (Ae ld9 rfl rfl rfl) (DF (Ad Ij rfl rfl) (DF (Ae ld9 rfl rfl rfl) (DF (Z8 ok9 rfl rfl) (DF (Ag rfl) ?_)))))
         refine Wn (w := by first|rfl|simp only [bg,bd,bc,hg5]<;>rfl|simp [bg,bd,bc,hg5]) (Ag rfl) ?_
         refine Wn (w := by first|rfl|simp only [bg,bd,bc,hg5]<;>rfl|simp [bg,bd,bc,hg5]) (Bp rfl) ?_
         refine Wn (w := by first|rfl|simp only [bg,bd,bc,hg5]<;>rfl|simp [bg,bd,bc,hg5]) (Ad Ii rfl rfl) ?_
         refine Wn (w := by first|rfl|simp only [bg,bd,bc,hg5]<;>rfl|simp [bg,bd,bc,hg5]) (Ae E9 rfl rfl rfl) ?_
         refine Wn (w := by first|rfl|simp only [bg,bd,bc,hg5]<;>rfl|simp [bg,bd,bc,hg5]) (Ad G8 rfl rfl) ?_
         refine Wn (w := by first|rfl|simp only [bg,bd,bc,hg5]<;>rfl|simp [bg,bd,bc,hg5]) (Ae ld9 rfl rfl rfl) ?_
         refine Wn (w := by first|rfl|simp only [bg,bd,bc,hg5]<;>rfl|simp [bg,bd,bc,hg5]) (De st9 Cz rfl hk1.v rfl) ?_
         refine Wn (w := by first|rfl|simp only [bg,bd,bc,hg5]<;>rfl|simp [bg,bd,bc,hg5]) (Bb rfl) ?_
         refine DF (Br rfl (by first|rfl|simp only [bg,bd,bc,hg5]<;>rfl|simp [bg,bd,bc,hg5]) rfl) ?_
         refine DF (Ag rfl) ?_
         refine Wn (w := by first|rfl|simp only [bg,bd,bc,hg5]<;>rfl|simp [bg,bd,bc,hg5]) (Ag rfl) ?_
         refine Wn (w := by first|rfl|simp only [bg,bd,bc,hg5]<;>rfl|simp [bg,bd,bc,hg5]) (Bp rfl) ?_
         refine Wn (w := by first|rfl|simp only [bg,bd,bc,hg5]<;>rfl|simp [bg,bd,bc,hg5]) (Ad Ii rfl rfl) ?_
         refine Wn (w := by first|rfl|simp only [bg,bd,bc,hg5]<;>rfl|simp [bg,bd,bc,hg5]) (Ae E9 rfl rfl rfl) ?_
         refine Wn (w := by first|rfl|simp only [bg,bd,bc,hg5]<;>rfl|simp [bg,bd,bc,hg5]) (Ad Ij rfl rfl) ?_
         refine Wn (w := by first|rfl|simp only [bg,bd,bc,hg5]<;>rfl|simp [bg,bd,bc,hg5]) (Ae ld9 rfl rfl rfl) ?_
         refine Wn (w := by first|rfl|simp only [bg,bd,bc,hg5]<;>rfl|simp [bg,bd,bc,hg5]) (De st9 Cz rfl hk1.v rfl) ?_
         refine Wn (w := by first|rfl|simp only [bg,bd,bc,hg5]<;>rfl|simp [bg,bd,bc,hg5]) (Bb rfl) ?_
         refine DF (Br rfl (by first|rfl|simp only [bg,bd,bc,hg5]<;>rfl|simp [bg,bd,bc,hg5]) rfl) ?_
         refine DF (Ag rfl) ?_
         refine Wn (w := by first|rfl|simp only [bg,bd,bc,hg5]<;>rfl|simp [bg,bd,bc,hg5]) (Ag rfl) ?_
         refine Wn (w := by first|rfl|simp only [bg,bd,bc,hg5]<;>rfl|simp [bg,bd,bc,hg5]) (Ca (q := 0) ok3 rfl rfl) ?_
         refine Wn (w := by first|rfl|simp only [bg,bd,bc,hg5]<;>rfl|simp [bg,bd,bc,hg5]) (Ag rfl) ?_
         refine Wn (w := by first|rfl|simp only [bg,bd,bc,hg5]<;>rfl|simp [bg,bd,bc,hg5]) (Ad Aeu rfl rfl) ?_
         refine Wn (w := by first|rfl|simp only [bg,bd,bc,hg5]<;>rfl|simp [bg,bd,bc,hg5]) (Ae Am7 rfl rfl rfl) ?_
         refine Wn (w := by first|rfl|simp only [bg,bd,bc,hg5]<;>rfl|simp [bg,bd,bc,hg5]) (Ag rfl) ?_
         refine Wn (w := by first|rfl|simp only [bg,bd,bc,hg5]<;>rfl|simp [bg,bd,bc,hg5]) (Aei (p := i2) (q := 1) ok3 rfl rfl Om Om) ?_
         refine Wn (w := by first|rfl|simp only [bg,bd,bc,hg5]<;>rfl|simp [bg,bd,bc,hg5]) (Ax We (fun _ => rfl) rfl rfl hpq) ?_
         refine Wn (w := by first|rfl|simp only [bg,bd,bc,hg5]<;>rfl|simp [bg,bd,bc,hg5]) (Ae Jx rfl rfl rfl) ?_
         refine Wn (w := by first|rfl|simp only [bg,bd,bc,hg5]<;>rfl|simp [bg,bd,bc,hg5]) (Ae Jx rfl rfl rfl) ?_
         refine P9 (e := true) rfl rfl rfl rfl (by first|rfl|simp only [bg,bd,bc,hg5]<;>rfl|simp [bg,bd,bc,hg5]) rfl rfl (Bl rfl rfl Bm) ?_
         refine Wn (w := by first|rfl|simp only [bg,bd,bc,hg5]<;>rfl|simp [bg,bd,bc,hg5]) (Eq (q := 0) ok3 rfl rfl) ?_
         refine Wn (w := by first|rfl|simp only [bg,bd,bc,hg5]<;>rfl|simp [bg,bd,bc,hg5]) (Bu rfl (by first|rfl|simp only [bg,bd,bc,hg5]<;>rfl|simp [bg,bd,bc,hg5]) rfl) ?_
         refine DF (Br rfl (by first|rfl|simp only [bg,bd,bc,hg5]<;>rfl|simp [bg,bd,bc,hg5]) rfl) ?_
         refine Bi ?_
         exact ⟨⟨congrArg (fun b => some (AV.bool b)) (by unfold Xi; rw [hg5,bc,bd,Apz h1i hpq]; rfl),trivial⟩,sb,rfl⟩
        ·refine Cc (anns := [aP 0 0,aR 0 0,aP 0 0,aR 0 0,aP 0 0,aP 0 0,aP 0 0,aP 0 0,aP 0 0,aR 0 0,aP 0 0,aR 0 0,aR 0 0,aP 0 0,aP 0 0,aP 0 0,aP 0 0,aP 0 0,aP 0 0,aR 0 0,aP 0 0,aR 0 0,aR 0 0,aP 0 0,aP 0 0,aP 0 0,aP 0 0,aP 0 0,aP 0 0,aP 0 0,aR 0 0,aP 0 0,aP 0 0,aP 0 0,aR 0 0,aR 0 0,aE 0 1,aP 1 1,aP 1 1,aP 1 1]) A1 (As (l := []) trivial) Kr Kr ?_;refine DF (Ad G8 rfl rfl) (DF (Ae ld9 rfl rfl rfl) (DF (Ad Ij rfl rfl) (DF (Ae ld9 rfl rfl rfl) (DF (Z8 ok9 rfl rfl) (DF (Ag rfl) ?_)))))
         refine Wn (w := by first|rfl|simp only [bg,bd,bc,hg5]<;>rfl|simp [bg,bd,bc,hg5]) (Ag rfl) ?_
         refine Wn (w := by first|rfl|simp only [bg,bd,bc,hg5]<;>rfl|simp [bg,bd,bc,hg5]) (Bp rfl) ?_
         refine Wn (w := by first|rfl|simp only [bg,bd,bc,hg5]<;>rfl|simp [bg,bd,bc,hg5]) (Ad Ii rfl rfl) ?_
         refine Wn (w := by first|rfl|simp only [bg,bd,bc,hg5]<;>rfl|simp [bg,bd,bc,hg5]) (Ae E9 rfl rfl rfl) ?_
         refine Wn (w := by first|rfl|simp only [bg,bd,bc,hg5]<;>rfl|simp [bg,bd,bc,hg5]) (Ad G8 rfl rfl) ?_
         refine Wn (w := by first|rfl|simp only [bg,bd,bc,hg5]<;>rfl|simp [bg,bd,bc,hg5]) (Ae ld9 rfl rfl rfl) ?_
         refine Wn (w := by first|rfl|simp only [bg,bd,bc,hg5]<;>rfl|simp [bg,bd,bc,hg5]) (De st9 Cz rfl hk1.v rfl) ?_
         refine Wn (w := by first|rfl|simp only [bg,bd,bc,hg5]<;>rfl|simp [bg,bd,bc,hg5]) (Bb rfl) ?_
         refine DF (Br rfl (by first|rfl|simp only [bg,bd,bc,hg5]<;>rfl|simp [bg,bd,bc,hg5]) rfl) ?_
         refine DF (Ag rfl) ?_
         refine Wn (w := by first|rfl|simp only [bg,bd,bc,hg5]<;>rfl|simp [bg,bd,bc,hg5]) (Ag rfl) ?_
         refine Wn (w := by first|rfl|simp only [bg,bd,bc,hg5]<;>rfl|simp [bg,bd,bc,hg5]) (Bp rfl) ?_
         refine Wn (w := by first|rfl|simp only [bg,bd,bc,hg5]<;>rfl|simp [bg,bd,bc,hg5]) (Ad Ii rfl rfl) ?_
         refine Wn (w := by first|rfl|simp only [bg,bd,bc,hg5]<;>rfl|simp [bg,bd,bc,hg5]) (Ae E9 rfl rfl rfl) ?_
         refine Wn (w := by first|rfl|simp only [bg,bd,bc,hg5]<;>rfl|simp [bg,bd,bc,hg5]) (Ad Ij rfl rfl) ?_
         refine Wn (w := by first|rfl|simp only [bg,bd,bc,hg5]<;>rfl|simp [bg,bd,bc,hg5]) (Ae ld9 rfl rfl rfl) ?_
         refine Wn (w := by first|rfl|simp only [bg,bd,bc,hg5]<;>rfl|simp [bg,bd,bc,hg5]) (De st9 Cz rfl hk1.v rfl) ?_
         refine Wn (w := by first|rfl|simp only [bg,bd,bc,hg5]<;>rfl|simp [bg,bd,bc,hg5]) (Bb rfl) ?_
         refine DF (Br rfl (by first|rfl|simp only [bg,bd,bc,hg5]<;>rfl|simp [bg,bd,bc,hg5]) rfl) ?_
         refine DF (Ag rfl) ?_
         refine Wn (w := by first|rfl|simp only [bg,bd,bc,hg5]<;>rfl|simp [bg,bd,bc,hg5]) (Ag rfl) ?_
         refine Wn (w := by first|rfl|simp only [bg,bd,bc,hg5]<;>rfl|simp [bg,bd,bc,hg5]) (Ca (q := 0) ok3 rfl rfl) ?_
         refine Wn (w := by first|rfl|simp only [bg,bd,bc,hg5]<;>rfl|simp [bg,bd,bc,hg5]) (Ag rfl) ?_
         refine Wx (w := by first|rfl|simp only [bg,bd,bc,hg5]<;>rfl|simp [bg,bd,bc,hg5]) ?_
         refine Wx (w := by first|rfl|simp only [bg,bd,bc,hg5]<;>rfl|simp [bg,bd,bc,hg5]) ?_
         refine Wx (w := by first|rfl|simp only [bg,bd,bc,hg5]<;>rfl|simp [bg,bd,bc,hg5]) ?_
         refine Wx (w := by first|rfl|simp only [bg,bd,bc,hg5]<;>rfl|simp [bg,bd,bc,hg5]) ?_
         refine Wx (w := by first|rfl|simp only [bg,bd,bc,hg5]<;>rfl|simp [bg,bd,bc,hg5]) ?_
         refine Wx (w := by first|rfl|simp only [bg,bd,bc,hg5]<;>rfl|simp [bg,bd,bc,hg5]) ?_
         refine Wx (w := by first|rfl|simp only [bg,bd,bc,hg5]<;>rfl|simp [bg,bd,bc,hg5]) ?_
         refine Sd (e := true) rfl rfl rfl rfl (by first|rfl|simp only [bg,bd,bc,hg5]<;>rfl|simp [bg,bd,bc,hg5]) rfl rfl ?_
         refine Wx (w := by first|rfl|simp only [bg,bd,bc,hg5]<;>rfl|simp [bg,bd,bc,hg5]) ?_
         refine Wn (w := by first|rfl|simp only [bg,bd,bc,hg5]<;>rfl|simp [bg,bd,bc,hg5]) (Br rfl (by first|rfl|simp only [bg,bd,bc,hg5]<;>rfl|simp [bg,bd,bc,hg5]) rfl) ?_
         refine DF (Br rfl (by first|rfl|simp only [bg,bd,bc,hg5]<;>rfl|simp [bg,bd,bc,hg5]) rfl) ?_
         refine Bi ?_
         exact ⟨⟨congrArg (fun b => some (AV.bool b)) (by unfold Xi; rw [hg5,bc,bd,Asg (by simpa using bg)]; rfl),trivial⟩,sb,rfl⟩
    refine Ah rfl ?_ ?_ <;> intro h4
    ·refine Ac (Aa (OA rfl (Ab ?_)))
     have hS : Jk k f = 70 := by rw [Jk,hs]; exact (if_neg (fun hh => Bool.noConfusion (h2.symm.trans hh))).trans (if_pos (by rw [hf2,hd2,Nq,h4]; rfl))
     refine An ?_;exact ⟨_,rfl,_,J,ap_ hw (Below.rfl'.new nl _),nl,.same rfl,congrArg iV hS.symm,rfl⟩
    ·have hx4 : Xi k f.wide i2 a2 = false := h4;refine Ai (Aa (O1 (Ay (q := 1) ok3 rfl rfl Om) ?_));refine OM rfl (Ab ?_)
     refine ⟨br,SL,rfl,by rw [hf2,hd2,Nq,hx4]; rfl⟩
   ·have b8 : f.wide.length <= i2 := by simpa using h3
    have hwb : Nq k f.wide f.wide 0 = false := by rw [hf2,ah_ b8]; rfl
    refine Ba ?_;refine Ac (Ac ?_)
    refine Ig 1 (anns := [aP 0 1,aR 0 1,aP 0 0,aP 0 0,aR 0 0,aE 0 1,aE 1 2,aP 2 2]) A1 (As (l := [(167,[.mp (nx J),slV eP 2 f.wide],(J.new (Rj k.vars (f.text :: Hh f.hyps))),slV eP 2 (Ra (Jy k f) f.wide),(J.new (Rj k.vars (f.text :: Hh f.hyps)))),(166,[slV eP 2 f.apart,slV eP 2 (Ra (Jy k f) f.wide)],(J.new (Rj k.vars (f.text :: Hh f.hyps))),.bool (decide (f.apart = Ra (Jy k f) f.wide)),(J.new (Rj k.vars (f.text :: Hh f.hyps))))]) ⟨f167 (nx J) (Jy k f) f.wide (J.new (Rj k.vars (f.text :: Hh f.hyps))) hmu hb3,f166 f.apart (Ra (Jy k f) f.wide) (J.new (Rj k.vars (f.text :: Hh f.hyps))) (by have := Fy (p := fun p : Pr => !(Jy k f).has p.a || !(Jy k f).has p.b) (l := f.wide); unfold Ra; omega),trivial⟩) Kr Kr ?_
    refine DF (Ad Apl rfl rfl) (DF (Ae Am7 rfl rfl rfl) (DF (Ag rfl) (DF (Ad Aeu rfl rfl) (DF (Ae Am7 rfl rfl rfl) (DT (Bl rfl rfl Bm) (DT (Bl rfl rfl Bm) (DF (Bb rfl) ?_)))))));refine Bi ?_
    refine ⟨(by intro e he; simp at he; subst he; exact .refl),?_⟩
    refine Ah rfl ?_ ?_ <;> intro h4
    ·refine Ac (Aa (OA rfl (Ab ?_)))
     have hS : Jk k f = 70 := by rw [Jk,hs]; exact (if_neg (fun hh => Bool.noConfusion (h2.symm.trans hh))).trans ((if_neg (fun hh => Bool.noConfusion (hwb.symm.trans hh))).trans (if_pos h4))
     refine An ?_;exact ⟨_,rfl,_,J,ap_ hw (Below.rfl'.new nl _),nl,.same rfl,congrArg iV hS.symm,rfl⟩
    ·refine Ai (Ac (Aa (OA rfl (Ab ?_))))
     have hS : Jk k f = 0 := by rw [Jk,hs]; exact (if_neg (fun hh => Bool.noConfusion (h2.symm.trans hh))).trans ((if_neg (fun hh => Bool.noConfusion (hwb.symm.trans hh))).trans (if_neg (fun hh => Bool.noConfusion (h4.symm.trans hh))))
     refine An ?_;exact ⟨_,rfl,_,J,ap_ hw (Below.rfl'.new nl _),nl,.same rfl,congrArg iV hS.symm,rfl⟩
theorem Ag0 (k : Nat) (J : Sto) : Cv 200 [.fn (.func k) [] []] J (.fn (.func 201) [] [.pv [.fn (.func k) [] []]]) := by
 refine Az Tryz.func200 rfl rfl fun hw hu0 => ?_
 refine Ac (Aa (Ar ld65 rfl rfl rfl (OA rfl (Ab (Ac (Aa (O1 (Fw rfl rfl) ?_)))))));refine OA rfl (Ab ?_);refine An (Bq hw rfl ?_);exact rfl
theorem Ag1 (k : Nat) (s : Str) (b : Bool) (J : Sto) (hk : Cv k [sV s] J (.bool b)) : Cv 201 [sV s,.pv [.fn (.func k) [] []]] J (.bool (!b)) := by
 refine Az Tryz.func201 rfl rfl fun hw hu0 => ?_
 refine Ac (Aa (OA rfl (Ab (Ac (Aa (O1 (Ae ld65 rfl rfl rfl) (OM rfl ?_)))))));refine Ap rfl rfl rfl rfl hk (O1 (Bb rfl) (OA rfl (Ab ?_)));refine An (Bq hw rfl ?_);exact rfl
structure Stm where
 kind : Int
 label : Str
 text : List Str
 proof : List Str
def eSt (s : Stm) : List AV := [iV s.kind,sV s.label,A3 s.text,A3 s.proof]
theorem f199 (p : Stm -> Bool) (l : List Stm) (k : Nat) (cap : List AV) (J : Sto) (hb : l.length < 1000000) (hk : ∀ a ∈ l,A6 Ew k ([.agg (eSt a)] ++ cap) J fun v J' => v = .bool (p a) /\ J' = J) : Cv 199 [slV eSt 4 l,.fn (.func k) [] cap] J (iV (A7 p l 0)) := by
 refine Az Tryz.func199 rfl rfl fun hw hu0 => ?_
 refine Ac (Aa (OA rfl (Ab (Ac (Ac (Aa (OM rfl ?_)))))));refine O1 (Aq Apq rfl) (OM rfl (Ab (Am ?_)));refine B8 l.length (fun i0 => [(0,slV eSt 4 l),(1,.fn (.func k) [] cap),(7,iV (.ofNat l.length)),(8,iV (.ofNat i0))]) (fun i0 J0 => J0 = J /\ A7 p l 0 = A7 p (l.drop i0) i0) SL ⟨rfl,rfl⟩ ?_
 rintro i0 J0 hi0 ⟨rfl,hf0⟩;refine Ac (Aa (O1 (A8 ok3 rfl rfl) (Ab (Ac ?_))));refine Ah rfl ?_ ?_ <;> intro h1
 ·have bf : i0 < l.length := by simpa using h1
  obtain ⟨a0,ha0⟩ := Bt bf;have hd0 := Bh ha0;refine Ai (Ac (Am (Ac (Aa (OM rfl (OA rfl (Ab ?_)))))));refine Ac (Aa (OM rfl (OM rfl (OM rfl (O1 (Ax Apr (fun _ => rfl) rfl rfl ha0) ?_)))))
  refine O1 (Ae Xh rfl rfl rfl) (Ap rfl rfl rfl rfl (hk a0 (af_ ha0)) (Ab ?_));refine Ah rfl ?_ ?_ <;> intro h2
  ·refine Ac (Aa (OM rfl (OA rfl (Ab ?_))));refine An (Bq hw rfl ?_)
   exact (by rw [hf0,hd0]; simp only [A7,h2,cond_true]; rfl)
  ·refine Ai (Aa (O1 (Ay (q := 1) ok3 rfl rfl Om) ?_));refine OM rfl (Ab ?_)
   refine ⟨bf,SL,rfl,by rw [hf0,hd0]; simp only [A7,h2,cond_false]⟩
 ·have bq : l.length <= i0 := by simpa using h1
  refine Ba ?_;refine Ac (Aa (OA rfl (Ab ?_)));refine An (Bq hw rfl ?_)
  exact (by rw [hf0,ah_ bq]; rfl)
theorem f186 (p : Stm -> Bool) (l : List Stm) (k : Nat) (cap : List AV) (J : Sto) (hb : l.length < 1000000) (hk : ∀ a ∈ l,A6 Ew k ([.agg (eSt a)] ++ cap) J fun v J' => v = .bool (p a) /\ J' = J) : Cv 186 [slV eSt 4 l,.fn (.func k) [] cap] J (.bool (l.any p)) := by
 refine Az Tryz.func186 rfl rfl fun hw hu0 => ?_
 refine Ac (Aa (OA rfl (Ab (Ac (Aa (OM rfl (OM rfl ?_)))))));refine Ap rfl rfl rfl rfl (f199 p l k cap J hb hk) (O1 (Eq (q := 0) ok3 rfl rfl) (OA rfl (Ab ?_)));refine An (Bq hw rfl ?_);exact congrArg AV.bool (E5 l)
theorem labX : K8 [2] [120] = true := Kr
theorem symX : K8 [2,3] [120] = true := Kr
theorem Mg {f f' : Nat} {a a' : List AV} {s s' t : Sto} {v : AV} {r : List (Nat × List AV × Sto × AV × Sto)} {o : Option (AV × Sto)} (h : a' ≠ a) (k : G5 r (.fn f') a' t = o) : G5 ((f,a,s,v,s') :: r) (.fn f') a' t = o := by
 simp only [G5]; rw [if_neg (fun hh => h hh.2.1)]; exact k
def stX (s : Str) : List AV := [iV 7,sV [120],A3 [[120]],A3 [s]]
theorem f188 (s : Str) (b : Bool) (J : Sto) (hp : Cv 202 [sV s] J (.bool b)) : Cv 188 [.agg (stX s)] J (.bool b) := by
 refine Az Tryz.func188 rfl rfl fun hw hu0 => ?_
 refine Ac (Aa (Ar Xh rfl rfl rfl (OA rfl (Ab (Ac (Ac (Aa ?_)))))));refine O1 (Ad Nl rfl rfl) (O1 (Ae ld3 rfl rfl rfl) (O1 (A8 (q := 1) ok3 rfl rfl) (OM rfl ?_)));refine Cm 3 _ ?_ rfl rfl rfl rfl rfl (Aw rfl) (fun hg => ?_) (fun hg => ?_) ?_
 rotate_left
 ·refine On hg (Ad Nl rfl rfl) (On hg (Ae ld3 rfl rfl rfl) (On hg (Ca (q := 9) ok3 rfl rfl) (Ab ?_)));refine ⟨rfl,?_,?_⟩
  ·exact sb
  ·exact rfl
 ·refine Of hg (Of hg (Of hg (Ab ?_)));exact ⟨rfl,sb⟩
 refine Ab ?_;refine Ah rfl ?_ ?_ <;> intro h1
 ·exact absurd h1 (by decide)
 ·refine Ai (Ac (Aa (O1 (Ad Nl rfl rfl) (O1 (Ae ld3 rfl rfl rfl) (O1 (Lm Atj rfl rfl (by decide) (n := 7) rfl) ?_)))))
  refine O1 (Ae Alh rfl rfl rfl) (Bz Ati Alh rfl (fun _ => rfl) rfl rfl rfl rfl ?_)
  refine Ab (Ac (Ac (Aa (O1 (Ad Aey rfl rfl) (O1 (Ae ld4 rfl rfl rfl) (OM rfl ?_))))));refine Cy 4 _ ?_ rfl rfl rfl rfl rfl (Aw rfl) (fun hg => ?_) (fun hg => ?_) ?_
  rotate_left
  ·refine On hg (Ad Aex rfl rfl) (On hg (Ae ld9 rfl rfl rfl) (B5 rfl rfl rfl (by rw [hg]; rfl) rfl rfl rfl rfl (f133 [120] _) ?_))
   refine On hg (Bb rfl) (Ab ?_);refine ⟨rfl,?_,?_⟩
   ·exact sb
   ·exact rfl
  ·exact absurd hg (by decide)
  refine OM rfl ?_;refine Cm 8 _ ?_ rfl rfl rfl rfl rfl (Aw rfl) (fun hg => ?_) (fun hg => ?_) ?_
  rotate_left
  ·refine On hg (Ad Aey rfl rfl) (On hg (Ae ld4 rfl rfl rfl) (On hg (Bb rfl) (On hg (Ag rfl) ?_)))
   refine Cy 3 _ ?_ rfl rfl rfl rfl rfl (Ke rfl rfl rfl rfl (by rw [hg]; rfl)) (fun hg => ?_) (fun hg => ?_) ?_
   rotate_left
   ·refine On hg (Ad Aex rfl rfl) (On hg (Ae ld9 rfl rfl rfl) (On hg (Lx (q := []) ok9 rfl rfl) (Ab ?_)));refine ⟨rfl,?_,?_⟩
    ·exact sb
    ·exact rfl
   ·refine Of hg (Of hg (Of hg (Ab ?_)));exact ⟨rfl,sb⟩
   refine Ab ?_;refine ⟨rfl,?_,?_⟩
   ·exact sb
   ·exact rfl
  ·refine Of hg (Of hg (Of hg (Of hg (Ou (Ou (Ou (Of hg ?_)))))));refine Ab ?_;exact ⟨rfl,sb⟩
  refine OM rfl ?_;refine Cm 6 _ ?_ rfl rfl rfl rfl rfl (Aw rfl) (fun hg => ?_) (fun hg => ?_) ?_
  rotate_left
  ·refine On hg (Ad Nm rfl rfl) (On hg (Ae Ce rfl rfl rfl) (On hg (Aq Ee rfl) (On hg (Ad Asd rfl rfl) (On hg (Ae ld3 rfl rfl rfl) (On hg (A8 ok3 rfl rfl) (Ab ?_))))));refine ⟨rfl,?_,?_⟩
   ·exact sb
   ·exact rfl
  ·refine Of hg (Of hg (Of hg (Of hg (Of hg (Of hg (Ab ?_))))));exact ⟨rfl,sb⟩
  refine OM rfl ?_;refine Cm 6 _ ?_ rfl rfl rfl rfl rfl (Aw rfl) (fun hg => ?_) (fun hg => ?_) ?_
  rotate_left
  ·refine On hg (Ad Nm rfl rfl) (On hg (Ae Ce rfl rfl rfl) (On hg (Aq Ee rfl) (On hg (Ad Ali rfl rfl) (On hg (Ae ld3 rfl rfl rfl) (On hg (Ca ok3 rfl rfl) (Ab ?_))))));refine ⟨rfl,?_,?_⟩
   ·exact sb
   ·exact rfl
  ·refine Of hg (Of hg (Of hg (Of hg (Of hg (Of hg (Ab ?_))))));exact ⟨rfl,sb⟩
  refine Ab ?_;refine Ah rfl ?_ ?_ <;> intro h2
  ·exact absurd h2 (by rw [labX]; decide)
  ·refine Ai (Ac (Aa (OA rfl (Ab ?_))));refine Amv [(2,.bool b)] J ?_ ?_
   ·rcases au_ (true) with hg6 | hg6
    ·rcases au_ (b) with bk | bk
     ·rcases au_ (true) with bp | bp
      ·refine Uc (anns := [aP 0 1,aR 0 1,aP 0 0,aE 0 1,aE 1 2,aP 2 2,aP 2 2,aP 2 3,aR 2 3,aP 2 2,aE 2 3,aE 3 4,aP 4 4,aP 4 4,aP 4 4,aP 4 4,aR 4 4,aP 4 4,aP 4 4,aP 4 4,aR 4 4,aR 4 4,aP 4 4,aP 4 4,aP 4 4,aP 4 4]) A1 (As (l := [(200,[.fn (.func 131) [] []],J,.fn (.func 201) [] [.pv [.fn (.func 131) [] []]],J),(15,[A3 [[120]],.fn (.func 201) [] [.pv [.fn (.func 131) [] []]]],J,.bool false,J),(200,[.fn (.func 202) [] []],J,.fn (.func 201) [] [.pv [.fn (.func 202) [] []]],J),(15,[A3 [s],.fn (.func 201) [] [.pv [.fn (.func 202) [] []]]],J,.bool (!b),J)]) ⟨Ag0 131 J,(by have := f15 (fun w => !K8 [2,3] w) [[120]] 201 [.pv [.fn (.func 131) [] []]] J (by simp) (fun a _ => Ag1 131 a _ J (Ana a J)); simpa [symX] using this),Ag0 202 J,(by have := f15 (fun _ => !b) [s] 201 [.pv [.fn (.func 202) [] []]] J (by simp) (fun a ha => by simp at ha; subst ha; exact Ag1 202 a b J hp); simpa using this),trivial⟩) Kr ?_
       refine DF (Ad Nm rfl rfl) (DF (Ae Ce rfl rfl rfl) (DF (Ag rfl) (DT (Bl rfl rfl Bm) (DT (Bl rfl rfl (D1 (by decide) Bm)) ?_))))
       refine DF (Bb rfl) (DF (Ag rfl) ?_)
       refine Wn (w := by first|rfl|simp only [bp,bk,hg6]<;>rfl|simp [bp,bk,hg6]) (Ad Ul rfl rfl) ?_
       refine Wn (w := by first|rfl|simp only [bp,bk,hg6]<;>rfl|simp [bp,bk,hg6]) (Ae Ce rfl rfl rfl) ?_
       refine Wn (w := by first|rfl|simp only [bp,bk,hg6]<;>rfl|simp [bp,bk,hg6]) (Ag rfl) ?_
       refine P9 (e := true) rfl rfl rfl rfl (by first|rfl|simp only [bp,bk,hg6]<;>rfl|simp [bp,bk,hg6]) rfl rfl (Bl rfl rfl (Mg (by intro h; simp at h) (D1 (by decide) Bm))) ?_
       refine P9 (e := true) rfl rfl rfl rfl (by first|rfl|simp only [bp,bk,hg6]<;>rfl|simp [bp,bk,hg6]) rfl rfl (Bl rfl rfl (D1 (by decide) (Mg (by intro h; simp at h) (D1 (by decide) Bm)))) ?_
       refine Wn (w := by first|rfl|simp only [bp,bk,hg6]<;>rfl|simp [bp,bk,hg6]) (Bb rfl) ?_
       refine DF (Bu rfl (by first|rfl|simp only [bp,bk,hg6]<;>rfl|simp [bp,bk,hg6]) rfl) ?_
       refine DF (Ag rfl) ?_
       refine Wn (w := by first|rfl|simp only [bp,bk,hg6]<;>rfl|simp [bp,bk,hg6]) (Ad Nl rfl rfl) ?_
       refine Wn (w := by first|rfl|simp only [bp,bk,hg6]<;>rfl|simp [bp,bk,hg6]) (Ae ld3 rfl rfl rfl) ?_
       refine Wn (w := by first|rfl|simp only [bp,bk,hg6]<;>rfl|simp [bp,bk,hg6]) (Do (q := 7) ok3 rfl rfl) ?_
       refine Wn (w := by first|rfl|simp only [bp,bk,hg6]<;>rfl|simp [bp,bk,hg6]) (Ag rfl) ?_
       refine Wx (w := by first|rfl|simp only [bp,bk,hg6]<;>rfl|simp [bp,bk,hg6]) ?_
       refine Wx (w := by first|rfl|simp only [bp,bk,hg6]<;>rfl|simp [bp,bk,hg6]) ?_
       refine Wx (w := by first|rfl|simp only [bp,bk,hg6]<;>rfl|simp [bp,bk,hg6]) ?_
       refine Wx (w := by first|rfl|simp only [bp,bk,hg6]<;>rfl|simp [bp,bk,hg6]) ?_
       refine Wn (w := by first|rfl|simp only [bp,bk,hg6]<;>rfl|simp [bp,bk,hg6]) (Bu rfl (by first|rfl|simp only [bp,bk,hg6]<;>rfl|simp [bp,bk,hg6]) rfl) ?_
       refine DF (Bu rfl (by first|rfl|simp only [bp,bk,hg6]<;>rfl|simp [bp,bk,hg6]) rfl) ?_
       refine DF (Bk rfl) (Bi ?_)
       exact ⟨rfl,by simp,⟨⟨congrArg (fun b => some (AV.bool b)) (by first | exact absurd hg6 (by decide) | exact absurd bp (by decide) | exact bk.symm | rfl | (simp [bk]; done)),trivial⟩,rfl⟩⟩
      ·refine Uc (anns := [aP 0 1,aR 0 1,aP 0 0,aE 0 1,aE 1 2,aP 2 2,aP 2 2,aP 2 3,aR 2 3,aP 2 2,aE 2 3,aE 3 4,aP 4 4,aP 4 4,aP 4 4,aP 4 4,aR 4 4,aP 4 4,aP 4 4,aP 4 4,aR 4 4,aR 4 4,aP 4 4,aP 4 4,aP 4 4,aP 4 4]) A1 (As (l := [(200,[.fn (.func 131) [] []],J,.fn (.func 201) [] [.pv [.fn (.func 131) [] []]],J),(15,[A3 [[120]],.fn (.func 201) [] [.pv [.fn (.func 131) [] []]]],J,.bool false,J),(200,[.fn (.func 202) [] []],J,.fn (.func 201) [] [.pv [.fn (.func 202) [] []]],J),(15,[A3 [s],.fn (.func 201) [] [.pv [.fn (.func 202) [] []]]],J,.bool (!b),J)]) ⟨Ag0 131 J,(by have := f15 (fun w => !K8 [2,3] w) [[120]] 201 [.pv [.fn (.func 131) [] []]] J (by simp) (fun a _ => Ag1 131 a _ J (Ana a J)); simpa [symX] using this),Ag0 202 J,(by have := f15 (fun _ => !b) [s] 201 [.pv [.fn (.func 202) [] []]] J (by simp) (fun a ha => by simp at ha; subst ha; exact Ag1 202 a b J hp); simpa using this),trivial⟩) Kr ?_
       refine DF (Ad Nm rfl rfl) (DF (Ae Ce rfl rfl rfl) (DF (Ag rfl) (DT (Bl rfl rfl Bm) (DT (Bl rfl rfl (D1 (by decide) Bm)) ?_))))
       refine DF (Bb rfl) (DF (Ag rfl) ?_)
       refine Wn (w := by first|rfl|simp only [bp,bk,hg6]<;>rfl|simp [bp,bk,hg6]) (Ad Ul rfl rfl) ?_
       refine Wn (w := by first|rfl|simp only [bp,bk,hg6]<;>rfl|simp [bp,bk,hg6]) (Ae Ce rfl rfl rfl) ?_
       refine Wn (w := by first|rfl|simp only [bp,bk,hg6]<;>rfl|simp [bp,bk,hg6]) (Ag rfl) ?_
       refine P9 (e := true) rfl rfl rfl rfl (by first|rfl|simp only [bp,bk,hg6]<;>rfl|simp [bp,bk,hg6]) rfl rfl (Bl rfl rfl (Mg (by intro h; simp at h) (D1 (by decide) Bm))) ?_
       refine P9 (e := true) rfl rfl rfl rfl (by first|rfl|simp only [bp,bk,hg6]<;>rfl|simp [bp,bk,hg6]) rfl rfl (Bl rfl rfl (D1 (by decide) (Mg (by intro h; simp at h) (D1 (by decide) Bm)))) ?_
       refine Wn (w := by first|rfl|simp only [bp,bk,hg6]<;>rfl|simp [bp,bk,hg6]) (Bb rfl) ?_
       refine DF (Bu rfl (by first|rfl|simp only [bp,bk,hg6]<;>rfl|simp [bp,bk,hg6]) rfl) ?_
       refine DF (Ag rfl) ?_
       refine Wn (w := by first|rfl|simp only [bp,bk,hg6]<;>rfl|simp [bp,bk,hg6]) (Ad Nl rfl rfl) ?_
       refine Wn (w := by first|rfl|simp only [bp,bk,hg6]<;>rfl|simp [bp,bk,hg6]) (Ae ld3 rfl rfl rfl) ?_
       refine Wn (w := by first|rfl|simp only [bp,bk,hg6]<;>rfl|simp [bp,bk,hg6]) (Do (q := 7) ok3 rfl rfl) ?_
       refine Wn (w := by first|rfl|simp only [bp,bk,hg6]<;>rfl|simp [bp,bk,hg6]) (Ag rfl) ?_
       refine Wn (w := by first|rfl|simp only [bp,bk,hg6]<;>rfl|simp [bp,bk,hg6]) (Ad Ul rfl rfl) ?_
       refine Wn (w := by first|rfl|simp only [bp,bk,hg6]<;>rfl|simp [bp,bk,hg6]) (Ae Ce rfl rfl rfl) ?_
       refine Wn (w := by first|rfl|simp only [bp,bk,hg6]<;>rfl|simp [bp,bk,hg6]) (Aq Ee rfl) ?_
       refine Wn (w := by first|rfl|simp only [bp,bk,hg6]<;>rfl|simp [bp,bk,hg6]) (Do (q := 0) ok3 rfl rfl) ?_
       refine Wn (w := by first|rfl|simp only [bp,bk,hg6]<;>rfl|simp [bp,bk,hg6]) (Br rfl (by first|rfl|simp only [bp,bk,hg6]<;>rfl|simp [bp,bk,hg6]) rfl) ?_
       refine DF (Bu rfl (by first|rfl|simp only [bp,bk,hg6]<;>rfl|simp [bp,bk,hg6]) rfl) ?_
       refine DF (Bk rfl) (Bi ?_)
       exact ⟨rfl,by simp,⟨⟨congrArg (fun b => some (AV.bool b)) (by first | exact absurd hg6 (by decide) | exact absurd bp (by decide) | exact bk.symm | rfl | (simp [bk]; done)),trivial⟩,rfl⟩⟩
     ·refine Uc (anns := [aP 0 1,aR 0 1,aP 0 0,aE 0 1,aE 1 2,aP 2 2,aP 2 2,aP 2 3,aR 2 3,aP 2 2,aE 2 3,aE 3 4,aP 4 4,aP 4 4,aP 4 4,aP 4 4,aR 4 4,aP 4 4,aP 4 4,aP 4 4,aR 4 4,aR 4 4,aP 4 4,aP 4 4,aP 4 4,aP 4 4]) A1 (As (l := [(200,[.fn (.func 131) [] []],J,.fn (.func 201) [] [.pv [.fn (.func 131) [] []]],J),(15,[A3 [[120]],.fn (.func 201) [] [.pv [.fn (.func 131) [] []]]],J,.bool false,J),(200,[.fn (.func 202) [] []],J,.fn (.func 201) [] [.pv [.fn (.func 202) [] []]],J),(15,[A3 [s],.fn (.func 201) [] [.pv [.fn (.func 202) [] []]]],J,.bool (!b),J)]) ⟨Ag0 131 J,(by have := f15 (fun w => !K8 [2,3] w) [[120]] 201 [.pv [.fn (.func 131) [] []]] J (by simp) (fun a _ => Ag1 131 a _ J (Ana a J)); simpa [symX] using this),Ag0 202 J,(by have := f15 (fun _ => !b) [s] 201 [.pv [.fn (.func 202) [] []]] J (by simp) (fun a ha => by simp at ha; subst ha; exact Ag1 202 a b J hp); simpa using this),trivial⟩) Kr ?_
      refine DF (Ad Nm rfl rfl) (DF (Ae Ce rfl rfl rfl) (DF (Ag rfl) (DT (Bl rfl rfl Bm) (DT (Bl rfl rfl (D1 (by decide) Bm)) ?_))))
      refine DF (Bb rfl) (DF (Ag rfl) ?_)
      refine Wn (w := by first|rfl|simp only [bk,hg6]<;>rfl|simp [bk,hg6]) (Ad Ul rfl rfl) ?_
      refine Wn (w := by first|rfl|simp only [bk,hg6]<;>rfl|simp [bk,hg6]) (Ae Ce rfl rfl rfl) ?_
      refine Wn (w := by first|rfl|simp only [bk,hg6]<;>rfl|simp [bk,hg6]) (Ag rfl) ?_
      refine P9 (e := true) rfl rfl rfl rfl (by first|rfl|simp only [bk,hg6]<;>rfl|simp [bk,hg6]) rfl rfl (Bl rfl rfl (Mg (by intro h; simp at h) (D1 (by decide) Bm))) ?_
      refine P9 (e := true) rfl rfl rfl rfl (by first|rfl|simp only [bk,hg6]<;>rfl|simp [bk,hg6]) rfl rfl (Bl rfl rfl (D1 (by decide) (Mg (by intro h; simp at h) (D1 (by decide) Bm)))) ?_
      refine Wn (w := by first|rfl|simp only [bk,hg6]<;>rfl|simp [bk,hg6]) (Bb rfl) ?_
      refine DF (Bu rfl (by first|rfl|simp only [bk,hg6]<;>rfl|simp [bk,hg6]) rfl) ?_
      refine DF (Ag rfl) ?_
      refine Wx (w := by first|rfl|simp only [bk,hg6]<;>rfl|simp [bk,hg6]) ?_
      refine Wx (w := by first|rfl|simp only [bk,hg6]<;>rfl|simp [bk,hg6]) ?_
      refine Wx (w := by first|rfl|simp only [bk,hg6]<;>rfl|simp [bk,hg6]) ?_
      refine Wx (w := by first|rfl|simp only [bk,hg6]<;>rfl|simp [bk,hg6]) ?_
      refine Du (Du (Du (Du ?_)))
      refine Wx (w := by first|rfl|simp only [bk,hg6]<;>rfl|simp [bk,hg6]) ?_
      refine DF (Br rfl (by first|rfl|simp only [bk,hg6]<;>rfl|simp [bk,hg6]) rfl) ?_
      refine DF (Bk rfl) (Bi ?_)
      exact ⟨rfl,by simp,⟨⟨congrArg (fun b => some (AV.bool b)) (by first | exact absurd hg6 (by decide) | exact absurd bp (by decide) | exact bk.symm | rfl | (simp [bk]; done)),trivial⟩,rfl⟩⟩
    ·refine Uc (anns := [aP 0 1,aR 0 1,aP 0 0,aE 0 1,aE 1 2,aP 2 2,aP 2 2,aP 2 3,aR 2 3,aP 2 2,aE 2 3,aE 3 4,aP 4 4,aP 4 4,aP 4 4,aP 4 4,aR 4 4,aP 4 4,aP 4 4,aP 4 4,aR 4 4,aR 4 4,aP 4 4,aP 4 4,aP 4 4,aP 4 4]) A1 (As (l := [(200,[.fn (.func 131) [] []],J,.fn (.func 201) [] [.pv [.fn (.func 131) [] []]],J),(15,[A3 [[120]],.fn (.func 201) [] [.pv [.fn (.func 131) [] []]]],J,.bool false,J),(200,[.fn (.func 202) [] []],J,.fn (.func 201) [] [.pv [.fn (.func 202) [] []]],J),(15,[A3 [s],.fn (.func 201) [] [.pv [.fn (.func 202) [] []]]],J,.bool (!b),J)]) ⟨Ag0 131 J,(by have := f15 (fun w => !K8 [2,3] w) [[120]] 201 [.pv [.fn (.func 131) [] []]] J (by simp) (fun a _ => Ag1 131 a _ J (Ana a J)); simpa [symX] using this),Ag0 202 J,(by have := f15 (fun _ => !b) [s] 201 [.pv [.fn (.func 202) [] []]] J (by simp) (fun a ha => by simp at ha; subst ha; exact Ag1 202 a b J hp); simpa using this),trivial⟩) Kr ?_
     refine DF (Ad Nm rfl rfl) (DF (Ae Ce rfl rfl rfl) (DF (Ag rfl) (DT (Bl rfl rfl Bm) (DT (Bl rfl rfl (D1 (by decide) Bm)) ?_))))
     refine DF (Bb rfl) (DF (Ag rfl) ?_)
     refine Wx (w := by first|rfl|simp only [hg6]<;>rfl|simp [hg6]) ?_
     refine Wx (w := by first|rfl|simp only [hg6]<;>rfl|simp [hg6]) ?_
     refine Wx (w := by first|rfl|simp only [hg6]<;>rfl|simp [hg6]) ?_
     refine Sd (e := true) rfl rfl rfl rfl (by first|rfl|simp only [hg6]<;>rfl|simp [hg6]) rfl rfl ?_
     refine Sd (e := true) rfl rfl rfl rfl (by first|rfl|simp only [hg6]<;>rfl|simp [hg6]) rfl rfl ?_
     refine Wx (w := by first|rfl|simp only [hg6]<;>rfl|simp [hg6]) ?_
     refine DF (Br rfl (by first|rfl|simp only [hg6]<;>rfl|simp [hg6]) rfl) ?_
     refine DF (Ag rfl) ?_
     refine Wx (w := by first|rfl|simp only [hg6]<;>rfl|simp [hg6]) ?_
     refine Wx (w := by first|rfl|simp only [hg6]<;>rfl|simp [hg6]) ?_
     refine Wx (w := by first|rfl|simp only [hg6]<;>rfl|simp [hg6]) ?_
     refine Wx (w := by first|rfl|simp only [hg6]<;>rfl|simp [hg6]) ?_
     refine Du (Du (Du (Du ?_)))
     refine Wx (w := by first|rfl|simp only [hg6]<;>rfl|simp [hg6]) ?_
     refine DF (Br rfl (by first|rfl|simp only [hg6]<;>rfl|simp [hg6]) rfl) ?_
     refine DF (Bk rfl) (Bi ?_)
     exact ⟨rfl,by simp,⟨⟨congrArg (fun b => some (AV.bool b)) (by first | exact absurd hg6 (by decide) | exact absurd bp (by decide) | exact bk.symm | rfl | (simp [bk]; done)),trivial⟩,rfl⟩⟩
   refine An (Bq hw rfl ?_);exact rfl
theorem f187 (s : Str) (b : Bool) (J : Sto) (hp : Cv 202 [sV s] J (.bool b)) : Cv 187 [.agg (stX s)] J (.bool (!b)) := by
 refine Az Tryz.func187 rfl rfl fun hw hu0 => ?_
 refine Ac (Aa (Ar Xh rfl rfl rfl (OA rfl (Ab (Ac (Aa (O1 (Ae Xh rfl rfl rfl) ?_)))))));refine Ap rfl rfl rfl rfl (f188 s b J hp) (O1 (Bb rfl) (OA rfl (Ab ?_)));refine An (Bq hw rfl ?_);exact rfl
theorem Anc {N : Nat} : ∀ m : SM Str,Is N (Cp sV m) = true := fun m => Ack (fun _ => rfl) m
theorem f142 (a b va : Nat) (M N : SM Str) (J : Sto) (ha : J.get a = some (.map 9 (Cp sV M) va)) (hb : Bx sV J b N) (hab : a ≠ b) (sM : SM.Srt M) (sN : SM.Srt N) :
  A6 Ew 142 [.mp a,.mp b] J fun v J' => v = A5 /\ J' = J.set a (.map 9 (Cp sV (SM.over N M)) (va + N.length)) := by
 refine Az Tryz.func142 rfl rfl fun hw hu0 => ?_
 refine T_itv fun hi => ?_
 obtain ⟨vb,hb⟩ := hb;have hla : a < nx J := (hw _ _ ha).1;have hlb : b < nx J := (hw _ _ hb).1;refine Ac (Aa (OM rfl (O1 (Agm Acq rfl hb) (Ab (Am ?_)))));refine Fi (fun q : SM Str × SM Str => [(0,.mp a),(7,.it (nx J))])
  (fun q J0 => (∃ cur,J0.get (nx J) = some (.iter (some b) vb (Cp sV q.1) cur)) /\ J0.get a = some (.map 9 (Cp sV q.2) (va + (N.length - q.1.length))) /\ q.1.length <= N.length /\ nx J <= nx J0 /\ (∀ c,c < nx J -> c ≠ a -> J0.get c = J.get c) /\ SM.Srt q.2 /\ SM.Key1 q.1 /\ (q.1 = N -> q.2 = M) /\ ∀ s,(q.1.get s).or (q.2.get s) = (N.get s).or (M.get s))
  (fun q => q.1.length) (N,M) SL
  ⟨⟨none,by rw [ab_,if_pos rfl]⟩,by rw [ab_,if_neg Om,ha,Nat.sub_self]; rfl,nl,by rw [Aj]; omega,fun c hc _ => by rw [ab_,if_neg Om],sM,sN.key1,fun _ => rfl,fun _ => rfl⟩ ?_
 rintro ⟨left,M1⟩ J0 ⟨⟨cur,hit⟩,hM,hln,hn,hk,hs,hk1,hid,hg⟩;simp only at hit hM hln hs hk1 hid hg;refine Ac ?_
 refine Ao9 rfl rfl rfl hit (by show (match J0.get b with | some (.map _ _ v) => Nat.beq v vb | _ => false) = true; rw [hk b hlb (gj_ hab),hb]; exact bg_ _) (fun h0 => ?_) (fun p hp => ?_)
 ·have h0' : left = [] := by cases left with
   | nil => rfl
   | cons x l => cases h0
  subst h0';refine O1 (Al rfl rfl) (Ab (Ac ?_))
  refine Ah rfl (fun h1 => by cases h1) (fun h1 => ?_)
  refine Ba ?_
  have hO : M1 = SM.over N M := hs.ext (SM.Srt.over sM) fun s => by rw [SM.get_over sN.key1,← hg s]; simp [SM.get]
  subst hO
  refine ⟨_,rfl,A5,J.set a (.map 9 (Cp sV (SM.over N M)) (va + N.length)),H9.setMap hw hi ha (Anc _) ?_ (by rw [Ak]; exact hn) (fun c hc hne => ?_) ?_,by rw [Ak]; exact nl,.same rfl,rfl,rfl⟩
  ·cases N with
   | nil => exact .inr ⟨rfl,rfl⟩
   | cons x l => exact .inl (by simp only [aq_]; omega)
  ·rw [a_,if_neg Om]; exact hk c hc hne
  ·rw [a_,if_neg Om,hM]; simp
 ·obtain ⟨q,hq,rfl⟩ := Se hp;obtain ⟨q1,q2,q3⟩ := Aad hk1 hq;obtain ⟨_,_,q4⟩ := Q5 hq
  have hM' : (J0.set (nx J) (.iter (some b) vb (Cp sV q.2) (some (kS q.1.1,sV q.1.2)))).get a = some (.map 9 (Cp sV M1) (va + (N.length - left.length))) := by rw [a_,if_neg Om]; exact hM
  refine O1 (Al rfl rfl) (Ab (Ac ?_))
  refine Ah rfl (fun h1 => ?_) (fun h1 => by cases h1)
  refine Ai (Am (Ac (Aa (O1 (Agn rfl (by rw [a_,if_pos rfl]) (by rw [a_,if_neg Om,hk b hlb (gj_ hab)]; exact hb)) ?_))))
  refine O1 (Al rfl rfl) (O1 (Al rfl rfl) (OA rfl (OA rfl (Ab (Aa (OM rfl (OM rfl ?_)))))));refine OM rfl (O1 (E8 (v := q.1.2) st9 Acq rfl hM' rfl rfl (fun te k1 k2 => Fs k1 k2)) ?_)
  refine Ab ?_
  refine ⟨(q.2,M1.put q.1.1 q.1.2),by show q.2.length < left.length; omega,SL,⟨_,by rw [a_,if_neg Om,a_,if_pos rfl]⟩,?_,by show q.2.length <= N.length; omega,by rw [Ak,Ak]; exact hn,fun c hc hne => ?_,hs.put,q1,fun hh => ?_,fun s => ?_⟩
  ·rw [a_,if_pos rfl]
   show some _ = some (AO.map 9 _ (va + (N.length - q.2.length)))
   congr 2; omega
  ·rw [a_,if_neg Om,a_,if_neg Om]; exact hk c hc hne
  ·have : q.2.length = N.length := congrArg List.length hh;omega
  ·show (SM.get q.2 s).or ((M1.put q.1.1 q.1.2).get s) = _
   rw [← hg s,q3 s,bz_]
   by_cases hs : s = q.1.1
   ·subst hs; simp [q2]
   ·simp [hs]
end Go.AM
