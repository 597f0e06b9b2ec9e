/- A part of the proof; shortened by program. -/
import Derived.Shelf.LaysM
import Derived.Shelf.LaysC
import Derived.Shelf.Strconv.Itoa3
import Derived.Shelf.Strconv.AtoiAll
import Derived.Shelf.Strconv.ErrVarAll
import Derived.Shelf.Strings.LastIndex
import Derived.Lib.ItoaNum
import Derived.Lib.AppendIntMem
import Derived.Lib.AtoiAll
import Derived.Test.YtolkkkghemedjaaGreatDoorP08
set_option maxRecDepth 100000
set_option maxHeartbeats 4000000
set_option linter.unusedSimpArgs false
set_option linter.unusedVariables false
namespace Go.AM
open Go Go.Proofs
theorem Cn {J : Ae} {U : Sto} {Rr : Rec} {t n : Nat} {z : List AV} (hi : zI Ew.P t = some z) (hn : nx U = n) : A0 Ew Rr (.alloc t) J U (.pr n 0) (U.new (.cells z)) := by subst hn; exact Ct hi
def iN (n : Nat) : AV := iV (.ofNat n)
theorem Atk {te : TI} {n : Nat} {i : Nat} (_ : te.size = n) (h : te.isAgg = false) : Nu te (iN i) = true := by unfold iN iV Nu; rw [h]; rfl
def Ib : List Hp -> Nat -> SM Nat -> SM Nat
 | [],_,m => m
 | h :: r,i,m => Ib r (i + 1) (m.put (txv h) i)
theorem Ag8 : ∀ {l : List Hp} {n : Nat} {m : SM Nat},(∀ s i,m.get s = some i -> i < n) -> ∀ s i,(Ib l n m).get s = some i -> i < n + l.length
 | [],n,m,h,s,i,hs => by simpa using h s i hs
 | x :: r,n,m,h,s,i,hs => by
  have := Ag8 (l := r) (n := n + 1) (m := m.put (txv x) n) (fun s i hh => by
   rw [ci_] at hh
   split at hh
   ·cases hh; omega
   ·have := h s i hh; omega) s i hs
  simp only [at_]; omega
def Apd (hyps : List Hp) (i : Nat) : Str := match hyps[i]? with | some h => h.text.headD [] | none => []
def axP (args : SM Nat) (hyps : List Hp) : List Str -> SM Bool -> List Pt -> Option (List Pt)
 | [],_,ps => some ps
 | s :: r,met,ps => match args.get s with
  | none => axP args hyps r met (ps ++ [⟨s,[],0⟩])
  | some i => if met.has s = true then none else axP args hyps r (met.put s true) (ps ++ [⟨[],Apd hyps i,Int.ofNat i⟩])
def Ic (f : Fr) : Option Rl := match axP (Ib f.hyps 0 []) f.hyps (f.text.drop 1) [] [] with
 | none => none
 | some ps => some ⟨f.label,f.text.headD [],ps,false⟩
def axV : Option Rl -> AV
 | none => .tup [.agg (eR ⟨[],[],[],false⟩),.bool false]
 | some r => .tup [.agg (eR r),.bool true]
def zR : List AV := [.str [],.str [],.nil (.slice none 0 0),.bool false]
theorem f138 (f : Fr) (U : Sto) (t0 : Str) (hB : FrB f) (htx : ∃ tl,f.text = t0 :: tl) (hh : ∀ h ∈ f.hyps,∃ a b,h.text = [a,b]) : Cv 138 [.agg (eF f)] U (axV (Ic f)) := by
 refine An Tryz.func138 rfl rfl fun hw hu0 => ?_
 obtain ⟨tl,htx⟩ := htx;have hbh := hB.h;have hbt := hB.t
 have hbt1 : (f.text.drop 1).length < 1000000 := by rw [cu_]; omega
 refine G3 ?_;refine O1 (Ct ziC) ?_;refine G4 ?_;refine O1 (Bp (n := nx U + 1) Aow (nx1 rfl)) ?_;refine G10 ?_;have db : nx ((U.new (.cells zR)).new (.map 9 [] 0)) = nx U + 2 /\ ((U.new (.cells zR)).new (.map 9 [] 0)).get (nx U) = some (.cells zR) /\ (∀ b,b < nx U -> ((U.new (.cells zR)).new (.map 9 [] 0)).get b = U.get b) /\ ∃ m,Bf iN ((U.new (.cells zR)).new (.map 9 [] 0)) (nx U + 1) m /\ Ib f.hyps 0 [] = Ib (f.hyps.drop 0) 0 m :=
  ⟨by rw [Af,Af],by rw [ab_,if_neg (by rw [Af]; omega),ab_,if_pos rfl],fun b hb => by rw [ab_,if_neg (by rw [Af]; omega),ab_,if_neg Om],[],⟨0,by rw [ab_,if_pos (by rw [Af])]; rfl⟩,rfl⟩
 refine G ?_;refine Bq f.hyps.length (fun i0 => [(1,.pv (eF f)),(2,.pr (nx U) 0),(4,.mp (nx U + 1)),(15,slV eH 3 f.hyps),(16,iV (.ofNat f.hyps.length)),(17,iV (.ofNat i0))]) (fun i0 U0 => nx U0 = nx U + 2 /\ U0.get (nx U) = some (.cells zR) /\ (∀ b,b < nx U -> U0.get b = U.get b) /\ ∃ m,Bf iN U0 (nx U + 1) m /\ Ib f.hyps 0 [] = Ib (f.hyps.drop i0) i0 m) SL db ?_
 rintro i0 U0 hi0 ⟨hn0,h20,hg0,m,hm0,hf0⟩;refine G5 ?_;refine Ab rfl ?_ ?_ <;> intro h1
 ·have bc : i0 < f.hyps.length := by simpa using h1
  obtain ⟨a0,ha0⟩ := A6 bc;have hd0 := Ay ha0;obtain ⟨u0,u1,hux⟩ := hh a0 (ae_ ha0);obtain ⟨vm,hvm⟩ := id hm0;refine G8 ?_;refine M5 ziC ldC rfl rfl (fun _ => rfl) rfl (fun _ => rfl) rfl rfl rfl rfl rfl ?_
  refine G5 ?_
  refine O1 (Ax elC (fun _ => rfl) rfl rfl (by rw [hux]; rfl : a0.text[1]? = some u1) (i := 1)) ?_
  refine G2 ?_;refine O1 (Fl (v := i0) (enc := iN) st9 Aow rfl hvm rfl rfl (fun te k1 k2 => Atk k1 k2)) ?_
  refine G5 ?_
  refine ⟨bc,SL,by rw [Ac]; exact hn0,by rw [a_,if_neg Om]; exact h20,fun b hb => by rw [a_,if_neg Om]; exact hg0 b hb,m.put u1 i0,ds_,by rw [hf0,hd0,Ib,X2 hux]⟩
 ·have bk : f.hyps.length <= i0 := by simpa using h1
  have bj : Ib f.hyps 0 [] = m := by rw [hf0,ah_ bk]; rfl
  subst bj;refine G3 ?_;refine O1 (Bp (n := nx U + 2) Th hn0) ?_;refine G3 ?_;refine C3 fun hw5 => ?_
  refine XX 1 (l := []) trivial ?_;refine G4 ?_
  refine DF (Ax elC (fun _ => rfl) rfl rfl (by rw [htx]; rfl : f.text[0]? = some t0) (i := 0)) ?_
  refine G2 ?_
  refine DT (Cn (n := nx U + 3) ziC (nx1 hn0)) (DT (Aw (ad := nx U + 3) (off := 0) (vs := zR) (vs' := [sV f.label,sV t0,.nil (.slice none 0 0),.bool false]) (cs := [sV f.label,sV t0,.nil (.slice none 0 0),.bool false]) ldC rfl rfl rfl (by simp only [Sto.cells]; rw [ab_,if_pos (by rw [Af,hn0])]; rfl) rfl) ?_)
  refine G ?_
  refine ⟨(by intro e he; simp at he; rcases he with rfl | rfl <;> first | exact .refl | exact Te hw5),?_⟩
  refine G5 ?_
  refine O1 (Aek (enc := e1) elC (fun _ => rfl) rfl rfl (by rw [htx]; simp)) ?_
  refine G3 ?_
  have el : ∃ met ps vp,(((U0.new (.map 9 [] 0)).new (.cells zR)).set (nx U + 3) (.cells [sV f.label,sV t0,.nil (.slice none 0 0),.bool false])).get (nx U + 3) = some (.cells [sV f.label,sV t0,vp,.bool false]) /\ Own (((U0.new (.map 9 [] 0)).new (.cells zR)).set (nx U + 3) (.cells [sV f.label,sV t0,.nil (.slice none 0 0),.bool false])) (nx U + 4) ePt 3 ps vp /\ E2 (((U0.new (.map 9 [] 0)).new (.cells zR)).set (nx U + 3) (.cells [sV f.label,sV t0,.nil (.slice none 0 0),.bool false])) (nx U + 2) met /\ Bf iN (((U0.new (.map 9 [] 0)).new (.cells zR)).set (nx U + 3) (.cells [sV f.label,sV t0,.nil (.slice none 0 0),.bool false])) (nx U + 1) (Ib f.hyps 0 []) /\ (((U0.new (.map 9 [] 0)).new (.cells zR)).set (nx U + 3) (.cells [sV f.label,sV t0,.nil (.slice none 0 0),.bool false])).get (nx U) = some (.cells zR) /\ (∀ b,b < nx U -> (((U0.new (.map 9 [] 0)).new (.cells zR)).set (nx U + 3) (.cells [sV f.label,sV t0,.nil (.slice none 0 0),.bool false])).get b = U.get b) /\ nx U + 4 <= nx (((U0.new (.map 9 [] 0)).new (.cells zR)).set (nx U + 3) (.cells [sV f.label,sV t0,.nil (.slice none 0 0),.bool false])) /\ ps.length <= 0 /\ axP (Ib f.hyps 0 []) f.hyps (f.text.drop 1) [] [] = axP (Ib f.hyps 0 []) f.hyps ((f.text.drop 1).drop 0) met ps := by
   have hlo : ∀ b,b < nx U + 2 -> (((U0.new (.map 9 [] 0)).new (.cells zR)).set (nx U + 3) (.cells [sV f.label,sV t0,.nil (.slice none 0 0),.bool false])).get b = U0.get b := fun b hb => by rw [a_,if_neg Om,ab_,if_neg (by rw [Af,hn0]; omega),ab_,if_neg (by rw [hn0]; omega)]
   refine ⟨[],[],.nil (.slice none 0 0),by rw [a_,if_pos rfl],.nil,⟨0,?_⟩,hm0.of_get (hlo _ Om),(hlo _ Om).trans h20,fun b hb => (hlo b Om).trans (hg0 b hb),by rw [Ac,Af,Af,hn0]; exact nl,nl,rfl⟩
   rw [a_,if_neg Om,ab_,if_neg (by rw [Af,hn0]; omega),ab_,if_pos hn0.symm]; rfl
  refine G ?_;refine Bq (f.text.drop 1).length (fun i2 => [(1,.pv (eF f)),(2,.pr (nx U) 0),(4,.mp (nx U + 1)),(7,.mp (nx U + 2)),(8,.pr (nx U + 3) 0),(39,slV e1 1 (f.text.drop 1)),(40,iV (.ofNat (f.text.drop 1).length)),(41,iV (.ofNat i2))]) (fun i2 U2 => ∃ met ps vp,U2.get (nx U + 3) = some (.cells [sV f.label,sV t0,vp,.bool false]) /\ Own U2 (nx U + 4) ePt 3 ps vp /\ E2 U2 (nx U + 2) met /\ Bf iN U2 (nx U + 1) (Ib f.hyps 0 []) /\ U2.get (nx U) = some (.cells zR) /\ (∀ b,b < nx U -> U2.get b = U.get b) /\ nx U + 4 <= nx U2 /\ ps.length <= i2 /\ axP (Ib f.hyps 0 []) f.hyps (f.text.drop 1) [] [] = axP (Ib f.hyps 0 []) f.hyps ((f.text.drop 1).drop i2) met ps) SL el ?_
  rintro i2 U2 hi2 ⟨met,ps,vp,h8,bp,hs2,hm2,h22,hg2,hn2,hpl,hf2⟩;refine G5 ?_;refine Ab rfl ?_ ?_ <;> intro h2
  ·have bw : i2 < (f.text.drop 1).length := by simpa using h2
   obtain ⟨a2,ha2⟩ := A6 bw;have hd2 := Ay ha2;obtain ⟨vm,hvm⟩ := id hs2
   iterate 13 refine G ?_
   refine O1 (Px (enc := iN) st9 Aow rfl hm2 rfl) ?_
   iterate 14 refine G ?_
   refine Ab rfl ?_ ?_ <;> intro h3
   ·have hna : (Ib f.hyps 0 []).get a2 = none := by simpa using h3
    have bz : (ps.length + [(⟨a2,[],0⟩ : Pt)].length) * (40 + 1) <= sizeLim := by have h11 := bw; rw [cu_] at h11; simp [sizeLim]; omega
    obtain ⟨v1,τ1,hap,ho1,hb1,_⟩ := ea_ (by' := 40) (enc := ePt) (sz := 3) (fun _ => rfl) hn2 bp [(⟨a2,[],0⟩ : Pt)] bz
    have h8t : τ1.get (nx U + 3) = some (.cells [sV f.label,sV t0,vp,.bool false]) := (hb1.2 _ Om).trans h8;refine G3 ?_
    refine O1 (Ad (u := .pr (nx U + 3) 2) (cs := [vp,.bool false]) ldC rfl (by simp only [Bk,Sto.cells,h8]; rfl) rfl) ?_
    refine G2 ?_;refine C1 (As elC byW rfl rfl rfl) (D6 (len := 1)) rfl rfl (O1 (A3 elC rfl slC rfl rfl rfl (new := ePt (⟨a2,[],0⟩ : Pt)) rfl hap) ?_);refine G ?_
    refine O1 (Aw (ad := nx U + 3) (off := 2) (vs := [sV f.label,sV t0,vp,.bool false]) (vs' := [sV f.label,sV t0,v1,.bool false]) (cs := [v1]) ldC rfl rfl (K9 ho1) (by simp only [Sto.cells,h8t]) rfl) ?_
    refine G6 ?_
    refine ⟨bw,SL,met,ps ++ [(⟨a2,[],0⟩ : Pt)],v1,by rw [a_,if_pos rfl],ho1.mono (by rw [Ac]; exact nl) fun a tl _ h11 h12 _ => by rw [a_,if_neg Om],(hs2.of_get (hb1.2 _ Om)).set Om,(hm2.of_get (hb1.2 _ Om)).set Om,by rw [a_,if_neg Om,hb1.2 _ Om]; exact h22,fun b hb => by rw [a_,if_neg Om,hb1.2 b Om]; exact hg2 b hb,by rw [Ac]; exact ax_ hn2 hb1.1,by rw [ao_]; simp; omega,by rw [hf2,hd2,axP,hna]⟩
   ·obtain ⟨iA,hna⟩ : ∃ iA,(Ib f.hyps 0 []).get a2 = some iA := br_.1 (by simpa using h3)
    have hlA : iA < f.hyps.length := by have := Ag8 (l := f.hyps) (n := 0) (m := []) (fun _ _ h => by cases h) a2 iA hna; omega
    obtain ⟨hI,hIA⟩ := A6 hlA;obtain ⟨u0,u1,hux⟩ := hh hI (ae_ hIA)
    rw [show ((SM.get (Ib f.hyps 0 []) a2).map iN).getD (.int .i64 0) = iN iA by rw [hna]; rfl]
    refine G4 ?_;refine O1 (Cx st9 Th rfl hs2 rfl) ?_;refine G2 ?_;refine Ab rfl ?_ ?_ <;> intro h4
    ·refine G3 ?_
     refine O1 (Aw (ad := nx U) (off := 0) (vs := zR) (vs' := zR) (cs := zR) ldC rfl rfl rfl (by simp only [Sto.cells,h22]) rfl) ?_
     refine G2 ?_
     have hF : Ic f = none := by unfold Ic; rw [hf2,hd2,axP,hna]; simp only []; rw [if_pos (show met.has a2 = true from h4)]
     refine G ?_
     exact ⟨[.agg zR,.bool false],Bj (ldC (t := 181)) rfl (by simp only [Sto.cells]; rw [a_,if_pos rfl]) rfl (Gy rfl rfl),axV none,U,as_ hw ⟨by rw [Ac]; omega,fun b hb => by rw [a_,if_neg Om]; exact hg2 b hb⟩,nl,.tup (.cons (.agg (.cons (.same rfl) (.cons (.same rfl) (.cons Dr (.cons (.same rfl) .nil))))) (.cons (.same rfl) .nil)),by rw [hF],rfl⟩
    ·have ng : Own (U2.set (nx U + 2) (.map 9 (B6 bV (met.put a2 true)) (vm + 1))) (nx U + 4) ePt 3 ps vp := bp.mono (by rw [Ac]; exact nl) fun a tl _ h11 h12 _ => by rw [a_,if_neg Om]
     have h8' : (U2.set (nx U + 2) (.map 9 (B6 bV (met.put a2 true)) (vm + 1))).get (nx U + 3) = some (.cells [sV f.label,sV t0,vp,.bool false]) := by rw [a_,if_neg Om]; exact h8
     have bz : (ps.length + [(⟨[],u0,Int.ofNat iA⟩ : Pt)].length) * (40 + 1) <= sizeLim := by have h11 := bw; rw [cu_] at h11; simp [sizeLim]; omega
     obtain ⟨v1,τ1,hap,ho1,hb1,_⟩ := ea_ (by' := 40) (enc := ePt) (sz := 3) (fun _ => rfl) (by rw [Ac]; exact hn2) ng [(⟨[],u0,Int.ofNat iA⟩ : Pt)] bz
     have h8t : τ1.get (nx U + 3) = some (.cells [sV f.label,sV t0,vp,.bool false]) := (hb1.2 _ Om).trans h8';refine G5 ?_
     refine O1 (Fl (v := true) st9 Th rfl hvm rfl rfl (fun te k1 k2 => by first | exact Gt k1 k2 | exact Hk k1 k2 | exact Gu k1 k2 | exact H8 k1 k2 | exact F8 k1 k2 rfl)) ?_
     refine G ?_;refine XS (l := []) trivial ?_;refine G ?_
     refine DF (Ad (u := .pr (nx U + 3) 2) (cs := [vp,.bool false]) ldC rfl (by simp only [Bk,Sto.cells,h8']; rfl) rfl) ?_
     refine G6 ?_
     refine DF (Ax elC (fun _ => rfl) rfl rfl (by rw [hux]; rfl : hI.text[0]? = some u0) (i := 0)) ?_
     refine G3 ?_;refine DF (As elC byW rfl rfl rfl) (DT (A3 elC rfl slC rfl rfl rfl (new := ePt (⟨[],u0,Int.ofNat iA⟩ : Pt)) rfl hap) ?_);refine G ?_
     refine DT (Aw (ad := nx U + 3) (off := 2) (vs := [sV f.label,sV t0,vp,.bool false]) (vs' := [sV f.label,sV t0,v1,.bool false]) (cs := [v1]) ldC rfl rfl (K9 ho1) (by simp only [Sto.cells,h8t]) rfl) ?_
     refine G5 ?_
     refine ⟨bw,SL,met.put a2 true,ps ++ [(⟨[],u0,Int.ofNat iA⟩ : Pt)],v1,by rw [a_,if_pos rfl],ho1.mono (by rw [Ac]; exact nl) fun a tl _ h11 h12 _ => by rw [a_,if_neg Om],gv_ (Bf.of_get ds_ (hb1.2 _ Om)) Om,gv_ (Bf.of_get (hm2.set Om) (hb1.2 _ Om)) Om,by rw [a_,if_neg Om,hb1.2 _ Om,a_,if_neg Om]; exact h22,fun b hb => by rw [a_,if_neg Om,hb1.2 b Om,a_,if_neg Om]; exact hg2 b hb,by rw [Ac]; exact ax_ (by rw [Ac]; exact hn2) hb1.1,by rw [ao_]; simp; omega,by rw [hf2,hd2,axP,hna]; simp only []; rw [if_neg (by rw [show met.has a2 = false from h4]; simp),Apd,hIA]; simp only [hux]; rfl⟩
  ·have b6 : (f.text.drop 1).length <= i2 := by simpa using h2
   have hax : axP (Ib f.hyps 0 []) f.hyps (f.text.drop 1) [] [] = some ps := by rw [hf2,ah_ b6]; rfl
   refine G3 ?_
   refine O1 (Ad (u := .pr (nx U + 3) 0) (cs := [sV f.label,sV t0,vp,.bool false]) ldC rfl (by simp only [Bk,Sto.cells,h8]; rfl) rfl) ?_
   refine O1 (Aw (ad := nx U) (off := 0) (vs := zR) (vs' := [sV f.label,sV t0,vp,.bool false]) (cs := [sV f.label,sV t0,vp,.bool false]) ldC rfl rfl rfl (by simp only [Sto.cells,h22]) rfl) ?_
   refine G2 ?_
   have hF : Ic f = some ⟨f.label,t0,ps,false⟩ := by unfold Ic; rw [hax]; simp only [htx]; rfl
   refine G ?_
   exact ⟨[.agg [sV f.label,sV t0,vp,.bool false],.bool true],Bj (ldC (t := 181)) rfl (by simp only [Sto.cells]; rw [a_,if_pos rfl]) rfl (Gy rfl rfl),axV (some ⟨f.label,t0,ps,false⟩),U,as_ hw ⟨by rw [Ac]; omega,fun b hb => by rw [a_,if_neg Om]; exact hg2 b hb⟩,nl,.tup (.cons (.agg (.cons (.same rfl) (.cons (.same rfl) (.cons (bp.mono (by rw [Ac]; exact nl) (fun a tl _ h11 h12 _ => by rw [a_,if_neg Om]) |>.fz (fun _ => rfl) (fun a ha => hw.none Om) (Bi Aad _)) (.cons (.same rfl) .nil))))) (.cons (.same rfl) .nil)),by rw [hF],rfl⟩
theorem f78r (l : List Str) (s : Str) (a : Nat) (tl : List AV) (U : Sto) (hg : U.get a = some (.cells (l.flatMap e1 ++ tl))) (hb : l.length < 1000000) : Cv 78 [.sr a 0 1 l.length none,sV s] U (iV (A2 (fun x => decide (s = x)) l 0)) := by
 refine An Tryz.func78 rfl rfl fun hw hu0 => ?_
 refine G8 ?_;refine O1 (B0 slC rfl rfl rfl) ?_;refine G3 ?_;refine Bq l.length (fun i0 => [(0,.sr a 0 1 l.length none),(1,sV s),(7,iV (.ofNat l.length)),(8,iV (.ofNat i0))]) (fun i0 U0 => U0 = U /\ A2 (fun x => decide (s = x)) l 0 = A2 (fun x => decide (s = x)) (l.drop i0) i0) SL ⟨rfl,rfl⟩ ?_
 rintro i0 U0 hi0 ⟨rfl,hf0⟩;refine G5 ?_;refine Ab rfl ?_ ?_ <;> intro h1
 ·have bc : i0 < l.length := by simpa using h1
  obtain ⟨a0,ha0⟩ := A6 bc;have hd0 := Ay ha0
  iterate 13 refine G ?_
  refine O1 (Cj elC rfl rfl bc) (O1 (Jn (enc := e1) (v := sV a0) (fun _ => rfl) ldC rfl hg ha0 (fun _ => rfl)) ?_)
  refine G2 ?_;refine Ab rfl ?_ ?_ <;> intro h2
  ·refine G6 ?_;refine Bb hw rfl ?_
   exact (by rw [hf0,hd0]; simp only [A2,show decide (s = a0) = true from h2,cond_true]; rfl)
  ·refine G5 ?_
   refine ⟨bc,SL,rfl,by rw [hf0,hd0]; simp only [A2,show decide (s = a0) = false from h2,cond_false]⟩
 ·have bk : l.length <= i0 := by simpa using h1
  refine G6 ?_;refine Bb hw rfl ?_
  exact (by rw [hf0,ah_ bk]; rfl)
theorem f30r (l : List Str) (s : Str) (a : Nat) (tl : List AV) (U : Sto) (hg : U.get a = some (.cells (l.flatMap e1 ++ tl))) (hb : l.length < 1000000) : Cv 30 [.sr a 0 1 l.length none,sV s] U (.bool (l.any fun x => decide (s = x))) := by
 refine An Tryz.func30 rfl rfl fun hw hu0 => ?_
 refine G8 ?_;refine Ag rfl rfl rfl rfl (f78r l s a tl _ hg hb) ?_;refine G4 ?_;refine Bb hw rfl ?_;exact congrArg AV.bool (E1 l)
theorem Ape {N : Nat} (l : List Str) (s : Str) (v : AV) (U : Sto) (h : Own U N e1 1 l v) (hb : l.length < 1000000) : Ao Ew 30 [v,sV s] U fun u U' => u = .bool (l.any fun x => decide (s = x)) /\ U' = U := by
 rcases h with ⟨rfl,rfl | rfl⟩ | ⟨a,tl,_,_,rfl,hg⟩
 ·exact (f30 [] s U (by simp)).wk (.cons Ue .refl)
 ·exact (f30 [] s U (by simp)).wk (.cons D6 .refl)
 ·exact f30r l s a tl U hg hb
def Id (l : List Hp) (m : SM Hp) : SM Hp := l.foldl (fun m h => m.put (txv h) h) m
theorem Adc : ∀ {l : List Hp} {m : SM Hp} {v : Str},(∃ h ∈ l,txv h = v) -> ∃ h ∈ l,(Id l m).get v = some h /\ txv h = v
 | [],_,_,⟨_,h,_⟩ => by cases h
 | x :: l,m,v,hx => by
  by_cases hl : ∃ h ∈ l,txv h = v
  ·obtain ⟨h,h1,h2⟩ := Adc (m := m.put (txv x) x) hl;exact ⟨h,ak_ _ h1,h2⟩
  ·obtain ⟨h,hm,e⟩ := hx
   rcases aq_.1 hm with rfl | hm
   ·refine ⟨h,ar_ ..,?_,e⟩
    show (Id l (m.put (txv h) h)).get v = some h
    have key : ∀ {l : List Hp} {m : SM Hp},(∀ y ∈ l,txv y ≠ v) -> (Id l m).get v = m.get v := by
     intro l
     induction l with
     | nil => intro m _; rfl
     | cons y l ih =>
      intro m hy
      show (Id l (m.put (txv y) y)).get v = _
      rw [ih (fun z hz => hy z (ak_ _ hz)),ci_,if_neg (fi_ (hy y (ar_ ..)))]
    rw [key (fun y hy e => hl ⟨y,hy,e⟩),ci_,if_pos e.symm]
   ·exact absurd ⟨h,hm,e⟩ hl
def zG : Gr := ⟨[],[]⟩
def Aey (g : Gr) (t0 : Str) : List Str := if (!(g.sorts.any fun x => decide (t0 = x))) = true then g.sorts ++ [t0] else g.sorts
def varG (h : Hp) (v : Str) (g : Gr) : Gr := ⟨Aey g (h.text.headD []),g.rules ++ [⟨h.label,h.text.headD [],[⟨v,[],0⟩],true⟩]⟩
def O8 (hy : SM Hp) : List Str -> Gr -> Option Gr
 | [],g => some g
 | v :: r,g => match hy.get v with
  | none => none
  | some h => if decide (h.text.headD [] = [124,45]) = true then none else O8 hy r (varG h v g)
def Add (f : Fr) (g : Gr) : Bool := (f.thm || f.hyps.any (fun h => !h.floating)) || !(g.sorts.any fun x => decide (f.text.headD [] = x))
def Hd : List Fr -> Gr -> Option Gr
 | [],g => some g
 | f :: r,g => if Add f g = true then Hd r g else match Ic f with
  | none => none
  | some rl => Hd r ⟨g.sorts,g.rules ++ [rl]⟩
def ofF (d : Db) : Gr × Int :=
 if (!decide (Ds d = 0)) = true then (zG,Ds d)
 else match O8 (Id (Bu d) []) d.vars zG with
  | none => (zG,11)
  | some g => match Hd d.frames g with
   | none => (zG,150)
   | some g => if (!decide (Ni g = 0)) = true then (zG,4) else (g,0)
def eRg (r : Rl) : List AV := [sV r.label,sV r.sort,.sv (r.parts.flatMap ePt) 3 r.parts.length (if r.var = true then some 1 else none),.bool r.var]
theorem Atl {U τ : Sto} (r : Rl) : FzL U τ (eRg r) (eR r) := .cons (.same rfl) (.cons (.same rfl) (.cons (.sv (fun q h => by cases h) (.same (Bi Aad _))) (.cons (.same rfl) .nil)))
theorem Ajh {f : Fr} {r : Rl} (h : Ic f = some r) : r.var = false := by
 unfold Ic at h
 split at h
 ·cases h
 ·cases h; rfl
theorem Atm {r : Rl} (h : r.var = false) : eRg r = eR r := by unfold eRg eR slV; rw [h]; rfl
theorem Aez {args : SM Nat} {hyps : List Hp} : ∀ {l : List Str} {met : SM Bool} {ps q : List Pt},axP args hyps l met ps = some q -> q.length = ps.length + l.length
 | [],_,ps,q,h => by cases h; rfl
 | s :: l,met,ps,q,h => by
  unfold axP at h
  split at h
  ·have := Aez h; rw [this,ao_]; simp; omega
  ·split at h
   ·cases h
   ·have := Aez h; rw [this,ao_]; simp; omega
theorem Aji {f : Fr} {r : Rl} (h : Ic f = some r) : r.parts.length <= f.text.length := by
 unfold Ic at h
 split at h
 ·cases h
 ·rename_i ps hp; cases h
  have := Aez hp
  show ps.length <= _
  rw [this]; simp
theorem Ag9 {pw : Str -> Bool} {k : Kn} {f : Fr} {before : List Hp} (h : Em pw k f before = 0) : ∃ t0 tl,f.text = t0 :: tl := by
 have ht : (k.fr f.label).textF f.text = 0 := by
  unfold Em at h
  split at h
  ·cases h
  ·split at h
   ·cases h
   ·split at h
    ·cases h
    ·split at h
     ·rename_i hc; rw [h] at hc; exact absurd hc (by decide)
     ·split at h
      ·exact h
      ·rename_i hc; simpa using hc
 cases hx : f.text with
 | nil => unfold Kn.textF at ht; rw [hx] at ht; simp at ht
 | cons a l => exact ⟨a,l,rfl⟩
theorem Ajj {pw : Str -> Bool} {d : Db} (h : En pw d = 0) {f : Fr} (hf : f ∈ d.frames) : ∃ t0 tl,f.text = t0 :: tl := by
 obtain ⟨k',be',_,h2⟩ := Ro (Ag3 h) f hf;exact Ag9 h2
theorem Am4 {d : Db} (h : Ds d = 0) : En Ea d = 0 /\ (∀ x ∈ Bu d,∃ a b,x.text = [a,b]) /\ ∀ v ∈ d.vars,∃ x ∈ Bu d,txv x = v := by
 unfold Ds at h
 split at h
 ·rename_i hc
  split at h
  ·rename_i ho
   obtain ⟨l,hl⟩ := br_.1 ho
   have e : Bu d = l := by unfold Bu; rw [if_pos hc,hl]; rfl
   rw [e];exact ⟨hc,Ag5 hc hl⟩
  ·cases h
 ·rename_i hc; exact absurd h hc
theorem Aha {vars : List Str} {s : Ord} : ∀ {n : Nat} {done : SM Bool} {out l : List Hp},Uj vars s n done out = some l -> l.length = out.length + n
 | 0,_,_,_,e => by cases e; rfl
 | n + 1,done,out,l,e => by
  unfold Uj at e
  split at e
  ·cases e
  ·split at e
   ·cases e
   ·rw [Aha e,ao_]; simp; omega
theorem Ahb (d : Db) : (Bu d).length <= d.vars.length := by
 unfold Bu
 split
 ·cases ho : Eo d with
  | none => simp
  | some l =>
   show l.length <= _
   unfold Eo at ho
   split at ho
   ·split at ho
    ·cases ho; simp
    ·cases ho
   ·split at ho
    ·cases ho
    ·rw [Aha ho]; simp
 ·simp
def Ig : List AV := [.nil (.slice none 0 0),.nil (.slice none 0 0)]
structure GSt (U τ : Sto) (hy : SM Hp) (g : Gr) (vS vR : AV) : Prop where
 n : nx U + 3 <= nx τ
 g0 : ∀ b,b < nx U -> τ.get b = U.get b
 t : τ.get (nx U) = some (.cells Ig)
 m : Bf hV τ (nx U + 1) hy
 c : τ.get (nx U + 2) = some (.cells [vS,vR])
 s : Own τ (nx U + 3) e1 1 g.sorts vS
 r : Own τ (nx U + 3) eRg 4 g.rules vR
 d : ∀ a b x y,vS = .sr a 0 1 x none -> vR = .sr b 0 4 y none -> a ≠ b
theorem Ae0 {U : Sto} {N sz a : Nat} {α : Type} {enc : α -> List AV} {l : List α} {v : AV} (h : Own U N enc sz l v) {n : Nat} (e : v = .sr a 0 sz n none) : N <= a /\ a < nx U := by
 rcases h with ⟨_,rfl | rfl⟩ | ⟨b,tl,h1,h2,h3,_⟩
 ·cases e
 ·cases e
 ·rw [h3] at e; cases e; exact ⟨h1,h2⟩
theorem GSt.addS {U τ : Sto} {hy : SM Hp} {g : Gr} {vS vR : AV} (h : GSt U τ hy g vS vR) (t0 : Str) (bz : (g.sorts.length + 1) * (16 + 1) <= sizeLim) :
  ∃ U1 v1,Bm τ 1 16 vS 1 (e1 t0) = some (v1,U1) /\ v1.cellsN 1 = some [v1] /\ U1.get (nx U + 2) = some (.cells [vS,vR]) /\ GSt U (U1.set (nx U + 2) (.cells [v1,vR])) hy ⟨g.sorts ++ [t0],g.rules⟩ v1 vR := by
 have hn := h.n
 obtain ⟨U1,h1,h2,h3,h4,h5⟩ := Own.app1 (sz := 1) (enc := e1) (by' := 16) (fun _ => rfl) (show nx U + 3 <= nx τ from hn) h.s t0 bz
 have lo : ∀ b,b < nx U + 3 -> U1.get b = τ.get b := fun b hb => h5 b Om fun c hc e => by have := (Ae0 h.s hc).1; omega
 refine ⟨U1,_,h1,rfl,(lo _ Om).trans h.c,⟨by rw [Ac,h3]; omega,fun b hb => by rw [a_,if_neg Om,lo b Om]; exact h.g0 b hb,by rw [a_,if_neg Om,lo _ Om]; exact h.t,(h.m.of_get (lo _ Om)).set Om,by rw [a_,if_pos rfl],h4.mono (by rw [Ac]; exact nl) fun a tl _ k1 _ _ => by rw [a_,if_neg Om],?_,fun a b x y e1' e2 => ?_⟩⟩
 ·refine h.r.mono (by rw [Ac,h3]; omega) fun a tl hv k1 k2 _ => ?_
  rw [a_,if_neg Om];exact h5 a k2 fun c hc e => h.d c a _ _ hc hv e.symm
 ·cases e1';have := (Ae0 h.r e2).2;omega
theorem GSt.addR {U τ : Sto} {hy : SM Hp} {g : Gr} {vS vR : AV} (h : GSt U τ hy g vS vR) (r : Rl) (bz : (g.rules.length + 1) * (64 + 1) <= sizeLim) :
  ∃ U1 v1,Bm τ 4 64 vR 1 (eRg r) = some (v1,U1) /\ v1.cellsN 1 = some [v1] /\ U1.get (nx U + 2) = some (.cells [vS,vR]) /\ GSt U (U1.set (nx U + 2) (.cells [vS,v1])) hy ⟨g.sorts,g.rules ++ [r]⟩ vS v1 := by
 have hn := h.n
 obtain ⟨U1,h1,h2,h3,h4,h5⟩ := Own.app1 (sz := 4) (enc := eRg) (by' := 64) (fun _ => rfl) (show nx U + 3 <= nx τ from hn) h.r r bz
 have lo : ∀ b,b < nx U + 3 -> U1.get b = τ.get b := fun b hb => h5 b Om fun c hc e => by have := (Ae0 h.r hc).1; omega
 refine ⟨U1,_,h1,rfl,(lo _ Om).trans h.c,⟨by rw [Ac,h3]; omega,fun b hb => by rw [a_,if_neg Om,lo b Om]; exact h.g0 b hb,by rw [a_,if_neg Om,lo _ Om]; exact h.t,(h.m.of_get (lo _ Om)).set Om,by rw [a_,if_pos rfl],?_,h4.mono (by rw [Ac]; exact nl) fun a tl _ k1 _ _ => by rw [a_,if_neg Om],fun a b x y e1' e2 => ?_⟩⟩
 ·refine h.s.mono (by rw [Ac,h3]; omega) fun a tl hv k1 k2 _ => ?_
  rw [a_,if_neg Om];exact h5 a k2 fun c hc e => h.d a c _ _ hv hc e
 ·cases e2;have := (Ae0 h.s e1').2;omega
theorem Abs {pw : Str -> Bool} {d : Db} (h : En pw d = 0) {f : Fr} (hf : f ∈ d.frames) (ha : (f.hyps.any fun h => !h.floating) = false) : ∀ x ∈ f.hyps,∃ a b,x.text = [a,b] := fun x hx => by
 refine ((To h hf).1 x (by simp [Fr.all,hx]) ?_).1
 have := em_.1 ha x hx
 simpa using this
theorem Atn (o : Option Rl) : axV o = .tup [.agg (eR (o.getD ⟨[],[],[],false⟩)),.bool o.isSome] := by cases o <;> rfl
theorem Apf {N : Nat} (g : Gr) (i : Int) : AV.und N (.tup [grV g,iV i]) = true := by
 show ((AV.und N (Aq g.sorts) && (AV.und N (slV eR 4 g.rules) && true)) && (true && true)) = true
 rw [show AV.und N (Aq g.sorts) = true from Ka Ke _,Ka Aex]; rfl
theorem Apg {U : Sto} (hw : WFS U) : WFS (U.new (.cells Ig)) := hw.new rfl trivial
theorem f138g (f : Fr) (U : Sto) (t0 : Str) (hB : FrB f) (htx : ∃ tl,f.text = t0 :: tl) (hh : ∀ h ∈ f.hyps,∃ a b,h.text = [a,b]) : Cv 138 [.agg (eF f)] U (.tup [.agg (eR ((Ic f).getD ⟨[],[],[],false⟩)),.bool (Ic f).isSome]) := by
 rw [← Atn]; exact f138 f U t0 hB htx hh
theorem f99 (d : Db) (U : Sto) (hB : DbB d) (hvf : d.vars.length + d.frames.length < 1000000) : Cv 99 [dbV d] U (.tup [grV (ofF d).1,iV (ofF d).2]) := by
 refine An Tryz.func99 rfl rfl fun hw hu0 => ?_
 refine G3 ?_;refine O1 (Ct ziC) ?_;refine G5 ?_;refine Ag rfl rfl rfl rfl (f136 d _ hB) ?_;refine G12 ?_;refine Ab rfl ?_ ?_ <;> intro h1
 ·refine G4 ?_
  refine O1 (Aw (ad := nx U) (off := 0) (vs := Ig) (vs' := Ig) (cs := Ig) ldC rfl rfl rfl (by simp only [Sto.cells]; rw [ab_,if_pos rfl]; rfl) rfl) ?_
  refine G2 ?_;have hF : ofF d = (zG,Ds d) := if_pos h1;refine G ?_
  exact ⟨[.agg Ig,iV (Ds d)],Bj (ldC (t := 89)) rfl (by simp only [Sto.cells]; rw [a_,if_pos rfl]) rfl (Gy rfl rfl),.tup [grV zG,iV (Ds d)],U,as_ hw ⟨by rw [Ac,Af]; omega,fun b hb => by rw [a_,if_neg Om,ab_,if_neg Om]⟩,nl,.tup (.cons (.agg (.cons Dr (.cons Dr .nil))) (.cons (.same rfl) .nil)),by rw [hF],rfl⟩
 ·have he0 : Ds d = 0 := by simpa using h1
  obtain ⟨hok,bi,jp⟩ := Am4 he0;have hfl := Ahb d;have hbv := hB.v;have hbn := hB.n;refine G3 ?_;refine O1 (Bp (n := nx U + 1) O0 (nx1 rfl)) ?_;refine G10 ?_
  refine Bq (Bu d).length (fun i0 => [(1,.pv [Aq d.consts,Aq d.vars,slV eF 8 d.frames]),(2,.pr (nx U) 0),(6,.mp (nx U + 1)),(28,slV eH 3 (Bu d)),(29,iV (.ofNat (Bu d).length)),(30,iV (.ofNat i0))]) (fun i0 U0 => nx U0 = nx U + 2 /\ U0.get (nx U) = some (.cells Ig) /\ (∀ b,b < nx U -> U0.get b = U.get b) /\ ∃ m,Bf hV U0 (nx U + 1) m /\ (Id (Bu d) []) = Id ((Bu d).drop i0) m) SL ⟨by rw [Af,Af],by rw [ab_,if_neg (by rw [Af]; omega),ab_,if_pos rfl]; rfl,fun b hb => by rw [ab_,if_neg (by rw [Af]; omega),ab_,if_neg Om],[],⟨0,by rw [ab_,if_pos (by rw [Af])]; rfl⟩,rfl⟩ ?_
  rintro i0 U0 hi0 ⟨hn0,h20,hg0,m,hm0,hf0⟩;refine G5 ?_;refine Ab rfl ?_ ?_ <;> intro h2
  ·have bc : i0 < (Bu d).length := by simpa using h2
   obtain ⟨a0,ha0⟩ := A6 bc;have hd0 := Ay ha0;obtain ⟨u0,u1,hux⟩ := bi a0 (ae_ ha0);obtain ⟨vm,hvm⟩ := id hm0;refine G9 ?_;refine XS (l := []) trivial ?_;refine G3 ?_
   refine DF (Ax elC (fun _ => rfl) rfl rfl (by rw [hux]; rfl : a0.text[1]? = some u1) (i := 1)) ?_
   refine G2 ?_
   refine DT (Fl (v := a0) st9 O0 rfl hvm rfl rfl (fun te k1 k2 => by first | exact Gt k1 k2 | exact Hk k1 k2 | exact Gu k1 k2 | exact H8 k1 k2 | exact F8 k1 k2 rfl)) ?_
   refine G5 ?_
   refine ⟨bc,SL,by rw [Ac]; exact hn0,by rw [a_,if_neg Om]; exact h20,fun b hb => by rw [a_,if_neg Om]; exact hg0 b hb,m.put u1 a0,ds_,by rw [hf0,hd0]; show Id _ (m.put (txv a0) a0) = _; rw [X2 hux]⟩
  ·have bk : (Bu d).length <= i0 := by simpa using h2
   have bj : (Id (Bu d) []) = m := by rw [hf0,ah_ bk]; rfl
   rw [← bj] at hm0;refine G4 ?_
   refine O1 (Cn (n := nx U + 2) ziC hn0) (O1 (Aw (ad := nx U + 2) (off := 0) (vs := Ig) (vs' := Ig) (cs := Ig) ldC rfl rfl rfl (by simp only [Sto.cells]; rw [ab_,if_pos hn0.symm]; rfl) rfl) ?_)
   refine G9 ?_
   have el : ∃ g vS vR,GSt U ((U0.new (.cells Ig)).set (nx U + 2) (.cells Ig)) (Id (Bu d) []) g vS vR /\ g.sorts.length <= 0 /\ g.rules.length <= 0 /\ (∀ r ∈ g.rules,r.parts.length < 1000000) /\ O8 (Id (Bu d) []) d.vars zG = O8 (Id (Bu d) []) (d.vars.drop 0) g := by
    have hlo : ∀ b,b < nx U + 2 -> ((U0.new (.cells Ig)).set (nx U + 2) (.cells Ig)).get b = U0.get b := fun b hb => by rw [a_,if_neg Om,ab_,if_neg Om]
    exact ⟨zG,.nil (.slice none 0 0),.nil (.slice none 0 0),⟨by rw [Ac,Af,hn0]; exact nl,fun b hb => (hlo b Om).trans (hg0 b hb),(hlo _ Om).trans h20,hm0.of_get (hlo _ Om),by rw [a_,if_pos rfl]; rfl,.nil,.nil,fun a b x y e1 _ => by cases e1⟩,nl,nl,fun r hr => (by cases hr),rfl⟩
   refine G ?_;refine Bq d.vars.length (fun i2 => [(1,.pv [Aq d.consts,Aq d.vars,slV eF 8 d.frames]),(2,.pr (nx U) 0),(6,.mp (nx U + 1)),(9,.pr (nx U + 2) 0),(43,Aq d.vars),(44,iV (.ofNat d.vars.length)),(45,iV (.ofNat i2))]) (fun i2 U2 => ∃ g vS vR,GSt U U2 (Id (Bu d) []) g vS vR /\ g.sorts.length <= i2 /\ g.rules.length <= i2 /\ (∀ r ∈ g.rules,r.parts.length < 1000000) /\ O8 (Id (Bu d) []) d.vars zG = O8 (Id (Bu d) []) (d.vars.drop i2) g) SL el ?_
   rintro i2 U2 hi2 ⟨g,vS,vR,hG2,hsl,hrl,hpl,hf2⟩;refine G5 ?_;refine Ab rfl ?_ ?_ <;> intro h3
   ·have bw : i2 < d.vars.length := by simpa using h3
    obtain ⟨a2,ha2⟩ := A6 bw;have hd2 := Ay ha2;obtain ⟨x2,hx2,hxv⟩ := jp a2 (ae_ ha2);obtain ⟨hh,hhm,hhg,hhv⟩ := Adc (m := []) ⟨x2,hx2,hxv⟩;obtain ⟨u0,u1,hux⟩ := bi hh hhm
    have hu : hh.text.headD [] = u0 := by rw [hux]; rfl
    iterate 13 refine G ?_
    refine O1 (K8 st9 O0 rfl hG2.m rfl hhg) ?_;refine G7 ?_
    refine O1 (Ax elC (fun _ => rfl) rfl rfl (by rw [hux]; rfl : hh.text[0]? = some u0) (i := 0)) ?_
    refine G ?_;refine O1 (Ud (q := [124,45]) okC rfl rfl) ?_;refine G ?_;refine Ab rfl ?_ ?_ <;> intro h4
    ·refine G3 ?_
     refine O1 (Aw (ad := nx U) (off := 0) (vs := Ig) (vs' := Ig) (cs := Ig) ldC rfl rfl rfl (by simp only [Sto.cells,hG2.t]) rfl) ?_
     refine G2 ?_
     have hv0 : O8 (Id (Bu d) []) d.vars zG = none := by rw [hf2,hd2,O8,hhg]; simp only [hu]; exact if_pos h4
     have hF : ofF d = (zG,11) := (if_neg (fun hc => Bool.noConfusion (h1.symm.trans hc))).trans (by rw [hv0])
     refine G ?_
     exact ⟨[.agg Ig,iV (11)],Bj (ldC (t := 89)) rfl (by simp only [Sto.cells]; rw [a_,if_pos rfl]) rfl (Gy rfl rfl),.tup [grV zG,iV (11)],U,as_ hw ⟨by rw [Ac]; have := hG2.n; omega,fun b hb => by rw [a_,if_neg Om]; exact hG2.g0 b hb⟩,nl,.tup (.cons (.agg (.cons Dr (.cons Dr .nil))) (.cons (.same rfl) .nil)),by rw [hF],rfl⟩
    ·refine G3 ?_;refine XS (l := [(30,[vS,sV u0],U2,.bool (g.sorts.any fun x => decide (u0 = x)),U2)]) ⟨Ape g.sorts u0 vS U2 hG2.s Om,trivial⟩ ?_
     refine G ?_
     refine DF (Ad (u := .pr (nx U + 2) 0) (cs := [vS,vR]) ldC rfl (by simp only [Bk,Sto.cells,hG2.c]; rfl) rfl) ?_
     refine G2 ?_
     refine DF (Ax elC (fun _ => rfl) rfl rfl (by rw [hux]; rfl : hh.text[0]? = some u0) (i := 0)) ?_
     refine G4 ?_;refine Ab rfl ?_ ?_ <;> intro h5
     ·obtain ⟨U3,v1,hap,hc1,hcS,hG3⟩ := hG2.addS u0 (by simp [sizeLim]; omega)
      obtain ⟨U5,v2,gz,hc2,hcR,hG2''⟩ := hG3.addR (⟨hh.label,u0,[⟨a2,[],0⟩],true⟩ : Rl) (by simp [sizeLim]; omega)
      have gy : ∀ r ∈ g.rules ++ [(⟨hh.label,u0,[⟨a2,[],0⟩],true⟩ : Rl)],r.parts.length < 1000000 := fun r hr => by
       rcases b_.1 hr with hr | hr
       ·exact hpl r hr
       ·rw [am_.1 hr]; show 1 < 1000000; omega
      refine XS (l := []) trivial ?_;refine G ?_
      refine DF (Ad (u := .pr (nx U + 2) 0) (cs := [vS,vR]) ldC rfl (by simp only [Bk,Sto.cells,hG2.c]; rfl) rfl) ?_
      refine G2 ?_
      refine DF (Ax elC (fun _ => rfl) rfl rfl (by rw [hux]; rfl : hh.text[0]? = some u0) (i := 0)) ?_
      refine G ?_;refine DF (As elC byW rfl rfl rfl) (DT (A3 elC rfl slC rfl rfl rfl (new := e1 u0) rfl hap) ?_);refine G ?_
      refine DT (Aw (ad := nx U + 2) (off := 0) (vs := [vS,vR]) (vs' := [v1,vR]) (cs := [v1]) ldC rfl rfl hc1 (by simp only [Sto.cells,hcS]) rfl) ?_
      refine G ?_;refine XS (l := []) trivial ?_;refine G ?_
      refine DF (Ad (u := .pr (nx U + 2) 1) (cs := [vR]) ldC rfl (by simp only [Bk,Sto.cells,hG3.c]; rfl) rfl) ?_
      refine G4 ?_
      refine DF (Ax elC (fun _ => rfl) rfl rfl (by rw [hux]; rfl : hh.text[0]? = some u0) (i := 0)) ?_
      refine G3 ?_;refine DF (As elC byW rfl rfl rfl) ?_;refine G ?_;refine DF (As elC byW rfl rfl rfl) (DT (A3 elC rfl slC rfl rfl rfl (new := eRg (⟨hh.label,u0,[⟨a2,[],0⟩],true⟩ : Rl)) rfl gz) ?_);refine G ?_
      refine DT (Aw (ad := nx U + 2) (off := 1) (vs := [v1,vR]) (vs' := [v1,v2]) (cs := [v2]) ldC rfl rfl hc2 (by simp only [Sto.cells,hcR]) rfl) ?_
      refine G5 ?_
      refine ⟨bw,SL,⟨g.sorts ++ [u0],g.rules ++ [(⟨hh.label,u0,[⟨a2,[],0⟩],true⟩ : Rl)]⟩,v1,v2,hG2'',by simp; omega,by simp; omega,gy,by rw [hf2,hd2,O8,hhg]; simp only [hu]; rw [if_neg (by rw [h4]; simp)]; unfold varG Aey; rw [hu,if_pos h5]⟩
     ·obtain ⟨U5,v2,gz,hc2,hcR,hG2''⟩ := hG2.addR (⟨hh.label,u0,[⟨a2,[],0⟩],true⟩ : Rl) (by simp [sizeLim]; omega)
      have gy : ∀ r ∈ g.rules ++ [(⟨hh.label,u0,[⟨a2,[],0⟩],true⟩ : Rl)],r.parts.length < 1000000 := fun r hr => by
       rcases b_.1 hr with hr | hr
       ·exact hpl r hr
       ·rw [am_.1 hr]; show 1 < 1000000; omega
      refine G ?_;refine XS (l := []) trivial ?_;refine G ?_
      refine DF (Ad (u := .pr (nx U + 2) 1) (cs := [vR]) ldC rfl (by simp only [Bk,Sto.cells,hG2.c]; rfl) rfl) ?_
      refine G4 ?_
      refine DF (Ax elC (fun _ => rfl) rfl rfl (by rw [hux]; rfl : hh.text[0]? = some u0) (i := 0)) ?_
      refine G3 ?_;refine DF (As elC byW rfl rfl rfl) ?_;refine G ?_;refine DF (As elC byW rfl rfl rfl) (DT (A3 elC rfl slC rfl rfl rfl (new := eRg (⟨hh.label,u0,[⟨a2,[],0⟩],true⟩ : Rl)) rfl gz) ?_);refine G ?_
      refine DT (Aw (ad := nx U + 2) (off := 1) (vs := [vS,vR]) (vs' := [vS,v2]) (cs := [v2]) ldC rfl rfl hc2 (by simp only [Sto.cells,hcR]) rfl) ?_
      refine G5 ?_
      refine ⟨bw,SL,⟨g.sorts,g.rules ++ [(⟨hh.label,u0,[⟨a2,[],0⟩],true⟩ : Rl)]⟩,vS,v2,hG2'',by simp; omega,by simp; omega,gy,by rw [hf2,hd2,O8,hhg]; simp only [hu]; rw [if_neg (by rw [h4]; simp)]; unfold varG Aey; rw [hu,if_neg (by rw [h5]; simp)]⟩
   ·have b6 : d.vars.length <= i2 := by simpa using h3
    have hv2 : O8 (Id (Bu d) []) d.vars zG = some g := by rw [hf2,ah_ b6]; rfl
    obtain ⟨gv,hgv⟩ : ∃ x,x = g := ⟨_,rfl⟩;rw [← hgv] at hv2
    have jn : ∃ g4 vS vR,GSt U U2 (Id (Bu d) []) g4 vS vR /\ g4.sorts.length <= d.vars.length /\ g4.rules.length <= d.vars.length + 0 /\ (∀ r ∈ g4.rules,r.parts.length < 1000000) /\ Hd d.frames gv = Hd (d.frames.drop 0) g4 := ⟨g,vS,vR,hG2,by omega,by omega,hpl,by rw [hgv]; rfl⟩
    iterate 14 refine G ?_
    refine Bq d.frames.length (fun i4 => [(2,.pr (nx U) 0),(9,.pr (nx U + 2) 0),(13,.fn (.func 137) [] []),(92,slV eF 8 d.frames),(93,iV (.ofNat d.frames.length)),(94,iV (.ofNat i4))]) (fun i4 U4 => ∃ g vS vR,GSt U U4 (Id (Bu d) []) g vS vR /\ g.sorts.length <= d.vars.length /\ g.rules.length <= d.vars.length + i4 /\ (∀ r ∈ g.rules,r.parts.length < 1000000) /\ Hd d.frames gv = Hd (d.frames.drop i4) g) SL jn ?_
    rintro i4 U4 hi4 ⟨g,vS,vR,hG4,hsl,hrl,hpl,hf4⟩;refine G5 ?_;refine Ab rfl ?_ ?_ <;> intro h4
    ·have dc : i4 < d.frames.length := by simpa using h4
     obtain ⟨a4,ha4⟩ := A6 dc;have hd4 := Ay ha4;have hFa := hB.f a4 (ae_ ha4);obtain ⟨t0,tl,htx⟩ := Ajj hok (ae_ ha4)
     have htd : a4.text.headD [] = t0 := by rw [htx]; rfl
     refine G10 ?_
     refine Gg [(115,.bool ((a4.thm || a4.hyps.any (fun h => !h.floating)) || !(g.sorts.any fun x => decide (t0 = x))))] ?_ ?_
     ·rcases au_ (a4.thm) with hg2 | hg2
      ·refine XS (l := [(44,[slV eH 3 a4.hyps,.fn (.func 137) [] []],U4,.bool (a4.hyps.any fun h => !h.floating),U4),(30,[vS,sV t0],U4,.bool (g.sorts.any fun x => decide (t0 = x)),U4)]) ⟨f44 (fun h => !h.floating) a4.hyps 137 [] U4 (by have := hFa.h; omega) (fun a _ => f137 a U4),Ape g.sorts t0 vS U4 hG4.s Om,trivial⟩ ?_
       refine G6 ?_
       refine Ln rfl rfl rfl rfl (by simp [hg2]) rfl rfl ?_
       refine G8 ?_
       refine Ln rfl rfl rfl rfl (by simp [hg2]) rfl rfl ?_
       refine G3 ?_;exact ⟨⟨Cb,trivial⟩,sb,rfl⟩
      ·rcases au_ ((a4.hyps.any fun h => !h.floating)) with hg8 | hg8
       ·refine XS (l := [(44,[slV eH 3 a4.hyps,.fn (.func 137) [] []],U4,.bool (a4.hyps.any fun h => !h.floating),U4),(30,[vS,sV t0],U4,.bool (g.sorts.any fun x => decide (t0 = x)),U4)]) ⟨f44 (fun h => !h.floating) a4.hyps 137 [] U4 (by have := hFa.h; omega) (fun a _ => f137 a U4),Ape g.sorts t0 vS U4 hG4.s Om,trivial⟩ ?_
        refine G6 ?_
        refine M7 rfl rfl rfl rfl (by simp [hg8,hg2]) rfl rfl (Bg rfl rfl Bo) ?_
        refine DF (A7 rfl (by simp [hg8,hg2]) rfl) ?_
        refine DF (Al rfl) (Wx (w := by simp [hg8,hg2]) ?_)
        refine Wx (w := by simp [hg8,hg2]) ?_
        refine Wx (w := by simp [hg8,hg2]) ?_
        refine Wx (w := by simp [hg8,hg2]) ?_
        refine Wx (w := by simp [hg8,hg2]) ?_
        refine Wx (w := by simp [hg8,hg2]) ?_
        refine Ln rfl rfl rfl rfl (by simp [hg8,hg2]) rfl rfl ?_
        refine G3 ?_
        exact ⟨⟨congrArg (fun b => some (AV.bool b)) (by simp [hg8,hg2]),trivial⟩,sb,rfl⟩
       ·refine XS (l := [(44,[slV eH 3 a4.hyps,.fn (.func 137) [] []],U4,.bool (a4.hyps.any fun h => !h.floating),U4),(30,[vS,sV t0],U4,.bool (g.sorts.any fun x => decide (t0 = x)),U4)]) ⟨f44 (fun h => !h.floating) a4.hyps 137 [] U4 (by have := hFa.h; omega) (fun a _ => f137 a U4),Ape g.sorts t0 vS U4 hG4.s Om,trivial⟩ ?_
        refine DF (Aj fdC rfl rfl) (DF (Ad ldC rfl rfl rfl) (DF (Al rfl) (Wn (w := by simp [hg8,hg2]) (Aj fdC rfl rfl) ?_)))
        refine Wn (w := by simp [hg8,hg2]) (Ad ldC rfl rfl rfl) ?_
        refine Wn (w := by simp [hg8,hg2]) (Al rfl) ?_
        refine M7 rfl rfl rfl rfl (by simp [hg8,hg2]) rfl rfl (Bg rfl rfl Bo) ?_
        refine DF (A7 rfl (by simp [hg8,hg2]) rfl) ?_
        refine DF (Al rfl) (Wn (w := by simp [hg8,hg2]) (Aj fdC rfl rfl) ?_)
        refine Wn (w := by simp [hg8,hg2]) (Ad (u := .pr (nx U + 2) 0) (cs := [vS,vR]) ldC rfl (by simp only [Bk,Sto.cells,hG4.c]; rfl) rfl) ?_
        refine G2 ?_
        refine Wn (w := by simp [hg8,hg2]) (Ax elC (fun _ => rfl) rfl rfl (by rw [htx]; rfl : a4.text[0]? = some t0) (i := 0)) ?_
        refine Wn (w := by simp [hg8,hg2]) (Ad ldC rfl rfl rfl) ?_
        refine M7 rfl rfl rfl rfl (by simp [hg8,hg2]) rfl rfl (Bg rfl rfl (B5 (by decide) Bo)) ?_
        refine Wn (w := by simp [hg8,hg2]) (F4 rfl) ?_
        refine DF (A7 rfl (by simp [hg8,hg2]) rfl) ?_
        refine Dq ?_
        exact ⟨⟨congrArg (fun b => some (AV.bool b)) (by simp [hg8,hg2]),trivial⟩,sb,rfl⟩
     refine Ab rfl ?_ ?_ <;> intro h5
     ·replace h5 : Add a4 g = true := by unfold Add; rw [htd]; exact h5
      refine G5 ?_
      refine ⟨dc,SL,g,vS,vR,hG4,hsl,by omega,hpl,by rw [hf4,hd4,Hd,if_pos h5]⟩
     ·replace h5 : Add a4 g = false := by unfold Add; rw [htd]; exact h5
      have hfl : ∀ x ∈ a4.hyps,∃ a b,x.text = [a,b] := Abs hok (ae_ ha4) (by unfold Add at h5; cases hh : (a4.hyps.any fun h => !h.floating) with | false => rfl | true => rw [hh] at h5; simp at h5)
      refine G4 ?_;refine Ag rfl rfl rfl rfl (f138g a4 U4 t0 hFa ⟨tl,htx⟩ hfl) ?_;refine G12 ?_;refine Ab rfl ?_ ?_ <;> intro h6
      ·have hax : Ic a4 = none := by simpa using h6
       refine G3 ?_
       refine O1 (Aw (ad := nx U) (off := 0) (vs := Ig) (vs' := Ig) (cs := Ig) ldC rfl rfl rfl (by simp only [Sto.cells,hG4.t]) rfl) ?_
       refine G2 ?_
       have hfr : Hd d.frames gv = none := by rw [hf4,hd4,Hd,if_neg (by rw [h5]; simp),hax]
       have hF : ofF d = (zG,150) := (if_neg (fun hc => Bool.noConfusion (h1.symm.trans hc))).trans (by rw [hv2]; simp only []; rw [hfr])
       refine G ?_
       exact ⟨[.agg Ig,iV (150)],Bj (ldC (t := 89)) rfl (by simp only [Sto.cells]; rw [a_,if_pos rfl]) rfl (Gy rfl rfl),.tup [grV zG,iV (150)],U,as_ hw ⟨by rw [Ac]; have := hG4.n; omega,fun b hb => by rw [a_,if_neg Om]; exact hG4.g0 b hb⟩,nl,.tup (.cons (.agg (.cons Dr (.cons Dr .nil))) (.cons (.same rfl) .nil)),by rw [hF],rfl⟩
      ·obtain ⟨rl,hax⟩ : ∃ rl,Ic a4 = some rl := br_.1 (by simpa using h6)
       obtain ⟨U5,v1,hap,hc1,hcR,hG5⟩ := hG4.addR rl (by simp [sizeLim]; omega)
       have gy : ∀ r ∈ g.rules ++ [rl],r.parts.length < 1000000 := fun r hr => by
        rcases b_.1 hr with hr | hr
        ·exact hpl r hr
        ·rw [am_.1 hr]; exact dd_ (Aji hax) hFa.t
       refine G3 ?_
       refine O1 (Ad (u := .pr (nx U + 2) 1) (cs := [vR]) ldC rfl (by simp only [Bk,Sto.cells,hG4.c]; rfl) rfl) ?_
       refine G ?_
       refine C1 (As elC byW rfl rfl rfl) (D6 (len := 1)) rfl rfl (O1 (A3 elC rfl slC rfl rfl rfl (new := eRg rl) (by rw [hax,Atm (Ajh hax)]; rfl) hap) ?_)
       refine G ?_
       refine O1 (Aw (ad := nx U + 2) (off := 1) (vs := [vS,vR]) (vs' := [vS,v1]) (cs := [v1]) ldC rfl rfl hc1 (by simp only [Sto.cells,hcR]) rfl) ?_
       refine G5 ?_
       refine ⟨dc,SL,⟨g.sorts,g.rules ++ [rl]⟩,vS,v1,hG5,hsl,by simp; omega,gy,by rw [hf4,hd4,Hd,if_neg (by rw [h5]; simp),hax]⟩
    ·have ic : d.frames.length <= i4 := by simpa using h4
     have hfr : Hd d.frames gv = some g := by rw [hf4,ah_ ic]; rfl
     refine G ?_
     have hGB : GrB g := ⟨by omega,by omega,hpl⟩
     have hn4 := hG4.n
     refine An7 (U.new (.cells Ig)) [(2,.pr (nx U) 0),(9,.pv [Aq g.sorts,slV eR 4 g.rules])] (ag_ (Apg hw) (by rw [Af]; omega) fun b hb => ?_) (by rw [Af]; omega) ⟨⟨_,rfl,.same ?_⟩,⟨_,rfl,.pr hG4.c (by rw [ab_,if_neg Om]; exact hw.none Om) (.cons (hG4.s.fz (fun _ => rfl) (fun a ha => by rw [ab_,if_neg Om]; exact hw.none Om) (Bi Ke _)) (.cons (hG4.r.fzE (fun _ => rfl) (fun a ha => by rw [ab_,if_neg Om]; exact hw.none Om) Atl) .nil))⟩,trivial⟩ ?_
     ·rw [Af] at hb;rw [ab_]
      split
      ·rename_i e; rw [e]; exact hG4.t
      ·exact hG4.g0 b Om
     ·unfold AV.und; rw [Af]; simp
     refine G4 ?_;refine Ag rfl rfl rfl rfl (f139 g _ hGB) ?_;refine G2 ?_;refine Ab rfl ?_ ?_ <;> intro h5
     ·refine G3 ?_
      refine O1 (Aw (ad := nx U) (off := 0) (vs := Ig) (vs' := Ig) (cs := Ig) ldC rfl rfl rfl (by simp only [Sto.cells]; rw [ab_,if_pos rfl]) rfl) ?_
      refine G2 ?_
      have hF : ofF d = (zG,4) := (if_neg (fun hc => Bool.noConfusion (h1.symm.trans hc))).trans (by rw [hv2]; simp only []; rw [hfr]; exact if_pos h5)
      refine G ?_
      exact ⟨[.agg Ig,iV (4)],Bj (ldC (t := 89)) rfl (by simp only [Sto.cells]; rw [a_,if_pos rfl]) rfl (Gy rfl rfl),.tup [grV zG,iV (4)],U,as_ hw ⟨by rw [Ac,Af]; omega,fun b hb => by rw [a_,if_neg Om,ab_,if_neg Om]⟩,nl,.tup (.cons (.agg (.cons Dr (.cons Dr .nil))) (.cons (.same rfl) .nil)),by rw [hF],rfl⟩
     ·refine G4 ?_
      refine O1 (Aw (ad := nx U) (off := 0) (vs := Ig) (vs' := [Aq g.sorts,slV eR 4 g.rules]) (cs := [Aq g.sorts,slV eR 4 g.rules]) ldC rfl rfl rfl (by simp only [Sto.cells]; rw [ab_,if_pos rfl]) rfl) ?_
      refine G2 ?_
      have hF : ofF d = (g,0) := (if_neg (fun hc => Bool.noConfusion (h1.symm.trans hc))).trans (by rw [hv2]; simp only []; rw [hfr]; exact if_neg (by rw [h5]; simp))
      refine G ?_
      exact ⟨[grV g,iV 0],Bj (ldC (t := 89)) rfl (by simp only [Sto.cells]; rw [a_,if_pos rfl]) rfl (Gy rfl rfl),.tup [grV g,iV 0],U,as_ hw ⟨by rw [Ac,Af]; omega,fun b hb => by rw [a_,if_neg Om,ab_,if_neg Om]⟩,nl,.same (Apf _ _),by rw [hF],rfl⟩
mutual
def Av : Ah -> Nat
 | .node _ ks => 1 + By ks
def By : List Ah -> Nat
 | [] => 0
 | t :: r => Av t + By r
end
mutual
def dpT : Ah -> Nat -> Nat
 | .node _ ks,lv => dpL ks (lv + 1) lv
def dpL : List Ah -> Nat -> Nat -> Nat
 | [],_,d => d
 | t :: r,lv,d => dpL r lv (max d (dpT t lv))
end
theorem La (t : Ah) : 1 <= Av t := by cases t; unfold Av; omega
theorem Mg : ∀ (l m : List Ah),By (l ++ m) = By l + By m
 | [],m => by simp [By]
 | t :: r,m => by simp only [az_,By,Mg r m]; omega
theorem Ae1 : ∀ (l m : List Ah) (lv d : Nat),dpL (l ++ m) lv d = dpL m lv (dpL l lv d)
 | [],m,lv,d => by simp [dpL]
 | t :: r,m,lv,d => by simp only [az_,dpL,Ae1 r m]
theorem Ahc {α : Type} {l : List α} {i : Nat} {a : α} (h : l[i]? = some a) : l.take (i + 1) = l.take i ++ [a] := by
 rw [List.take_add_one,h]; rfl
theorem Ade {l : List Ah} {i : Nat} {a : Ah} (h : l[i]? = some a) : By (l.take i) + Av a <= By l := by
 have e : By l = By (l.take (i + 1)) + By (l.drop (i + 1)) := by rw [← Mg,c_]
 rw [e,Ahc h,Mg]; simp only [By]; omega
theorem F9 : ∀ {l : List Ah} {a : Ah},a ∈ l -> Av a <= By l
 | x :: r,a,h => by
  unfold By
  rcases aq_.1 h with rfl | h
  ·omega
  ·have := F9 h; omega
theorem Ed : ∀ l : List Ah,l.length <= By l
 | [] => nl
 | t :: r => by have := Ed r; have := La t; simp only [at_,By]; omega
mutual
theorem L3 : ∀ (t : Ah) (lv : Nat),lv <= dpT t lv /\ dpT t lv + 1 <= lv + Av t
 | .node _ ks,lv => by
  unfold dpT Av;have := Aph ks (lv + 1) lv;omega
theorem Aph : ∀ (l : List Ah) (lv d : Nat),d <= dpL l lv d /\ dpL l lv d + 1 <= max (d + 1) (lv + By l)
 | [],lv,d => by unfold dpL; exact ⟨nl,by omega⟩
 | t :: r,lv,d => by
  unfold dpL By;have h1 := L3 t lv;have h2 := Aph r lv (max d (dpT t lv));have h3 := La t;omega
end
theorem Ep (l : Str) (ks : List Ah) : Ap (.node l ks) = .agg [sV l,slV eT 2 ks] := by rw [Ap,Cc]
mutual
theorem Ald : ∀ (t : Ah) (n : Int),0 <= Lz t n -> Int.ofNat (Av t) = n - Lz t n
 | .node _ ks,n,h => by
  unfold Lz at h ⊢;unfold Av;have := Ahd ks (n - 1) h;simp only [ai_] at *; omega
theorem Ahd : ∀ (l : List Ah) (n : Int),0 <= M8 l n -> Int.ofNat (By l) = n - M8 l n
 | [],n,h => by unfold M8 By; simp
 | t :: r,n,h => by
  unfold M8 at h ⊢;unfold By
  split at h
  ·rename_i h0
   rw [if_pos h0];have h2 := Ahd r (Lz t n) h
   have h3 : 0 <= Lz t n := by
    by_cases hh : 0 <= Lz t n
    ·exact hh
    ·rw [Age Om] at h; omega
   have h1 := Ald t n h3;simp only [ai_] at *; omega
  ·omega
end
theorem Api {t : Ah} {n : Nat} (h : Aja t (Int.ofNat n) = true) : Av t <= n := by
 have h1 : 0 <= Lz t (Int.ofNat n) := by simpa [Aja] using h
 have h2 := Ald t _ h1;simp only [ai_] at *; omega
mutual
theorem Aaf : ∀ (t : Ah),Av t <= 1000000000 -> Tf t = true
 | .node _ ks,h => by
  unfold Av at h;unfold Tf;have h1 := Ed ks;have h2 := Adf ks Om;simp only [af_,h2,and_true]
  simp; omega
theorem Adf : ∀ (l : List Ah),By l <= 1000000000 -> Rg l = true
 | [],_ => by unfold Rg; rfl
 | t :: r,h => by
  unfold By at h;unfold Rg;rw [Aaf t Om,Adf r Om]; rfl
end
theorem f59n (l : Str) (ks : List Ah) (lv : Nat) (U : Sto) (hl : lv + Av (.node l ks) <= 20000) (hc : Av (.node l ks) <= 4000) (ih : ∀ k ∈ ks,Cv 59 [Ap k,iV (.ofNat (lv + 1))] U (.tup [iV (.ofNat (Av k)),iV (.ofNat (dpT k (lv + 1)))])) : Cv 59 [Ap (.node l ks),iV (.ofNat lv)] U (.tup [iV (.ofNat (Av (.node l ks))),iV (.ofNat (dpT (.node l ks) lv))]) := by
 have hcn : 1 + By ks <= 4000 := by unfold Av at hc; exact hc
 have hln : lv + (1 + By ks) <= 20000 := by unfold Av at hl; exact hl
 have hbk := Ed ks;simp only [Ep];refine An Tryz.func59 rfl rfl fun hw hu0 => ?_
 iterate 21 refine G ?_
 refine Bq ks.length (fun i0 => [(1,iV (.ofNat lv)),(4,iV (.ofNat (1 + By (ks.take i0)))),(5,iV (.ofNat (dpL (ks.take i0) (lv + 1) lv))),(12,slV eT 2 ks),(13,iV (.ofNat ks.length)),(14,iV (.ofNat i0))]) (fun i0 U0 => U0 = U) ⟨rfl,congrArg (fun x => some (iV x)) (show Int.ofNat 1 = Int.ofNat (1 + By (ks.take 0)) by simp [By]),congrArg (fun x => some (iV x)) (show Int.ofNat lv = Int.ofNat (dpL (ks.take 0) (lv + 1) lv) by simp [dpL]),rfl,rfl,rfl,trivial⟩ rfl ?_
 rintro i0 U0 hi0 rfl;refine G5 ?_;refine Ab rfl ?_ ?_ <;> intro h1
 ·have bc : i0 < ks.length := by simpa using h1
  obtain ⟨a0,ha0⟩ := A6 bc;have hd0 := Ay ha0;have hct := Ade ha0;refine G5 ?_;refine O1 (Ax elC eT_len rfl rfl ha0) (O1 (Ad ldC rfl rfl (Ba (eT_len a0) _)) (Dh ziC ldC rfl (fun _ => rfl) rfl (A1 (eT_len a0)) rfl rfl ?_))
  refine G7 ?_;refine Ab rfl ?_ ?_ <;> intro h2
  ·exact absurd h2 (by simp only [ai_,decide_eq_true_eq]; omega)
  ·have hd1 := L3 a0 (lv + 1)
   have e4 : Int.ofNat (1 + By (ks.take i0) + Av a0) = Int.ofNat (1 + By (ks.take (i0 + 1))) := by rw [B7 ha0,Mg]; simp only [By,ai_]; omega
   have e5 : max (Int.ofNat (dpL (ks.take i0) (lv + 1) lv)) (Int.ofNat (dpT a0 (lv + 1))) = Int.ofNat (dpL (ks.take (i0 + 1)) (lv + 1) lv) := by rw [B7 ha0,Ae1]; simp only [dpL,ai_]; omega
   refine G6 ?_;refine Ag rfl rfl rfl rfl (ih a0 (ae_ ha0)) ?_;refine G9 ?_;refine O1 (Dg okC rfl rfl Om) ?_;refine G2 ?_;refine O1 (Aiv okC rfl rfl) ?_;refine G7 ?_;refine ⟨bc,⟨rfl,congrArg (fun x => some (iV x)) e4,congrArg (fun x => some (iV x)) e5,rfl,rfl,rfl,trivial⟩,rfl⟩
 ·have bk : ks.length <= i0 := by simpa using h1
  refine G9 ?_;refine Bb hw rfl ?_;unfold Av dpT; rw [av_ bk]; rfl
theorem f59 (t : Ah) (U : Sto) : ∀ (lv : Nat),lv + Av t <= 20000 -> Av t <= 4000 -> Cv 59 [Ap t,iV (.ofNat lv)] U (.tup [iV (.ofNat (Av t)),iV (.ofNat (dpT t lv))]) := by
 refine Ah.ind' (P := fun t => ∀ (lv : Nat),lv + Av t <= 20000 -> Av t <= 4000 -> Cv 59 [Ap t,iV (.ofNat lv)] U (.tup [iV (.ofNat (Av t)),iV (.ofNat (dpT t lv))])) ?_ t
 intro l ks ih lv h1 h2;refine f59n l ks lv U h1 h2 fun k hk => ih k hk (lv + 1) ?_ ?_
 ·have := F9 hk; unfold Av at h1; omega
 ·have := F9 hk; unfold Av at h2; omega
theorem f102 (t : Ah) (U : Sto) (hc : Av t <= 4000) (hd : dpT t 1 <= 100) : Cv 102 [Ap t] U (.tup []) := by
 refine An Tryz.func102 rfl rfl fun hw hu0 => ?_
 refine G7 ?_;refine Ag rfl rfl rfl rfl (f59 t _ 1 Om hc) ?_;refine G12 ?_;refine Ab rfl ?_ ?_ <;> intro h1
 ·exact absurd h1 (by simp only [ai_,decide_eq_true_eq]; omega)
 ·skip
  refine G6 ?_;refine Ab rfl ?_ ?_ <;> intro h2
  ·exact absurd h2 (by simp only [ai_,decide_eq_true_eq]; omega)
  ·skip
   refine G ?_;refine Bb hw rfl ?_;exact rfl
theorem Ae2 (t : Ah) : ∃ la ka,eT t = [sV la,slV eT 2 ka] := by obtain ⟨l,k⟩ := t; exact ⟨l,k,Cc l k⟩
def zT : List AV := [.str [],.nil (.slice none 0 0)]
theorem f56n (l : Str) (ks : List Ah) (U : Sto) (hb : ks.length <= 1000000) (ih : ∀ k ∈ ks,∀ τ,Cv 56 [Ap k] τ (Ap k)) : Cv 56 [Ap (.node l ks)] U (Ap (.node l ks)) := by
 rw [Ep];refine An Tryz.func56 rfl rfl fun hw hu0 => ?_
 refine G3 ?_;refine O1 (Ct ziC) ?_;refine G6 ?_
 refine O1 (Cn (n := nx U + 1) ziC (Af _ _)) (O1 (Aw (ad := nx U + 1) (off := 0) (vs := zT) (vs' := [sV l,.nil (.slice none 0 0)]) (cs := [sV l,.nil (.slice none 0 0)]) ldC rfl rfl rfl (by simp only [Sto.cells]; rw [ab_,if_pos (by rw [Af])]; rfl) rfl) ?_)
 refine G10 ?_
 refine Bq ks.length (fun i0 => [(2,.pr (nx U) 0),(3,.pr (nx U + 1) 0),(10,slV eT 2 ks),(11,iV (.ofNat ks.length)),(12,iV (.ofNat i0))]) (fun i0 U0 => ∃ vp,U0.get (nx U + 1) = some (.cells [sV l,vp]) /\ Own U0 (nx U + 2) eT 2 (ks.take i0) vp /\ U0.get (nx U) = some (.cells zT) /\ (∀ b,b < nx U -> U0.get b = U.get b) /\ nx U + 2 <= nx U0) SL ⟨.nil (.slice none 0 0),by rw [a_,if_pos rfl],.nil,by rw [a_,if_neg Om,ab_,if_neg (by rw [Af]; omega),ab_,if_pos rfl]; rfl,fun b hb => by rw [a_,if_neg Om,ab_,if_neg (by rw [Af]; omega),ab_,if_neg Om],by rw [Ac,Af,Af]; exact nl⟩ ?_
 rintro i0 U0 hi0 ⟨vp,h8,bp,h20,hg0,hn0⟩;refine G5 ?_;refine Ab rfl ?_ ?_ <;> intro h1
 ·have bc : i0 < ks.length := by simpa using h1
  obtain ⟨a0,ha0⟩ := A6 bc;have hd0 := Ay ha0;obtain ⟨la,ka,he⟩ := Ae2 a0
  have bz : ((ks.take i0).length + [a0].length) * (40 + 1) <= sizeLim := by rw [bn_]; simp [sizeLim]; omega
  obtain ⟨v1,τ1,hap,ho1,hb1,_⟩ := ea_ (by' := 40) (enc := eT) (sz := 2) eT_len hn0 bp [a0] bz
  have hap : Bm U0 2 40 vp 1 (eT a0) = some (v1,τ1) := by simpa using hap
  have h8t : τ1.get (nx U + 1) = some (.cells [sV l,vp]) := (hb1.2 _ Om).trans h8;refine G5 ?_;refine O1 (Ax elC eT_len rfl rfl ha0) (O1 (Ad ldC rfl rfl (Ba (eT_len a0) _)) (Dh ziC ldC rfl (fun _ => rfl) rfl (A1 (eT_len a0)) rfl rfl ?_))
  refine G ?_
  refine XX 1 (l := [(56,[.agg (eT a0)],U0,.agg [sV la,slV eT 2 ka],U0)]) ⟨by rw [← he]; exact ih a0 (ae_ ha0) U0,trivial⟩ ?_
  refine G ?_
  refine DF (Ad (u := .pr (nx U + 1) 1) (cs := [vp]) ldC rfl (by simp only [Bk,Sto.cells,h8]; rfl) rfl) ?_
  refine G2 ?_
  refine DF (As elC byW rfl rfl rfl) (DT (A3 elC rfl slC rfl rfl rfl (new := eT a0) (by rw [he]; rfl) hap) ?_)
  refine G ?_
  refine DT (Aw (ad := nx U + 1) (off := 1) (vs := [sV l,vp]) (vs' := [sV l,v1]) (cs := [v1]) ldC rfl rfl (K9 ho1) (by simp only [Sto.cells,h8t]) rfl) ?_
  refine G ?_
  refine ⟨(by intro e he; simp at he; rcases he with rfl | rfl <;> exact .refl),?_⟩
  refine G4 ?_
  refine ⟨bc,SL,v1,by rw [a_,if_pos rfl],by rw [B7 ha0]; exact ho1.mono (by rw [Ac]; exact nl) fun a tl _ h11 h12 _ => by rw [a_,if_neg Om],by rw [a_,if_neg Om,hb1.2 _ Om]; exact h20,fun b hb => by rw [a_,if_neg Om,hb1.2 b Om]; exact hg0 b hb,by rw [Ac]; exact ax_ hn0 hb1.1⟩
 ·have bk : ks.length <= i0 := by simpa using h1
  refine G3 ?_
  refine O1 (Ad (u := .pr (nx U + 1) 0) (cs := [sV l,vp]) ldC rfl (by simp only [Bk,Sto.cells,h8]; rfl) rfl) ?_
  refine O1 (Aw (ad := nx U) (off := 0) (vs := zT) (vs' := [sV l,vp]) (cs := [sV l,vp]) ldC rfl rfl rfl (by simp only [Sto.cells,h20]) rfl) ?_
  refine G2 ?_;rw [av_ bk] at bp
  exact ⟨[.agg [sV l,vp]],Bj (ldC (t := 28)) rfl (by simp only [Sto.cells]; rw [a_,if_pos rfl]) rfl rfl,_,U,as_ hw ⟨by rw [Ac]; omega,fun b hb => by rw [a_,if_neg Om]; exact hg0 b hb⟩,nl,.agg (.cons (.same rfl) (.cons ((bp.mono (by rw [Ac]; exact nl) (fun a tl _ h11 h12 _ => by rw [a_,if_neg Om])).fz eT_len (fun a ha => hw.none Om) (Bi Gh _)) .nil)),rfl,rfl⟩
theorem f56 (t : Ah) : ∀ (U : Sto),Av t <= 1000000 -> Cv 56 [Ap t] U (Ap t) := by
 refine Ah.ind' (P := fun t => ∀ (U : Sto),Av t <= 1000000 -> Cv 56 [Ap t] U (Ap t)) ?_ t
 intro l ks ih U hc;unfold Av at hc;have := Ed ks
 exact f56n l ks U Om fun k hk τ => ih k hk τ (by have := F9 hk; omega)
end Go.AM
namespace Go.Proofs
open Go.Shelf
def Tryz.laysM171_ren : Go.Shelf.Ren := ⟨fun | 171 => 145 | 243 => 163 | 246 => 197 | 283 => 230 | 284 => 231 | 285 => 232 | 286 => 233 | 129 => 255 | 317 => 256 | 318 => 257 | 319 => 258 | 320 => 259 | 337 => 277 | 338 => 278 | n => n,fun | 3 => 3 | 9 => 9 | 2 => 2 | 4 => 4 | 171 => 324 | 0 => 0 | 53 => 289 | 37 => 253 | 5 => 5 | 173 => 327 | 212 => 354 | 51 => 352 | 20 => 20 | 213 => 355 | 46 => 292 | 232 => 382 | 233 => 383 | n => n,fun | 17 => 3 | 18 => 5 | 19 => 6 | n => n⟩
theorem Tryz.laysM171 : Go.Proofs.LaysM.n171 Tryz.prog Tryz.laysM171_ren := by repeat' first | kernel_rfl | (intro w; kernel_rfl) | constructor
open Go.RowKit Go.Sort Go.Lib in
theorem Tryz.strconv_Itoa (n : Int) (h0 : -9223372036854775808 <= n) (h1 : n <= 9223372036854775807) (w : World) (pi : Lib.TabIs Tryz.prog w "internal/strconv.uint64pow10" .u64 Lib.pow10Tab) :
  Calls Tryz.prog 145 #[.int .i64 n] w fun e w' => e = .returned (.string ⟨(Lib.itoa n).toArray⟩) /\ ∃ k os,w' = grow (w.drewN k) os := Any.strconv_Itoa Tryz.laysM171 n h0 h1 w pi
def Tryz.laysC172_ren : Go.Shelf.Ren := ⟨fun | 172 => 113 | 244 => 143 | 245 => 144 | 247 => 158 | 279 => 159 | 280 => 160 | 281 => 161 | 282 => 162 | 287 => 194 | 316 => 195 | 171 => 145 | 205 => 196 | 321 => 228 | 322 => 229 | 243 => 163 | 246 => 197 | 283 => 230 | 284 => 231 | 285 => 232 | 286 => 233 | 129 => 255 | 317 => 256 | 318 => 257 | 319 => 258 | 320 => 259 | 337 => 277 | 338 => 278 | n => n,fun | 9 => 9 | 3 => 3 | 75 => 202 | 76 => 203 | 4 => 4 | 5 => 5 | 167 => 252 | 37 => 253 | 0 => 0 | 85 => 254 | 2 => 2 | 168 => 256 | 53 => 289 | 175 => 290 | 46 => 292 | 210 => 294 | 127 => 320 | 145 => 323 | 143 => 321 | 21 => 21 | 171 => 324 | 173 => 327 | 212 => 354 | 51 => 352 | 20 => 20 | 213 => 355 | 232 => 382 | 233 => 383 | 80 => 390 | n => n,fun | 15 => 1 | 16 => 2 | 17 => 3 | 18 => 5 | 19 => 6 | n => n⟩
theorem Tryz.laysC172 : Go.Proofs.LaysC.n172 Tryz.prog Tryz.laysC172_ren := by repeat' first | kernel_rfl | (intro w; kernel_rfl) | constructor
open Go.RowKit in
theorem Tryz.strconv_Atoi_ok (s : ByteArray) (po : s.size <= 9223372036854775806) (v : Int) (h : Lib.atoiAll s.data.toList = .ok v) (w : World) :
  Calls Tryz.prog 113 #[.string s] w fun e w' => e = .returned (.tuple #[.int .i64 v,.nilIface]) /\ (w' = w ∨ ∃ t,w' = Lib.bytesWorld w 5 t) := Any.strconv_Atoi_ok Tryz.laysC172 s po v h w
def Tryz.lays149_ren : Go.Shelf.Ren := ⟨fun | 149 => 112 | 222 => 142 | n => n,fun | 9 => 9 | 5 => 5 | 3 => 3 | 4 => 4 | n => n,fun | n => n⟩
theorem Tryz.lays149 : Go.Proofs.Lays.n149 Tryz.prog Tryz.lays149_ren := by repeat' first | kernel_rfl | (intro w; kernel_rfl) | constructor
open Go.RowKit Go.Lib in
theorem Tryz.strings_LastIndexByte (s : ByteArray) (c : Int) (hs : s.size < 4611686018427387904) (w : World) :
  Calls Tryz.prog 112 #[.string s,.int .u8 c] w fun e w' => e = .returned (.int .i64 (Lib.lastIndexByte s c)) /\ w' = w := Any.strings_LastIndexByte Tryz.lays149 s c hs w
end Go.Proofs
namespace Go.AM
open Go Go.Proofs
theorem Vo {f : Nat} {args : List AV} {U : Sto} {v : AV} (he : Q3 Ew.P f) (h : ∀ C w (vs : Array Value),Gc C (nx U) w Ew -> RL C (nx U) w args vs.toList -> Calls Ew.P f vs w (fun e w' => ∃ x,e = .returned x /\ Go.RowKit.Below w.heap.size w w' /\ R C (nx U) w' v x)) : Ao Ew f args U fun u τ => u = v /\ τ = U := by
 intro C w vs hs hg ha;refine ⟨he,(h C w vs hg ha).mono fun e w' hq => ?_⟩
 obtain ⟨x,rfl,hb,hx⟩ := hq;obtain ⟨k1,k2⟩ := hs.same hb.size hb.block ⟨hb.os,hb.output⟩;exact ⟨v,U,C,⟨rfl,rfl⟩,k1,k2,hx⟩
theorem Apj : Tryz.prog.globalNamed "strconv.ErrSyntax" = some 1 := Kr
theorem Apk : Tryz.prog.globalNamed "strconv.ErrRange" = some 2 := Kr
theorem Apl : Tryz.prog.globalNamed "internal/strconv.uint64pow10" = some 3 := Kr
section
variable {C : Ctx} {N : Nat} {w : World}
theorem Ajk (hg : Gc C N w Ew) {c : Nat} {P : Array Value -> Prop} {nm : String} (hn : Tryz.prog.globalNamed nm = some c) (hh : Zc c = some P) : ∃ cs,w.var? Tryz.prog nm = some cs /\ P cs := by
 obtain ⟨_,cs,T,fz,h2,h3⟩ := hg.2 c P hh
 exact ⟨cs,by unfold World.var?; rw [hn]; simp [h2],h3⟩
theorem R_i64 {n : Int} {x : Value} (h : R C N w (iV n) x) : x = .int .i64 n := by unfold iV R at h; exact h
theorem Apm {a : AV} {vs : Array Value} (h : RL C N w [a] vs.toList) : ∃ x,vs = #[x] /\ R C N w a x := by
 obtain ⟨l⟩ := vs
 match l,h with
 | [],h => unfold RL at h; exact h.elim
 | [x],h => unfold RL at h; exact ⟨x,rfl,h.1⟩
 | _ :: _ :: _,h => unfold RL at h; have := h.2; unfold RL at this; exact this.elim
end
def B4 (s : Str) : Int := Lib.lastIndexByte ⟨⟨s⟩⟩ 46
theorem Kf (s : Str) : B4 s = -1 ∨ ∃ i : Nat,i < s.length /\ B4 s = Int.ofNat i := by
 have h := Lib.lastIdx_spec (⟨⟨s⟩⟩ : ByteArray) 46 (⟨⟨s⟩⟩ : ByteArray).size
 rcases h with ⟨h,_⟩ | ⟨i,h1,h2,_⟩
 ·exact .inl h
 ·exact .inr ⟨i,h1,h2⟩
theorem f112 (s : Str) (U : Sto) (hb : s.length < 4611686018427387904) : Cv 112 [sV s,.int .u8 46] U (iV (B4 s)) := by
 refine Rm ⟨_,Tryz.func112,rfl,rfl⟩ fun C w vs ha => ?_
 obtain ⟨x,y,rfl,hx,hy⟩ := Ajb ha;obtain ⟨a,rfl,rfl⟩ := Agu hx
 have hy : y = .int .u8 46 := by unfold R at hy; exact hy
 subst hy
 exact ⟨_,Tryz.strings_LastIndexByte a 46 (by simpa using hb) w,by unfold iV R; rfl⟩
def Qo (t : Str) : Int := match Lib.atoiAll t with | .ok v => v | .range => Lib.atoiSat t | _ => 0
def Qp (t : Str) : Bool := match Lib.atoiAll t with | .ok _ => true | _ => false
def Am5 (ok : Bool) : AV := match ok with | true => .nil .nilIface | false => .ifc 256 .any
theorem f113 (t : Str) (U : Sto) (hb : t.length <= 281474976710656) : Cv 113 [sV t] U (.tup [iV (Qo t),Am5 (Qp t)]) := by
 refine Vo ⟨_,Tryz.func113,rfl,rfl⟩ fun C w vs hg ha => ?_
 obtain ⟨x,rfl,hx⟩ := Apm ha;obtain ⟨a,rfl,rfl⟩ := Agu hx
 have hsz : a.size <= 281474976710656 := by simpa using hb
 rcases hA : Lib.atoiAll a.data.toList with v | _ | _
 ·refine (Tryz.strconv_Atoi_ok a Om v hA w).mono fun e w' hh => ?_
  obtain ⟨h1,h2⟩ := hh;refine ⟨_,h1,?_,?_⟩
  ·rcases h2 with rfl | ⟨x,rfl⟩
   ·exact Go.RowKit.Below.refl _ _
   ·exact Lib.bytesWorld_below _ _ _
  ·rw [show Qo a.data.toList = v by unfold Qo; rw [hA],show Qp a.data.toList = true by unfold Qp; rw [hA]]
   unfold R
   exact ⟨_,rfl,by unfold RL; exact ⟨by unfold iV R; rfl,by unfold RL; exact ⟨by unfold Am5 R; exact ⟨rfl,rfl⟩,by unfold RL; trivial⟩⟩⟩
 ·obtain ⟨cs,hv,tp,p,rfl⟩ := Ajk hg Apj rfl;refine (Any.strconv_Atoi_syntax_var Tryz.laysC172 a hsz hA tp p w hv).mono fun e w' hh => ?_
  obtain ⟨M,h1,_,_,h2⟩ := hh;refine ⟨_,h1,h2,?_⟩
  rw [show Qo a.data.toList = 0 by unfold Qo; rw [hA],show Qp a.data.toList = false by unfold Qp; rw [hA]]
  unfold R
  exact ⟨_,rfl,by unfold RL; exact ⟨by unfold iV R; rfl,by unfold RL; exact ⟨by unfold Am5 R; exact ⟨_,rfl,by unfold R; trivial⟩,by unfold RL; trivial⟩⟩⟩
 ·obtain ⟨cs,hv,tp,p,rfl⟩ := Ajk hg Apk rfl;refine (Any.strconv_Atoi_range_var Tryz.laysC172 a hsz hA tp p w hv).mono fun e w' hh => ?_
  obtain ⟨M,h1,_,_,h2⟩ := hh;refine ⟨_,h1,h2,?_⟩
  rw [show Qo a.data.toList = Lib.atoiSat a.data.toList by unfold Qo; rw [hA],show Qp a.data.toList = false by unfold Qp; rw [hA]]
  unfold R
  exact ⟨_,rfl,by unfold RL; exact ⟨by unfold iV R; rfl,by unfold RL; exact ⟨by unfold Am5 R; exact ⟨_,rfl,by unfold R; trivial⟩,by unfold RL; trivial⟩⟩⟩
theorem f145 (n : Int) (U : Sto) (h0 : -9223372036854775808 <= n) (h1 : n <= 9223372036854775807) : Cv 145 [iV n] U (sV (Lib.itoa n)) := by
 refine Vo ⟨_,Tryz.func145,rfl,rfl⟩ fun C w vs hg ha => ?_
 obtain ⟨x,rfl,hx⟩ := Apm ha;have := R_i64 hx;subst this;obtain ⟨cs,hv,hp⟩ := Ajk hg Apl rfl
 refine (Tryz.strconv_Itoa n h0 h1 w (by unfold Lib.TabIs; rw [hv,hp]; rfl)).mono fun e w' hh => ?_
 obtain ⟨e1,k,os,e2⟩ := hh
 exact ⟨_,e1,e2 ▸ Lib.below_grow _ w nl k os,by unfold sV R; exact ⟨_,rfl,by simp [Bx]⟩⟩
theorem P7 (m : Nat) (h : m < 10) : Lib.decDigits m = [UInt8.ofNat (48 + m)] := by rw [Lib.decDigits]; simp [h]
theorem Ahe (m : Nat) (h : 9 < m) : Lib.decDigits m = Lib.decDigits (m / 10) ++ [UInt8.ofNat (48 + m % 10)] := by rw [Lib.decDigits]; rw [dif_neg Om]
theorem Ale : ∀ (k n : Nat),n < 10 ^ k -> 0 < k -> (Lib.decDigits n).length <= k
 | 0,n,_,h => absurd h Om
 | 1,n,h,_ => by rw [P7 n Om]; simp
 | k + 2,n,h,_ => by
  by_cases h9 : 9 < n
  ·rw [Ahe n h9,ao_]
   have := Ale (k + 1) (n / 10) (by rw [Nat.pow_succ] at h; omega) Om
   simp; omega
  ·rw [P7 n Om]; simp
theorem Apn (n : Int) (h0 : 0 <= n) (h1 : n <= 1000000000) : (Lib.itoa n).length <= 20 := by
 unfold Lib.itoa;rw [if_neg Om]
 exact Ale 20 _ (dd_ (show n.toNat <= 1000000000 by omega) (by decide)) Om
def Vp (sort : Str) (n : Int) : Int := if sort = [] then 2 else if n < 0 ∨ 1000000000 < n then 3 else 0
def Aag (sort : Str) (n : Int) : Str := if Vp sort n = 0 then [38] ++ sort ++ [46] ++ Lib.itoa n else []
section
variable {E : Env} {J : Ae} {U : Sto} {Rr : Rec}
theorem Alf {t : Nat} {x : Operand} {lo hi : Option Operand} {s : Str} {lv hv : Option AV} {a b : Nat} {c : Option Nat} (h9 : Dy E.P t = true) (hx : Ak E J x = some (sV s)) (h1 : Gp E J lo = some lv) (h2 : Gp E J hi = some hv)
  (hb : Ci s.length (some s.length) lv hv none = some (a,b,c)) : A0 E Rr (.slice t x lo hi none) J U (sV ((s.take b).drop a)) U := fun tm h => by
 unfold Dy at h9
 split at h9
 ·rename_i ti hti
  split at h9
  ·rename_i hd
   have hl : (s.map UInt8.toNat).length = s.length := bs_ ..;simp only [opA,Az,hti,hd,h.opd hx,h.opdO h1,h.opdO h2,sV,Kh,hl,hb,List.map_drop,List.map_take]
  ·cases h9
 ·cases h9
theorem Ahf {t a : Nat} {x y : Operand} {s : Str} (h9 : Dy E.P t = true) (hx : Ak E J x = some (sV s)) (h1 : Ak E J y = some (iV (.ofNat a))) (ha : a <= s.length) : A0 E Rr (.slice t x (some y) none none) J U (sV (s.drop a)) U := by
 have hb : Ci s.length (some s.length) (some (iV (.ofNat a))) none none = some (a,s.length,some (s.length - a)) := by
  have h3 : Nat.ble a s.length = true := ap_ ha;have h4 : Nat.ble s.length s.length = true := ap_ nl;simp only [Ci,iV,Ik,h3,h4,Lf,cond_true,cl_,Il]
 have := Alf (Rr := Rr) (U := U) (lo := some y) (hi := none) h9 hx (show Gp E J (some y) = some (some (iV (.ofNat a))) by simp only [Gp,h1]) rfl hb
 rwa [ep_] at this
theorem Ae3 {t a b : Nat} {x y z : Operand} {s : Str} (h9 : Dy E.P t = true) (hx : Ak E J x = some (sV s)) (h1 : Ak E J y = some (iV (.ofNat a))) (h2 : Ak E J z = some (iV (.ofNat b))) (ha : a <= b) (hbl : b <= s.length) : A0 E Rr (.slice t x (some y) (some z) none) J U (sV ((s.take b).drop a)) U := by
 have hb : Ci s.length (some s.length) (some (iV (.ofNat a))) (some (iV (.ofNat b))) none = some (a,b,some (s.length - a)) := by
  have h3 : Nat.ble a b = true := ap_ ha;have h4 : Nat.ble b s.length = true := ap_ hbl;simp only [Ci,iV,Ik,h3,h4,Lf,cond_true,cl_,Il]
 exact Alf (Rr := Rr) (U := U) (lo := some y) (hi := some z) h9 hx (show Gp E J (some y) = some (some (iV (.ofNat a))) by simp only [Gp,h1]) (show Gp E J (some z) = some (some (iV (.ofNat b))) by simp only [Gp,h2]) hb
def Ajl (P : Program) (t : Nat) : Bool := match A4 P t with | some ti => (match ti.desc with | .interface _ => true | _ => false) | none => false
theorem Apo {t : Nat} {x y : Operand} {ty : Nat} {ok : Bool} (hi : Ajl E.P t = true) (hx : Ak E J x = some (Am5 ok)) (hy : Ak E J y = some (.nil .nilIface)) (hc : Dk y = true) : A0 E Rr (.binOp .neq t x y ty) J U (.bool (!ok)) U := fun tm h => by
 unfold Ajl at hi
 split at hi
 ·rename_i ti hti
  split at hi
  ·rename_i hd
   cases ok <;> simp only [opA,Az,h.opd hx,h.opd hy,hc,Am5,Aba,hti,Lg,g_,cond_true,Ajy,Xj,Qr,hd,Vy,Bool.or_self,ek_,g_,cond_false,Bool.not_true,gd_]
  ·cases hi
 ·cases hi
end
theorem if202 : Ajl Ew.P 202 = true := Kr
theorem f114 (s : Str) (n : Int) (U : Sto) (hb : s.length < 4611686018427387904) : Cv 114 [sV s,iV n] U (.tup [sV (Aag s n),iV (Vp s n)]) := by
 refine An Tryz.func114 rfl rfl fun hw hu0 => ?_
 iterate 13 refine G ?_
 refine Ab rfl ?_ ?_ <;> intro h1
 ·refine G6 ?_;refine Bb hw rfl ?_
  have hs : s = [] := by simpa using h1
  have hB : Vp s n = 2 := if_pos hs
  unfold Aag; rw [hB,if_neg (by decide)]; rfl
 ·have hs : ¬ s = [] := by simpa using h1
  refine G5 ?_;refine TOr 2 ?_ (fun hg => ?_) ?_
  rotate_left
  ·iterate 2 refine Gn hg ?_
   exact Ez
  refine G2 ?_;refine Ab rfl ?_ ?_ <;> intro h2
  ·refine G6 ?_;refine Bb hw rfl ?_
   have hn : n < 0 ∨ 1000000000 < n := by simpa using h2
   have hB : Vp s n = 3 := (if_neg hs).trans (if_pos hn)
   unfold Aag; rw [hB,if_neg (by decide)]; rfl
  ·have hn : ¬ (n < 0 ∨ 1000000000 < n) := by
    intro hh
    have := of_decide_eq_true (p := n < 0 ∨ 1000000000 < n) (by simpa using hh)
    simp only [bt_,decide_eq_false_iff_not] at h2
    rcases this with h | h
    ·exact h2.1 h
    ·exact h2.2 h
   have hil := Apn n Om Om;refine G4 ?_
   refine O1 (Ael (a := [38]) (b := s) okC rfl rfl (by simp [Nv]; omega)) ?_
   refine O1 (Ael (a := [38] ++ s) (b := [46]) okC rfl rfl (by simp [Nv]; omega)) ?_
   refine G ?_;refine Ag rfl rfl rfl rfl (f145 n _ Om Om) ?_
   refine O1 (Ael (a := [38] ++ s ++ [46]) (b := Lib.itoa n) okC rfl rfl (by simp [Nv]; omega)) ?_
   refine G4 ?_;refine Bb hw rfl ?_;have hB : Vp s n = 0 := (if_neg hs).trans (if_neg hn);unfold Aag; rw [hB,if_pos rfl]; rfl
def wkN (s : Str) (at' : Nat) : Int := Qo (s.drop (at' + 1))
def wkS (s : Str) (at' : Nat) : Str := (s.take at').drop 1
def Kg (s : Str) : Option (Str × Int) :=
 if (decide (B4 s < 2) || !decide (Int.ofNat (s.headD 0).toNat = 38)) = true then none
 else if ((!Qp (s.drop ((B4 s).toNat + 1)) || !decide (Vp (wkS s (B4 s).toNat) (wkN s (B4 s).toNat) = 0)) || !decide (Aag (wkS s (B4 s).toNat) (wkN s (B4 s).toNat) = s)) = true then none
 else some (wkS s (B4 s).toNat,wkN s (B4 s).toNat)
def wkV (o : Option (Str × Int)) : AV := match o with | none => .tup [sV [],iV 0,.bool false] | some p => .tup [sV p.1,iV p.2,.bool true]
theorem f75 (s : Str) (U : Sto) (hb : s.length <= 281474976710656) : Cv 75 [sV s] U (wkV (Kg s)) := by
 have hd0 : decide (B4 s < 2) = false -> s[0]? = some (s.headD 0) := by
  intro hh
  rcases Kf s with h | ⟨i,hi,h⟩
  ·rw [h] at hh; cases hh
  ·cases s with
   | nil => simp at hi
   | cons c r => rfl
 refine An Tryz.func75 rfl rfl fun hw hu0 => ?_
 refine G9 ?_;refine Ag rfl rfl rfl rfl (f112 s _ Om) ?_;refine G8 ?_;refine TOr 3 ?_ (fun hg => ?_) ?_
 rotate_left
 ·refine Gn hg ?_;refine On hg (Lm st9 rfl rfl (hd0 hg) (i := 0)) ?_;refine Gn hg ?_;exact Ez
 refine G ?_;refine Ab rfl ?_ ?_ <;> intro h1
 ·refine G7 ?_;refine Bb hw rfl ?_;rw [show Kg s = none from if_pos h1]; rfl
 ·obtain ⟨i,hi,hli⟩ : ∃ i : Nat,i < s.length /\ B4 s = Int.ofNat i := by
   rcases Kf s with h | h
   ·rw [h] at h1; cases h1
   ·exact h
  have h2i : 2 <= i := by
   rw [hli] at h1;simp only [bt_,decide_eq_false_iff_not,ai_] at h1;omega
  have hN : (B4 s).toNat = i := by rw [hli]; rfl
  have h1' := h1;rw [hli];refine G6 ?_;refine O1 (Ahf (a := i + 1) st9 rfl rfl Om) ?_
  refine Ag rfl rfl rfl rfl (f113 (s.drop (i + 1)) _ (by rw [cu_]; omega)) ?_
  refine G11 ?_;refine O1 (Ae3 (a := 1) (b := i) st9 rfl rfl rfl Om Om) ?_;refine G ?_
  refine Ag rfl rfl rfl rfl (f114 ((s.take i).drop 1) (Qo (s.drop (i + 1))) _ (by simp; omega)) ?_
  refine G9 ?_;refine O1 (Apo if202 rfl rfl rfl) ?_;refine G ?_;refine TOr 2 ?_ (fun hg => ?_) ?_
  rotate_left
  ·iterate 2 refine Gn hg ?_
   exact Ez
  refine G ?_;refine TOr 3 ?_ (fun hg => ?_) ?_
  rotate_left
  ·iterate 2 refine Gn hg ?_
   refine On hg (Ey okC rfl rfl) ?_;exact Ez
  refine G ?_;refine Ab rfl ?_ ?_ <;> intro h2
  ·refine G7 ?_;refine Bb hw rfl ?_
   rw [show Kg s = none by unfold Kg; rw [if_neg (fun hc => Bool.noConfusion (h1'.symm.trans hc)),hN]; exact if_pos h2]; rfl
  ·refine G5 ?_;refine O1 (Ae3 (a := 1) (b := i) st9 rfl rfl rfl Om Om) ?_;refine G6 ?_;refine Bb hw rfl ?_
   rw [show Kg s = some (wkS s i,wkN s i) by unfold Kg; rw [if_neg (fun hc => Bool.noConfusion (h1'.symm.trans hc)),hN]; exact if_neg (fun hc => Bool.noConfusion (h2.symm.trans hc))]; rfl
def rV (r : Rl) : AV := .agg (eR r)
def Um (l : List Rl) (m : SM Rl) : SM Rl := l.foldl (fun m r => m.put r.label r) m
def L4 (g : Gr) (r : Nat) : List AV := [Aq g.sorts,slV eR 4 g.rules,.mp r]
def Fs (g : Gr) (r : Nat) : AV := .agg (L4 g r)
theorem Am6 {J : Ae} {U : Sto} {Rr : Rec} {t r sz : Nat} {x y : Operand} {agg : Bool} {z : AV} {α : Type} {enc : α -> AV} {m : SM α} {s : Str} {v : α} (h9 : Dy Ew.P 9 = true) (hi : mpI Ew.P t = some (9,z,sz,agg)) (hx : Ak Ew J x = some (.mp r)) (hm : Bf enc U r m) (hy : Ak Ew J y = some (sV s)) (hg : m.get s = some v) :
  A0 Ew Rr (.lookup t x y true) J U (.tup [enc v,.bool true]) U := by
 have := Px (Rr := Rr) h9 hi hx hm hy
 rwa [hg] at this
theorem Am7 {J : Ae} {U : Sto} {Rr : Rec} {t r sz : Nat} {x y : Operand} {agg : Bool} {z : AV} {α : Type} {enc : α -> AV} {m : SM α} {s : Str} (h9 : Dy Ew.P 9 = true) (hi : mpI Ew.P t = some (9,z,sz,agg)) (hx : Ak Ew J x = some (.mp r)) (hm : Bf enc U r m) (hy : Ak Ew J y = some (sV s)) (hg : m.get s = none) :
  A0 Ew Rr (.lookup t x y true) J U (.tup [z,.bool false]) U := by
 have := Px (Rr := Rr) h9 hi hx hm hy
 rwa [hg] at this
theorem Alg {N : Nat} (g : Gr) {r : Nat} (h : r < N) : AV.und N (Fs g r) = true := by
 have hr : AV.und N (.mp r) = true := by unfold AV.und; exact Ce h
 show (AV.und N (Aq g.sorts) && (AV.und N (slV eR 4 g.rules) && (AV.und N (.mp r) && true))) = true
 rw [show AV.und N (Aq g.sorts) = true from Ka Ke _,Ka Aex,hr]; rfl
def zS : List AV := [.nil (.slice none 0 0),.nil (.slice none 0 0),.nil (.map none)]
theorem f49 (d : Db) (U : Sto) (hB : DbB d) (hvf : d.vars.length + d.frames.length < 1000000) (hbr : (ofF d).1.rules.length < 2000000) : Ao Ew 49 [dbV d] U fun v U' => ∃ r,v = .tup [Fs (ofF d).1 r,iV (ofF d).2] /\ nx U <= r /\ Bf rV U' r (Um (ofF d).1.rules []) /\ Below (nx U) U U' := by
 refine An Tryz.func49 rfl rfl fun hw hu0 => ?_
 refine G3 ?_;refine O1 (Ct ziC) ?_;refine G5 ?_;refine Ag rfl rfl rfl rfl (f99 d _ hB hvf) ?_;refine G9 ?_;refine O1 (Bp (n := nx U + 1) Amq (Af _ _)) ?_;refine G12 ?_
 refine Bq (ofF d).1.rules.length (fun i0 => [(2,.pr (nx U) 0),(5,iV (ofF d).2),(6,.pv (L4 (ofF d).1 (nx U + 1))),(18,slV eR 4 (ofF d).1.rules),(19,iV (.ofNat (ofF d).1.rules.length)),(20,iV (.ofNat i0))]) (fun i0 U0 => nx U0 = nx U + 2 /\ U0.get (nx U) = some (.cells zS) /\ (∀ b,b < nx U -> U0.get b = U.get b) /\ ∃ m,Bf rV U0 (nx U + 1) m /\ Um (ofF d).1.rules [] = Um ((ofF d).1.rules.drop i0) m) SL ⟨by rw [Af,Af],by rw [ab_,if_neg (by rw [Af]; omega),ab_,if_pos rfl]; rfl,fun b hb => by rw [ab_,if_neg (by rw [Af]; omega),ab_,if_neg Om],[],⟨0,by rw [ab_,if_pos (by rw [Af])]; rfl⟩,rfl⟩ ?_
 rintro i0 U0 hi0 ⟨hn0,h20,hg0,m,hm0,hf0⟩;refine G5 ?_;refine Ab rfl ?_ ?_ <;> intro h1
 ·have bc : i0 < (ofF d).1.rules.length := by simpa using h1
  obtain ⟨a0,ha0⟩ := A6 bc;have hd0 := Ay ha0;obtain ⟨vm,hvm⟩ := id hm0
  iterate 15 refine G ?_
  refine O1 (Fl (v := a0) st9 Amq rfl hvm rfl rfl (fun te k1 k2 => by first | exact Gt k1 k2 | exact Hk k1 k2 | exact Gu k1 k2 | exact H8 k1 k2 | exact F8 k1 k2 rfl)) ?_
  refine G5 ?_
  refine ⟨bc,SL,by rw [Ac]; exact hn0,by rw [a_,if_neg Om]; exact h20,fun b hb => by rw [a_,if_neg Om]; exact hg0 b hb,m.put a0.label a0,ds_,by rw [hf0,hd0]; rfl⟩
 ·have bk : (ofF d).1.rules.length <= i0 := by simpa using h1
  have bj : Um (ofF d).1.rules [] = m := by rw [hf0,ah_ bk]; rfl
  rw [← bj] at hm0;refine G5 ?_
  refine O1 (Aw (ad := nx U) (off := 0) (vs := zS) (vs' := L4 (ofF d).1 (nx U + 1)) (cs := L4 (ofF d).1 (nx U + 1)) ldC rfl rfl rfl (by simp only [Sto.cells,h20]) rfl) ?_
  refine G2 ?_;refine C3 fun hw9 => ?_
  refine G ?_
  have hn9 : nx (U0.set (nx U) (.cells (L4 (ofF d).1 (nx U + 1)))) = nx U + 2 := by rw [Ac]; exact hn0
  exact ⟨[Fs (ofF d).1 (nx U + 1),iV (ofF d).2],Bj (ldC (t := 92)) rfl (by simp only [Sto.cells]; rw [a_,if_pos rfl]) rfl (Gy rfl rfl),_,_,ag_ hw9 nl (fun _ _ => rfl),by rw [hn9]; omega,.same (by show (AV.und _ (Fs (ofF d).1 (nx U + 1)) && (true && true)) = true; rw [Alg _ (by rw [hn9]; omega)]; rfl),nx U + 1,rfl,by omega,hm0.set Om,by rw [hn9]; omega,fun b hb => by rw [a_,if_neg Om]; exact hg0 b hb⟩
def Hx (g : Gr) (m : SM Rl) (l : Str) : Str := match m.get l with
 | some r => r.sort
 | none => match Kg l with
  | some p => if (g.sorts.any fun x => decide (p.1 = x)) = true then p.1 else []
  | none => []
theorem f51a (g : Gr) (m : SM Rl) (l : Str) (r : Nat) (U : Sto) (hm : Bf rV U r m) (hb : l.length <= 281474976710656) (hs : g.sorts.length < 1000000) (rl : Rl) (hg : m.get l = some rl) : Cv 51 [Fs g r,sV l] U (sV (Hx g m l)) := by
 refine An Tryz.func51 rfl rfl fun hw hu0 => ?_
 refine G11 ?_;refine O1 (Am6 (v := rl) st9 Amq rfl hm rfl hg) ?_;refine G3 ?_;refine Dh (cs := eR rl) ziC ldC rfl (fun _ => rfl) rfl rfl rfl rfl ?_
 refine G6 ?_;refine Ab rfl ?_ ?_ <;> intro h1
 ·refine G7 ?_;refine Bb hw rfl ?_;unfold Hx; rw [hg]; rfl
 ·cases h1
theorem f75w {u : Str} {n : Int} {b : Bool} (l : Str) (U : Sto) (hb : l.length <= 281474976710656) (h : wkV (Kg l) = .tup [sV u,iV n,.bool b]) : Cv 75 [sV l] U (.tup [sV u,iV n,.bool b]) := by
 rw [← h]; exact f75 l U hb
theorem f51c (g : Gr) (m : SM Rl) (l : Str) (r : Nat) (U : Sto) (hm : Bf rV U r m) (hb : l.length <= 281474976710656) (hs : g.sorts.length < 1000000) (hg : m.get l = none) (u : Str) (n : Int) (b : Bool) (hw1 : wkV (Kg l) = .tup [sV u,iV n,.bool b]) (hr : Hx g m l = if (b && (g.sorts.any fun x => decide (u = x))) = true then u else []) : Cv 51 [Fs g r,sV l] U (sV (Hx g m l)) := by
 refine An Tryz.func51 rfl rfl fun hw hu0 => ?_
 refine G11 ?_;refine O1 (Am7 st9 Amq rfl hm rfl hg) ?_;refine G10 ?_;refine Ab rfl ?_ ?_ <;> intro h1
 ·cases h1
 ·refine G5 ?_;refine Ag rfl rfl rfl rfl (f75w l _ hb hw1) ?_;refine G12 ?_;refine TAn 5 ?_ (fun hg => ?_) ?_
  rotate_left
  ·iterate 4 refine Gn hg ?_
   refine Bh rfl rfl rfl (by rw [hg]; rfl) rfl rfl rfl rfl (f30 g.sorts u _ Om) ?_
   exact Ez
  refine G ?_;refine Ab rfl ?_ ?_ <;> intro h2
  ·refine G6 ?_;refine Bb hw rfl ?_;rw [hr,if_pos h2]; rfl
  ·refine G6 ?_;refine Bb hw rfl ?_;rw [hr,if_neg (fun hc => Bool.noConfusion (h2.symm.trans hc))]; rfl
theorem f51 (g : Gr) (m : SM Rl) (l : Str) (r : Nat) (U : Sto) (hm : Bf rV U r m) (hb : l.length <= 281474976710656) (hs : g.sorts.length < 1000000) : Cv 51 [Fs g r,sV l] U (sV (Hx g m l)) := by
 cases hg : m.get l with
 | some rl => exact f51a g m l r U hm hb hs rl hg
 | none =>
  cases hk : Kg l with
  | none => exact f51c g m l r U hm hb hs hg [] 0 false (by rw [hk]; rfl) (by unfold Hx; rw [hg]; simp only [hk]; rfl)
  | some p => exact f51c g m l r U hm hb hs hg p.1 p.2 true (by rw [hk]; rfl) (by unfold Hx; rw [hg]; simp only [hk]; rfl)
theorem Own.setAt {U : Sto} {N sz i : Nat} {α : Type} {enc : α -> List AV} {l : List α} {v : AV} (h : Own U N enc sz l v) (hi : i < l.length) (u : α) :
  ∃ a tl,N <= a /\ a < nx U /\ v = .sr a 0 sz l.length none /\ U.get a = some (.cells (l.flatMap enc ++ tl)) /\ Own (U.set a (.cells ((l.set i u).flatMap enc ++ tl))) N enc sz (l.set i u) v := by
 rcases h with ⟨rfl,_⟩ | ⟨a,tl,h1,h2,h3,h4⟩
 ·simp at hi
 ·exact ⟨a,tl,h1,h2,h3,h4,.inr ⟨a,tl,h1,by rw [Ac]; exact h2,by rw [bz_]; exact h3,by rw [a_,if_pos rfl]⟩⟩
def Eq (m : SM Rl) (l : Str) : List Pt := match m.get l with | some r => r.parts | none => []
def Ii : List Pt -> List Str -> List Str
 | [],o => o
 | p :: r,o => Ii r (if L1 p = true then o.set p.arg.toNat p.sort else o)
def Ij (ps : List Pt) : List Str := Ii ps (List.replicate (C5 ps).length [])
theorem Mh : ∀ (l k : List Pt) (o : List Str),Ii (l ++ k) o = Ii k (Ii l o)
 | [],_,_ => rfl
 | p :: r,k,o => by simp only [az_,Ii]; exact Mh r k _
theorem Un : ∀ (l : List Pt) (o : List Str),(Ii l o).length = o.length
 | [],_ => rfl
 | p :: r,o => by unfold Ii; rw [Un r]; split <;> simp
def Uo (ps : List Pt) : Prop := ∀ p ∈ ps,L1 p = true -> ∃ j : Nat,p.arg = .ofNat j /\ j < (C5 ps).length
theorem Alh : ∀ {l : List Int} {n : Nat},Aew l n = false -> ∀ x ∈ l,∃ j : Nat,x = .ofNat j /\ n <= j /\ j < n + l.length
 | [],_,_,x,hx => by cases hx
 | a :: r,n,h,x,hx => by
  simp only [Aew,bt_] at h
  rcases aq_.1 hx with rfl | hx
  ·exact ⟨n,by simpa using h.1,nl,by simp⟩
  ·obtain ⟨j,h1,h2,h3⟩ := Alh h.2 x hx
   exact ⟨j,h1,by omega,by simp; omega⟩
theorem Ajm {g : Gr} {r : Rl} (h : Gv g r = true) : Uo r.parts := by
 intro p hp hb;unfold Gv at h
 split at h
 ·cases h
 ·split at h
  ·cases h
  ·rename_i jl
   have hm : p.arg ∈ Dm (D7 r) := by
    unfold Dm;rw [List.mem_mergeSort];unfold D7;exact cr_.2 ⟨p,eg_.2 ⟨hp,hb⟩,rfl⟩
   obtain ⟨j,h1,_,h3⟩ := Alh (by simpa using jl) _ hm
   refine ⟨j,h1,?_⟩
   rw [show (Dm (D7 r)).length = (C5 r.parts).length by unfold Dm D7; rw [List.length_mergeSort,bs_]] at h3
   omega
theorem f140a (g : Gr) (m : SM Rl) (l : Str) (r : Nat) (U : Sto) (hm : Bf rV U r m) (rl : Rl) (hg : m.get l = some rl) (hb : rl.parts.length < 1000000) (hv : Uo rl.parts) : Cv 140 [Fs g r,sV l] U (Aq (Ij rl.parts)) := by
 refine An Tryz.func140 rfl rfl fun hw hu0 => ?_
 refine G10 ?_;refine O1 (K8 (v := rl) st9 Amq rfl hm rfl hg) (O1 (Aft (cs := eR rl) fdC rfl rfl) ?_);refine G10 ?_;refine O1 (Jm (enc := ePt) (l := rl.parts) slC rfl) ?_;refine G3 ?_;refine B3 (fun q : Nat × AV => [(5,slV ePt 3 rl.parts),(6,q.2),(16,slV ePt 3 rl.parts),(17,iV (.ofNat rl.parts.length)),(18,iV (.ofNat q.1))]) (fun q U0 => q.1 <= rl.parts.length /\ Own U0 (nx U) e1 1 (List.replicate (C5 (rl.parts.take q.1)).length ([] : Str)) q.2 /\ Below (nx U) U U0) (fun q => rl.parts.length - q.1) (0,.nil (.slice none 0 0)) SL ⟨bh_ _,.nil,fj_⟩ ?_
 rintro ⟨i0,v0⟩ U0 hP0;obtain ⟨hi0,bp,bt⟩ : i0 <= rl.parts.length /\ Own U0 (nx U) e1 1 (List.replicate (C5 (rl.parts.take i0)).length ([] : Str)) v0 /\ Below (nx U) U U0 := hP0;refine G5 ?_;refine Ab rfl ?_ ?_ <;> intro h1
 ·have bc : i0 < rl.parts.length := by simpa using h1
  obtain ⟨a0,ha0⟩ := A6 bc;have hd0 := Ay ha0;refine G5 ?_;refine O1 (Ax (enc := ePt) (l := rl.parts) elC (fun _ => rfl) rfl rfl ha0) ?_
  refine G7 ?_;refine O1 (Ey (q := []) okC rfl rfl) ?_;refine G ?_;refine Ab rfl ?_ ?_ <;> intro h2
  ·have bz : ((List.replicate (C5 (rl.parts.take i0)).length ([] : Str)).length + [([] : Str)].length) * (16 + 1) <= sizeLim := by
    have := dt_ L1 (rl.parts.take i0);rw [eh_]; unfold C5;rw [bn_] at this
    simp [sizeLim]; omega
   obtain ⟨v1,τ1,hap,ho1,hb1,_⟩ := ea_ (by' := 16) (enc := e1) (sz := 1) (fun _ => rfl) bt.1 bp [([] : Str)] bz
   have hap : Bm U0 1 16 v0 1 (e1 []) = some (v1,τ1) := by simpa using hap
   refine G2 ?_;refine C1 (As elC byW rfl rfl rfl) (D6 (len := 1)) rfl rfl (O1 (A3 elC rfl slC rfl rfl rfl (new := e1 []) rfl hap) ?_);refine G6 ?_
   refine ⟨(i0 + 1,v1),by show rl.parts.length - (i0 + 1) < rl.parts.length - i0; omega,SL,bc,by rw [Iy ha0,if_pos (show L1 a0 = true from h2),ao_,bv_,List.replicate_succ']; exact ho1,bt.trans hb1⟩
  ·refine G5 ?_
   refine ⟨(i0 + 1,v0),by show rl.parts.length - (i0 + 1) < rl.parts.length - i0; omega,SL,bc,by rw [Iy ha0,if_neg (by rw [show L1 a0 = false from h2]; simp),bi_]; exact bp,bt⟩
 ·have bk : rl.parts.length <= i0 := by simpa using h1
  rw [av_ bk] at bp;refine G5 ?_;refine O1 (Jm (enc := ePt) (l := rl.parts) slC rfl) ?_;refine G3 ?_;refine Bq rl.parts.length (fun i2 => [(6,v0),(29,slV ePt 3 rl.parts),(30,iV (.ofNat rl.parts.length)),(31,iV (.ofNat i2))]) (fun i2 U2 => Own U2 (nx U) e1 1 (Ii (rl.parts.take i2) (List.replicate (C5 rl.parts).length ([] : Str))) v0 /\ Below (nx U) U U2) SL ⟨bp,bt⟩ ?_
  rintro i2 U2 hi2 ⟨bu,bn⟩;refine G5 ?_;refine Ab rfl ?_ ?_ <;> intro h2
  ·have bw : i2 < rl.parts.length := by simpa using h2
   obtain ⟨a2,ha2⟩ := A6 bw;have hd2 := Ay ha2;refine G5 ?_;refine O1 (Ax (enc := ePt) (l := rl.parts) elC (fun _ => rfl) rfl rfl ha2) ?_
   refine G7 ?_;refine O1 (Ey (q := []) okC rfl rfl) ?_;refine G ?_;refine Ab rfl ?_ ?_ <;> intro h3
   ·obtain ⟨j,hj,hjl⟩ := hv a2 (ae_ ha2) h3
    have bv : (Ii (rl.parts.take i2) (List.replicate (C5 rl.parts).length ([] : Str))).length = (C5 rl.parts).length := by rw [Un,eh_]
    have en : j < (Ii (rl.parts.take i2) (List.replicate (C5 rl.parts).length ([] : Str))).length := by rw [bv]; exact hjl
    obtain ⟨b,tl,hNb,hbn,hvb,b9,ct⟩ := bu.setAt en a2.sort;refine G6 ?_
    refine O1 (Cj (i := j) (k := .i64) elC (by rw [← hvb]; rfl) (by rw [← hj]; rfl) en) ?_
    refine O1 (Rf (enc := e1) (u := a2.sort) (i := j) (fun _ => rfl) ldC rfl rfl rfl b9 en) ?_
    refine G5 ?_
    refine ⟨bw,SL,by rw [B7 ha2,Mh]; show Own _ _ _ _ (if L1 a2 = true then (Ii (rl.parts.take i2) _).set a2.arg.toNat a2.sort else _) _; rw [if_pos (show L1 a2 = true from h3),hj]; exact ct,by rw [Ac]; exact bn.1,fun b' hb' => by rw [a_,if_neg Om]; exact bn.2 b' hb'⟩
   ·refine G5 ?_
    refine ⟨bw,SL,by rw [B7 ha2,Mh]; show Own _ _ _ _ (if L1 a2 = true then _ else Ii (rl.parts.take i2) _) _; rw [if_neg (by rw [show L1 a2 = false from h3]; simp)]; exact bu,bn⟩
  ·have b6 : rl.parts.length <= i2 := by simpa using h2
   rw [av_ b6] at bu;refine G7 ?_;exact ⟨_,rfl,Aq (Ij rl.parts),U,as_ hw bn,nl,bu.fz (fun _ => rfl) (fun a ha => hw.none ha) (Bi Ke _),rfl,rfl⟩
theorem Ark {ps : List Pt} (h : [] = ps) : Wk (.nil (.slice none 0 0)) (slV ePt 3 ps) := by subst h; exact Ue
theorem f140b (g : Gr) (m : SM Rl) (l : Str) (r : Nat) (U : Sto) (hm : Bf rV U r m) (hg : m.get l = none) (ps : List Pt) (hps : [] = ps) (hb : ps.length < 1000000) (hv : Uo ps) : Cv 140 [Fs g r,sV l] U (Aq (Ij ps)) := by
 refine An Tryz.func140 rfl rfl fun hw hu0 => ?_
 refine G10 ?_;refine O1 (Ag0 st9 Amq rfl hm rfl hg) (C1 (Aft fdC rfl rfl) (Ark hps) rfl rfl ?_);refine G10 ?_;refine O1 (Jm (enc := ePt) (l := ps) slC rfl) ?_;refine G3 ?_;refine B3 (fun q : Nat × AV => [(5,slV ePt 3 ps),(6,q.2),(16,slV ePt 3 ps),(17,iV (.ofNat ps.length)),(18,iV (.ofNat q.1))]) (fun q U0 => q.1 <= ps.length /\ Own U0 (nx U) e1 1 (List.replicate (C5 (ps.take q.1)).length ([] : Str)) q.2 /\ Below (nx U) U U0) (fun q => ps.length - q.1) (0,.nil (.slice none 0 0)) SL ⟨bh_ _,.nil,fj_⟩ ?_
 rintro ⟨i0,v0⟩ U0 hP0;obtain ⟨hi0,bp,bt⟩ : i0 <= ps.length /\ Own U0 (nx U) e1 1 (List.replicate (C5 (ps.take i0)).length ([] : Str)) v0 /\ Below (nx U) U U0 := hP0;refine G5 ?_;refine Ab rfl ?_ ?_ <;> intro h1
 ·have bc : i0 < ps.length := by simpa using h1
  obtain ⟨a0,ha0⟩ := A6 bc;have hd0 := Ay ha0;refine G5 ?_;refine O1 (Ax (enc := ePt) (l := ps) elC (fun _ => rfl) rfl rfl ha0) ?_
  refine G7 ?_;refine O1 (Ey (q := []) okC rfl rfl) ?_;refine G ?_;refine Ab rfl ?_ ?_ <;> intro h2
  ·have bz : ((List.replicate (C5 (ps.take i0)).length ([] : Str)).length + [([] : Str)].length) * (16 + 1) <= sizeLim := by
    have := dt_ L1 (ps.take i0);rw [eh_]; unfold C5;rw [bn_] at this
    simp [sizeLim]; omega
   obtain ⟨v1,τ1,hap,ho1,hb1,_⟩ := ea_ (by' := 16) (enc := e1) (sz := 1) (fun _ => rfl) bt.1 bp [([] : Str)] bz
   have hap : Bm U0 1 16 v0 1 (e1 []) = some (v1,τ1) := by simpa using hap
   refine G2 ?_;refine C1 (As elC byW rfl rfl rfl) (D6 (len := 1)) rfl rfl (O1 (A3 elC rfl slC rfl rfl rfl (new := e1 []) rfl hap) ?_);refine G6 ?_
   refine ⟨(i0 + 1,v1),by show ps.length - (i0 + 1) < ps.length - i0; omega,SL,bc,by rw [Iy ha0,if_pos (show L1 a0 = true from h2),ao_,bv_,List.replicate_succ']; exact ho1,bt.trans hb1⟩
  ·refine G5 ?_
   refine ⟨(i0 + 1,v0),by show ps.length - (i0 + 1) < ps.length - i0; omega,SL,bc,by rw [Iy ha0,if_neg (by rw [show L1 a0 = false from h2]; simp),bi_]; exact bp,bt⟩
 ·have bk : ps.length <= i0 := by simpa using h1
  rw [av_ bk] at bp;refine G5 ?_;refine O1 (Jm (enc := ePt) (l := ps) slC rfl) ?_;refine G3 ?_;refine Bq ps.length (fun i2 => [(6,v0),(29,slV ePt 3 ps),(30,iV (.ofNat ps.length)),(31,iV (.ofNat i2))]) (fun i2 U2 => Own U2 (nx U) e1 1 (Ii (ps.take i2) (List.replicate (C5 ps).length ([] : Str))) v0 /\ Below (nx U) U U2) SL ⟨bp,bt⟩ ?_
  rintro i2 U2 hi2 ⟨bu,bn⟩;refine G5 ?_;refine Ab rfl ?_ ?_ <;> intro h2
  ·have bw : i2 < ps.length := by simpa using h2
   obtain ⟨a2,ha2⟩ := A6 bw;have hd2 := Ay ha2;refine G5 ?_;refine O1 (Ax (enc := ePt) (l := ps) elC (fun _ => rfl) rfl rfl ha2) ?_
   refine G7 ?_;refine O1 (Ey (q := []) okC rfl rfl) ?_;refine G ?_;refine Ab rfl ?_ ?_ <;> intro h3
   ·obtain ⟨j,hj,hjl⟩ := hv a2 (ae_ ha2) h3
    have bv : (Ii (ps.take i2) (List.replicate (C5 ps).length ([] : Str))).length = (C5 ps).length := by rw [Un,eh_]
    have en : j < (Ii (ps.take i2) (List.replicate (C5 ps).length ([] : Str))).length := by rw [bv]; exact hjl
    obtain ⟨b,tl,hNb,hbn,hvb,b9,ct⟩ := bu.setAt en a2.sort;refine G6 ?_
    refine O1 (Cj (i := j) (k := .i64) elC (by rw [← hvb]; rfl) (by rw [← hj]; rfl) en) ?_
    refine O1 (Rf (enc := e1) (u := a2.sort) (i := j) (fun _ => rfl) ldC rfl rfl rfl b9 en) ?_
    refine G5 ?_
    refine ⟨bw,SL,by rw [B7 ha2,Mh]; show Own _ _ _ _ (if L1 a2 = true then (Ii (ps.take i2) _).set a2.arg.toNat a2.sort else _) _; rw [if_pos (show L1 a2 = true from h3),hj]; exact ct,by rw [Ac]; exact bn.1,fun b' hb' => by rw [a_,if_neg Om]; exact bn.2 b' hb'⟩
   ·refine G5 ?_
    refine ⟨bw,SL,by rw [B7 ha2,Mh]; show Own _ _ _ _ (if L1 a2 = true then _ else Ii (ps.take i2) _) _; rw [if_neg (by rw [show L1 a2 = false from h3]; simp)]; exact bu,bn⟩
  ·have b6 : ps.length <= i2 := by simpa using h2
   rw [av_ b6] at bu;refine G7 ?_;exact ⟨_,rfl,Aq (Ij ps),U,as_ hw bn,nl,bu.fz (fun _ => rfl) (fun a ha => hw.none ha) (Bi Ke _),rfl,rfl⟩
theorem f140 (g : Gr) (m : SM Rl) (l : Str) (r : Nat) (U : Sto) (hm : Bf rV U r m) (hb : (Eq m l).length < 1000000) (hv : Uo (Eq m l)) : Cv 140 [Fs g r,sV l] U (Aq (Ij (Eq m l))) := by
 unfold Eq at hb hv ⊢;cases hg : m.get l with
 | some rl => rw [hg] at hb hv; exact f140a g m l r U hm rl hg hb hv
 | none => exact f140b g m l r U hm hg [] rfl (by simp) (fun p hp => by cases hp)
mutual
def Ahg : Ah -> List Str
 | .node l ks => l :: Aah ks
def Aah : List Ah -> List Str
 | [] => []
 | t :: r => Ahg t ++ Aah r
end
theorem Adg : ∀ {l : List Ah} {t : Ah},t ∈ l -> ∀ s ∈ Ahg t,s ∈ Aah l
 | x :: r,t,h,s,hs => by
  unfold Aah
  rcases aq_.1 h with rfl | h
  ·exact cd_ _ hs
  ·exact ee_ _ (Adg h s hs)
def Ff (t : Ah) : Prop := ∀ s ∈ Ahg t,s.length <= 281474976710656
theorem Ff.node {l : Str} {ks : List Ah} (h : Ff (.node l ks)) : l.length <= 281474976710656 /\ ∀ k ∈ ks,Ff k := by
 unfold Ff Ahg at h;exact ⟨h l (ar_ ..),fun k hk s hs => h s (ak_ _ (Adg hk s hs))⟩
structure Vq (g : Gr) (m : SM Rl) : Prop where
 s : g.sorts.length < 1000000
 p : ∀ l,(Eq m l).length < 1000000
 v : ∀ l,Uo (Eq m l)
def labT : Ah -> Str | .node l _ => l
def Vr : Ah -> List Ah | .node _ ks => ks
mutual
def Es (g : Gr) (m : SM Rl) : Ah -> Bool
 | .node l ks => (!decide (Hx g m l = []) && decide (Int.ofNat ks.length = Int.ofNat (Ij (Eq m l)).length)) && !Ahh g m ks
def Ahh (g : Gr) (m : SM Rl) : List Ah -> Bool
 | [] => false
 | t :: r => !Es g m t || Ahh g m r
end
theorem Up (g : Gr) (m : SM Rl) : ∀ l : List Ah,Ahh g m l = l.any fun k => !Es g m k
 | [] => by unfold Ahh; rfl
 | t :: r => by unfold Ahh; rw [List.any_cons,Up g m r]
mutual
def Aai (g : Gr) (m : SM Rl) : Ah -> Bool
 | .node l ks => Ajn g m (Ij (Eq m l)) ks
def Ajn (g : Gr) (m : SM Rl) : List Str -> List Ah -> Bool
 | _,[] => true
 | [],_ :: _ => false
 | a :: r,t :: s => !(!decide (Hx g m (labT t) = a) || !Aai g m t) && Ajn g m r s
end
theorem Am8 {g : Gr} {m : SM Rl} {l : Str} {ks : List Ah} (h : Es g m (.node l ks) = true) : ks.length = (Ij (Eq m l)).length /\ ∀ k ∈ ks,Es g m k = true := by
 unfold Es at h;simp only [af_,co_,Up] at h;refine ⟨di_ (of_decide_eq_true h.1.2),fun k hk => ?_⟩
 have := em_.1 h.2 k hk
 simpa using this
def Ahi (g : Gr) (m : SM Rl) (t : Ah) : Int := if (!Es g m t) = true then 2 else if (!Aai g m t) = true then 11 else 0
def Mi (g : Gr) (m : SM Rl) : List Ah -> Int
 | [] => 0
 | t :: r => if (!decide (Ahi g m t = 0)) = true then Ahi g m t else Mi g m r
theorem f141 (g : Gr) (m : SM Rl) (t : Ah) (r : Nat) (U : Sto) (ih : Cv 103 [Fs g r,Ap t] U (.bool (Es g m t))) : Cv 141 [Ap t,.pv (L4 g r)] U (.bool (!Es g m t)) := by
 refine An Tryz.func141 rfl rfl fun hw hu0 => ?_
 refine G9 ?_;refine Ag rfl rfl rfl rfl ih ?_;refine G4 ?_;refine Bb hw rfl ?_
 rfl
theorem f103n (l : Str) (ks : List Ah) (g : Gr) (m : SM Rl) (r : Nat) (U : Sto) (hm : Bf rV U r m) (hO : Vq g m) (hlb : Ff (.node l ks)) (hb : ks.length < 1000000) (ih : ∀ k ∈ ks,Cv 103 [Fs g r,Ap k] U (.bool (Es g m k))) : Cv 103 [Fs g r,Ap (.node l ks)] U (.bool (Es g m (.node l ks))) := by
 have hlb := hlb.node;rw [Ep];refine An Tryz.func103 rfl rfl fun hw hu0 => ?_
 refine G2 ?_;refine Fa (cs := L4 g r) ldC rfl rfl rfl ?_;refine G3 ?_
 have hF : Es g m (.node l ks) = ((!decide (Hx g m l = []) && decide (Int.ofNat ks.length = Int.ofNat (Ij (Eq m l)).length)) && !(ks.any fun k => !Es g m k)) := by rw [Es,Up]
 refine Acq [(4,.bool (Es g m (.node l ks)))] U ?_ ?_
 ·rcases au_ ((!decide (Hx g m l = []))) with hg5 | hg5
  ·rcases au_ ((decide (Int.ofNat ks.length = Int.ofNat (Ij (Eq m l)).length))) with ce | ce
   ·refine XI (l := [(51,[Fs g r,sV l],U,sV (Hx g m l),U),(140,[Fs g r,sV l],U,Aq (Ij (Eq m l)),U),(27,[slV eT 2 ks,.fn (.func 141) [] [.pv (L4 g r)]],U,.bool (ks.any fun k => !Es g m k),U)]) ⟨f51 g m l r U hm hlb.1 hO.s,f140 g m l r U hm (hO.p l) (hO.v l),f27 (fun k => !Es g m k) ks 141 [.pv (L4 g r)] U Om (fun k hk => f141 g m k r U (ih k hk)),trivial⟩ ?_
    refine G4 ?_;refine DF (Ey (q := []) okC rfl rfl) ?_;refine G7 ?_
    refine M7 rfl rfl rfl rfl (by simp [ce,hg5]) rfl rfl (Bg rfl rfl (B5 (by decide) Bo)) ?_
    refine G7 ?_
    refine M7 rfl rfl rfl rfl (by simp only [ce,hg5]<;>rfl) rfl rfl (Bg rfl rfl (B5 (by decide) (B5 (by decide) Bo))) ?_
    refine G4 ?_
    exact ⟨rfl,by simp,⟨⟨congrArg (fun b => some (AV.bool b)) (by rw [show Es g m (.node l ks) = _ from hF]; first | rfl | (simp only [ce,hg5]; done) | (simp only [ce,hg5]; rfl) | (simp [ce,hg5]; done)),trivial⟩,rfl⟩⟩
   ·refine XI (l := [(51,[Fs g r,sV l],U,sV (Hx g m l),U),(140,[Fs g r,sV l],U,Aq (Ij (Eq m l)),U),(27,[slV eT 2 ks,.fn (.func 141) [] [.pv (L4 g r)]],U,.bool (ks.any fun k => !Es g m k),U)]) ⟨f51 g m l r U hm hlb.1 hO.s,f140 g m l r U hm (hO.p l) (hO.v l),f27 (fun k => !Es g m k) ks 141 [.pv (L4 g r)] U Om (fun k hk => f141 g m k r U (ih k hk)),trivial⟩ ?_
    refine G4 ?_;refine DF (Ey (q := []) okC rfl rfl) ?_;refine G7 ?_
    refine M7 rfl rfl rfl rfl (by simp [ce,hg5]) rfl rfl (Bg rfl rfl (B5 (by decide) Bo)) ?_
    refine G7 ?_
    refine Ln rfl rfl rfl rfl (by simp only [ce,hg5]<;>rfl) rfl rfl ?_
    refine Wx (w := by simp only [ce,hg5]<;>rfl) ?_
    refine DF (A7 rfl (by simp only [ce,hg5]<;>rfl) rfl) ?_
    refine DF (Fi rfl) (Dq ?_)
    exact ⟨rfl,by simp,⟨⟨congrArg (fun b => some (AV.bool b)) (by rw [show Es g m (.node l ks) = _ from hF]; first | rfl | (simp only [ce,hg5]; done) | (simp only [ce,hg5]; rfl) | (simp [ce,hg5]; done)),trivial⟩,rfl⟩⟩
  ·refine XI (l := [(51,[Fs g r,sV l],U,sV (Hx g m l),U),(140,[Fs g r,sV l],U,Aq (Ij (Eq m l)),U),(27,[slV eT 2 ks,.fn (.func 141) [] [.pv (L4 g r)]],U,.bool (ks.any fun k => !Es g m k),U)]) ⟨f51 g m l r U hm hlb.1 hO.s,f140 g m l r U hm (hO.p l) (hO.v l),f27 (fun k => !Es g m k) ks 141 [.pv (L4 g r)] U Om (fun k hk => f141 g m k r U (ih k hk)),trivial⟩ ?_
   refine G4 ?_;refine DF (Ey (q := []) okC rfl rfl) ?_;refine G7 ?_
   refine Ln rfl rfl rfl rfl (by simp [hg5]) rfl rfl ?_
   refine Wx (w := by simp [hg5]) ?_
   refine Wx (w := by simp [hg5]) ?_
   refine DF (A7 rfl (by simp [hg5]) rfl) ?_
   refine DF (Al rfl) (Wx (w := by simp [hg5]) ?_)
   refine Wx (w := by simp [hg5]) ?_
   refine Wx (w := by simp [hg5]) ?_
   refine Ln rfl rfl rfl rfl (by simp [hg5]) rfl rfl ?_
   refine Wx (w := by simp [hg5]) ?_
   refine DF (A7 rfl (by simp [hg5]) rfl) ?_
   refine DF (Fi rfl) (Dq ?_)
   exact ⟨rfl,by simp,⟨⟨congrArg (fun b => some (AV.bool b)) (by rw [show Es g m (.node l ks) = _ from hF]; first | rfl | (simp only [hg5]; done) | (simp only [hg5]; rfl) | (simp [hg5]; done)),trivial⟩,rfl⟩⟩
 refine G ?_;refine Bb hw rfl ?_
 rfl
theorem f103 (t : Ah) (g : Gr) (m : SM Rl) (r : Nat) (U : Sto) (hm : Bf rV U r m) (hO : Vq g m) : Ff t -> Av t < 1000000 -> Cv 103 [Fs g r,Ap t] U (.bool (Es g m t)) := by
 refine Ah.ind' (P := fun t => Ff t -> Av t < 1000000 -> Cv 103 [Fs g r,Ap t] U (.bool (Es g m t))) ?_ t
 intro l ks ih hl hc;unfold Av at hc;have := Ed ks
 exact f103n l ks g m r U hm hO hl Om fun k hk => ih k hk (hl.node.2 k hk) (by have := F9 hk; omega)
theorem f104n (l : Str) (ks : List Ah) (g : Gr) (m : SM Rl) (r : Nat) (U : Sto) (hm : Bf rV U r m) (hO : Vq g m) (hlb : Ff (.node l ks)) (hb : ks.length < 1000000) (bv : ks.length = (Ij (Eq m l)).length) (ih : ∀ k ∈ ks,Cv 104 [Fs g r,Ap k] U (.bool (Aai g m k))) : Cv 104 [Fs g r,Ap (.node l ks)] U (.bool (Aai g m (.node l ks))) := by
 have hlb := hlb.node;rw [Ep];refine An Tryz.func104 rfl rfl fun hw hu0 => ?_
 refine G2 ?_;refine Fa (cs := L4 g r) ldC rfl rfl rfl ?_;refine G8 ?_;refine Ag rfl rfl rfl rfl (f140 g m l r _ hm (hO.p l) (hO.v l)) ?_;refine G11 ?_;refine Bq ks.length (fun i0 => [(2,.pv (L4 g r)),(5,Aq (Ij (Eq m l))),(13,slV eT 2 ks),(14,iV (.ofNat ks.length)),(15,iV (.ofNat i0))]) (fun i0 U0 => U0 = U /\ Ajn g m (Ij (Eq m l)) ks = Ajn g m ((Ij (Eq m l)).drop i0) (ks.drop i0)) SL ⟨rfl,rfl⟩ ?_
 rintro i0 U0 hi0 ⟨rfl,hf0⟩;refine G5 ?_;refine Ab rfl ?_ ?_ <;> intro h1
 ·have bc : i0 < ks.length := by simpa using h1
  obtain ⟨a0,ha0⟩ := A6 bc;have hd0 := Ay ha0
  obtain ⟨la,ka,he,hlt⟩ : ∃ la ka,eT a0 = [sV la,slV eT 2 ka] /\ labT a0 = la := by obtain ⟨la,ka⟩ := a0; exact ⟨la,ka,Cc la ka,rfl⟩
  have hla : la.length <= 281474976710656 := by obtain ⟨lx,kx⟩ := a0; cases hlt; exact (hlb.2 _ (ae_ ha0)).node.1
  obtain ⟨b0,hb0⟩ := A6 (l := Ij (Eq m l)) (i := i0) Om;have hdb := Ay hb0;refine G6 ?_
  refine O1 (Ax elC eT_len rfl rfl ha0) (O1 (Ad ldC rfl rfl (Ba (eT_len a0) _)) (M5 (cs := [sV la,slV eT 2 ka]) ziC ldC rfl rfl (fun _ => rfl) rfl (fun _ => rfl) rfl (by rw [he]; rfl) rfl rfl rfl ?_))
  refine G ?_
  refine Gg [(34,.bool (!decide (Hx g m la = b0) || !Aai g m a0))] ?_ ?_
  ·rcases au_ ((!decide (Hx g m la = b0))) with hg9 | hg9
   ·refine XI (l := [(51,[Fs g r,sV la],U0,sV (Hx g m la),U0),(104,[Fs g r,.agg [sV la,slV eT 2 ka]],U0,.bool (Aai g m a0),U0)]) ⟨f51 g m la r U0 hm hla hO.s,by rw [← he]; exact ih a0 (ae_ ha0),trivial⟩ ?_
    refine G8 ?_;refine DF (Ey okC rfl rfl) ?_;refine G3 ?_
    refine Ln rfl rfl rfl rfl (by simp [hg9]) rfl rfl ?_
    refine G3 ?_
    exact ⟨rfl,by simp,⟨⟨Cb,trivial⟩,sb,rfl⟩⟩
   ·refine XI (l := [(51,[Fs g r,sV la],U0,sV (Hx g m la),U0),(104,[Fs g r,.agg [sV la,slV eT 2 ka]],U0,.bool (Aai g m a0),U0)]) ⟨f51 g m la r U0 hm hla hO.s,by rw [← he]; exact ih a0 (ae_ ha0),trivial⟩ ?_
    refine G8 ?_
    refine DF (Ey okC rfl rfl) (DF (Al rfl) (Wn (w := by simp [hg9]) (Ad ldC rfl rfl rfl) ?_))
    refine Wn (w := by simp [hg9]) (Ad ldC rfl rfl rfl) ?_
    refine M7 rfl rfl rfl rfl (by simp [hg9]) rfl rfl (Bg rfl rfl (B5 (by decide) Bo)) ?_
    refine Wn (w := by simp [hg9]) (F4 rfl) ?_
    refine DF (A7 rfl (by simp [hg9]) rfl) ?_
    refine Dq ?_
    exact ⟨rfl,by simp,⟨⟨congrArg (fun b => some (AV.bool b)) (by simp [hg9]),trivial⟩,sb,rfl⟩⟩
  refine Ab rfl ?_ ?_ <;> intro h2
  ·refine G5 ?_;refine Bb hw rfl ?_;unfold Aai; rw [hf0,hd0,hdb,Ajn,hlt,h2]; rfl
  ·refine G5 ?_
   refine ⟨bc,SL,rfl,by rw [hf0,hd0,hdb,Ajn,hlt,h2]; rfl⟩
 ·have bk : ks.length <= i0 := by simpa using h1
  refine G6 ?_;refine Bb hw rfl ?_;unfold Aai; rw [hf0,ah_ bk]; unfold Ajn; rfl
theorem f104 (t : Ah) (g : Gr) (m : SM Rl) (r : Nat) (U : Sto) (hm : Bf rV U r m) (hO : Vq g m) : Ff t -> Av t < 1000000 -> Es g m t = true -> Cv 104 [Fs g r,Ap t] U (.bool (Aai g m t)) := by
 refine Ah.ind' (P := fun t => Ff t -> Av t < 1000000 -> Es g m t = true -> Cv 104 [Fs g r,Ap t] U (.bool (Aai g m t))) ?_ t
 intro l ks ih hl hc hf;unfold Av at hc;have := Ed ks;obtain ⟨h1,h2⟩ := Am8 hf
 exact f104n l ks g m r U hm hO hl Om h1 fun k hk => ih k hk (hl.node.2 k hk) (by have := F9 hk; omega) (h2 k hk)
theorem f63 (t : Ah) (g : Gr) (m : SM Rl) (r : Nat) (U : Sto) (hm : Bf rV U r m) (hO : Vq g m) (hl : Ff t) (hc : Av t <= 4000) (hd : dpT t 1 <= 100) : Cv 63 [Fs g r,Ap t] U (iV (Ahi g m t)) := by
 refine Aos Tryz.func63 rfl rfl rfl rfl fun hw hu0 => ?_
 refine G ?_;refine Fa (cs := L4 g r) ldC rfl rfl rfl ?_;refine G ?_;refine O1 (Cn (n := nx U + 1) ziC (A8 U)) ?_;refine G ?_;refine ⟨_,_,_,nx U + 1,0,rfl,rfl,rfl,As9 ?_⟩;have hr := hm.lt hw
 have hm' : Bf rV (U.bump.new (.cells [iV 0])) r m := hm.of_get (by rw [ab_,if_neg (by rw [A8]; omega),Cy])
 refine G3 ?_;refine Ag rfl rfl rfl rfl (f102 t _ hc hd) ?_;refine G7 ?_;refine Ag rfl rfl rfl rfl (f103 t g m r _ hm' hO hl Om) ?_;refine G3 ?_;refine Ab rfl ?_ ?_ <;> intro h1
 ·refine G2 ?_
  refine O1 (Aw (ad := nx U + 1) (off := 0) (vs := [iV 0]) (vs' := [iV 2]) (cs := [iV 2]) ldC rfl rfl rfl (by simp only [Sto.cells]; rw [ab_,if_pos (A8 U).symm]; rfl) rfl) ?_
  refine G ?_;have hE : Ahi g m t = 2 := if_pos h1;refine G ?_
  exact ⟨[iV 2],Bj (ldC (t := 33)) rfl (by simp only [Sto.cells]; rw [a_,if_pos rfl]) rfl rfl,_,U,as_ hw ⟨by rw [Ac,Af,A8]; omega,fun b hb => by rw [a_,if_neg Om,ab_,if_neg (by rw [A8]; omega),Cy]⟩,nl,.same rfl,by rw [hE]; rfl,rfl⟩
 ·have hf : Es g m t = true := by simpa using h1
  refine G4 ?_;refine Ag rfl rfl rfl rfl (f104 t g m r _ hm' hO hl Om hf) ?_;refine G3 ?_;refine Ab rfl ?_ ?_ <;> intro h2
  ·refine G2 ?_
   refine O1 (Aw (ad := nx U + 1) (off := 0) (vs := [iV 0]) (vs' := [iV 11]) (cs := [iV 11]) ldC rfl rfl rfl (by simp only [Sto.cells]; rw [ab_,if_pos (A8 U).symm]; rfl) rfl) ?_
   refine G ?_;have hE : Ahi g m t = 11 := (if_neg (fun hh => Bool.noConfusion (h1.symm.trans hh))).trans (if_pos h2)
   refine G ?_
   exact ⟨[iV 11],Bj (ldC (t := 33)) rfl (by simp only [Sto.cells]; rw [a_,if_pos rfl]) rfl rfl,_,U,as_ hw ⟨by rw [Ac,Af,A8]; omega,fun b hb => by rw [a_,if_neg Om,ab_,if_neg (by rw [A8]; omega),Cy]⟩,nl,.same rfl,by rw [hE]; rfl,rfl⟩
  ·refine G3 ?_
   refine O1 (Aw (ad := nx U + 1) (off := 0) (vs := [iV 0]) (vs' := [iV 0]) (cs := [iV 0]) ldC rfl rfl rfl (by simp only [Sto.cells]; rw [ab_,if_pos (A8 U).symm]; rfl) rfl) ?_
   refine G ?_;have hE : Ahi g m t = 0 := (if_neg (fun hh => Bool.noConfusion (h1.symm.trans hh))).trans (if_neg (fun hh => Bool.noConfusion (h2.symm.trans hh)))
   refine G ?_
   exact ⟨[iV 0],Bj (ldC (t := 33)) rfl (by simp only [Sto.cells]; rw [a_,if_pos rfl]) rfl rfl,_,U,as_ hw ⟨by rw [Ac,Af,A8]; omega,fun b hb => by rw [a_,if_neg Om,ab_,if_neg (by rw [A8]; omega),Cy]⟩,nl,.same rfl,by rw [hE]; rfl,rfl⟩
theorem f50 (ts : List Ah) (g : Gr) (m : SM Rl) (r : Nat) (U : Sto) (hm : Bf rV U r m) (hO : Vq g m) (hb : ts.length < 1000000) (hT : ∀ t ∈ ts,Ff t /\ Av t <= 4000 /\ dpT t 1 <= 100) : Cv 50 [Fs g r,slV eT 2 ts] U (iV (Mi g m ts)) := by
 refine An Tryz.func50 rfl rfl fun hw hu0 => ?_
 refine G2 ?_;refine Fa (cs := L4 g r) ldC rfl rfl rfl ?_;refine G10 ?_;refine Bq ts.length (fun i0 => [(2,.pv (L4 g r)),(8,slV eT 2 ts),(9,iV (.ofNat ts.length)),(10,iV (.ofNat i0))]) (fun i0 U0 => U0 = U /\ Mi g m ts = Mi g m (ts.drop i0)) SL ⟨rfl,rfl⟩ ?_
 rintro i0 U0 hi0 ⟨rfl,hf0⟩;refine G5 ?_;refine Ab rfl ?_ ?_ <;> intro h1
 ·have bc : i0 < ts.length := by simpa using h1
  obtain ⟨a0,ha0⟩ := A6 bc;have hd0 := Ay ha0;refine G5 ?_;refine O1 (Ax elC eT_len rfl rfl ha0) (O1 (Ad ldC rfl rfl (Ba (eT_len a0) _)) (Dh ziC ldC rfl (fun _ => rfl) rfl (A1 (eT_len a0)) rfl rfl ?_))
  refine G5 ?_;refine Ag rfl rfl rfl rfl (f63 a0 g m r _ hm hO (hT a0 (ae_ ha0)).1 (hT a0 (ae_ ha0)).2.1 (hT a0 (ae_ ha0)).2.2) ?_;refine G7 ?_;refine Ab rfl ?_ ?_ <;> intro h2
  ·refine G6 ?_;refine Bb hw rfl ?_;rw [hf0,hd0,Mi,if_pos h2]; rfl
  ·refine G5 ?_
   refine ⟨bc,SL,rfl,by rw [hf0,hd0,Mi,if_neg (fun hh => Bool.noConfusion (h2.symm.trans hh))]⟩
 ·have bk : ts.length <= i0 := by simpa using h1
  refine G6 ?_;refine Bb hw rfl ?_;rw [hf0,ah_ bk]; rfl
theorem Ao.view {f : Nat} {args args' : List AV} {U : Sto} {u : AV} (hu : ∀ (C C' : Ctx) (N N' : Nat) (w : World) (x : Value),R C N w u x -> R C' N' w u x) (hz : FzL U ⟨.e,nx U⟩ args args')
  (h : Ao Ew f args' ⟨.e,nx U⟩ (fun v τ => v = u /\ τ = ⟨.e,nx U⟩)) : Ao Ew f args U (fun v τ => v = u /\ τ = U) := by
 intro C w vs hs hg ha
 have hf : D5 U ⟨.e,nx U⟩ := ⟨nl,fun a O h => by cases h⟩
 obtain ⟨h1,h2⟩ := h (C.keep ⟨.e,nx U⟩) w vs (hs.frz hf) hg.frz (FzL.RL hs hz ha);refine ⟨h1,h2.mono fun e w' he => ?_⟩
 cases e with
 | returned x =>
  obtain ⟨v,τ',C',⟨rfl,rfl⟩,k1,k2,k3⟩ := he
  have bi : ∀ b,b < w.heap.size -> w'.heap[b]? = w.heap[b]? := fun b hb => by
   by_cases hr : (C.keep ⟨.e,nx U⟩).own b
   ·rcases hr with hr | ⟨a,o,hl⟩
    ·exact k2.res.2 b hr
    ·simp [Ctx.keep,Sto.get,Tr.get] at hl
   ·exact (k2.keep b hb hr).2
  obtain ⟨q1,q2⟩ := hs.same k2.size bi k2.os;exact ⟨v,U,C,⟨rfl,rfl⟩,q1,q2,hu _ _ _ _ _ _ k3⟩
 | panicked _ => exact he.elim
 | outgrown => exact he.elim
theorem Ae4 {N : Nat} (s : Sb) : AV.unds N (eS s) = true := by show (true && AV.unds N (eT s.tree)) = true; rw [Gh]; rfl
theorem App (o : Option Ah) : ∃ was ok,Ac3 o = .tup [Ap was,.bool ok] /\ ((ok = true /\ o = some was) ∨ (ok = false /\ o = none)) := by
 cases o with
 | none => exact ⟨.node [] [],false,rfl,.inr ⟨rfl,rfl⟩⟩
 | some t => exact ⟨t,true,rfl,.inl ⟨rfl,rfl⟩⟩
theorem Adh {l : List Sb} {s : Str} {t : Ah} {n : Nat} (h : Dv l s = some t) (hl : ∀ x ∈ l,Av x.tree <= n) : Av t <= n := by
 induction l with
 | nil => cases h
 | cons a r ih =>
  unfold Dv at h
  split at h
  ·cases h; exact hl a (ar_ ..)
  ·exact ih h fun x hx => hl x (ak_ _ hx)
theorem Ae5 (l lt : Str) (kt : List Ah) : eS ⟨l,.node lt kt⟩ = [sV l,sV lt,slV eT 2 kt] := by unfold eS; rw [Cc]
theorem Vs {g : Gr} : ∀ {l : List Rl} {m : SM Bool},Tq g l m = false -> ∀ r ∈ l,Gv g r = true
 | [],_,_,r,hr => by cases hr
 | a :: l,m,h,r,hr => by
  simp only [Tq,bt_,ec_] at h
  rcases aq_.1 hr with rfl | hr
  ·exact h.1.1
  ·exact Vs h.2 r hr
theorem Aaj {g : Gr} (h : Ni g = 0) : g.sorts.length <= 32 /\ g.rules.length <= 600 /\ ∀ r ∈ g.rules,r.parts.length <= 200 /\ Gv g r = true := by
 unfold Ni at h
 split at h
 ·cases h
 ·rename_i h1
  split at h
  ·cases h
  ·split at h
   ·cases h
   ·rename_i h2 h3
    simp only [ce_,decide_eq_true_eq,fo_,not_or,not_exists,not_and,ai_] at h1
    refine ⟨by omega,by omega,fun r hr => ⟨?_,Vs (by simpa using h3) r hr⟩⟩
    have := h1.2 r hr;omega
theorem Aak {d : Db} : (ofF d).1 = zG ∨ Ni (ofF d).1 = 0 := by
 unfold ofF
 split
 ·exact .inl rfl
 ·split
  ·exact .inl rfl
  ·split
   ·exact .inl rfl
   ·split
    ·exact .inl rfl
    ·rename_i hc; exact .inr (by simpa using hc)
theorem Rp : ∀ {l : List Rl} {m : SM Rl} {s : Str} {r : Rl},(Um l m).get s = some r -> r ∈ l ∨ m.get s = some r
 | [],_,_,_,h => .inr h
 | a :: l,m,s,r,h => by
  rcases Rp (l := l) (m := m.put a.label a) h with h | h
  ·exact .inl (ak_ _ h)
  ·rw [ci_] at h
   split at h
   ·cases h; exact .inl (ar_ ..)
   ·exact .inr h
abbrev gO (d : Db) : Gr := (ofF d).1
abbrev mO (d : Db) : SM Rl := Um (ofF d).1.rules []
theorem of_ok (d : Db) : Vq (gO d) (mO d) /\ (gO d).rules.length < 2000000 := by
 have key : ∀ r ∈ (gO d).rules,r.parts.length <= 200 /\ Uo r.parts := fun r hr => by
  rcases Aak (d := d) with h | h
  ·rw [show gO d = zG from h] at hr; cases hr
  ·have := (Aaj h).2.2 r hr; exact ⟨this.1,Ajm this.2⟩
 refine ⟨⟨?_,fun l => ?_,fun l => ?_⟩,?_⟩
 ·rcases Aak (d := d) with h | h
  ·rw [show gO d = zG from h]; show 0 < 1000000; omega
  ·have := (Aaj h).1; show (ofF d).1.sorts.length < _; omega
 ·unfold Eq;cases hg : (mO d).get l with
  | none => show 0 < 1000000; omega
  | some r =>
   rcases Rp hg with h | h
   ·have := (key r h).1; show r.parts.length < _; omega
   ·cases h
 ·unfold Eq;cases hg : (mO d).get l with
  | none => exact fun p hp => by cases hp
  | some r =>
   rcases Rp hg with h | h
   ·exact (key r h).2
   ·cases h
 ·rcases Aak (d := d) with h | h
  ·rw [show gO d = zG from h]; show 0 < 2000000; omega
  ·have := (Aaj h).2.1; show (ofF d).1.rules.length < _; omega
structure DbS (d : Db) : Prop where
 b : DbB d
 n : d.vars.length + d.frames.length < 1000000
structure TrS (t : Ah) : Prop where
 l : Ff t
 c : Av t <= 4000
 d : dpT t 1 <= 100
theorem Adi {f : Nat} {a a' : List AV} {s s' : Sto} {v v' : AV} {r : List (Nat × List AV × Sto × AV × Sto)} (h : a' = a -> v' = v) : Dl ((f,a,s,v,s') :: (f,a',s,v',s') :: r) f a' s = some (v',s') := by
 by_cases e : a' = a
 ·rw [h e,e]; simp only [Dl,and_self,if_true]
 ·simp only [Dl]; rw [if_neg (fun hh => e hh.2.1)]; simp
theorem f50t {l lt : Str} {ks kt : List Ah} {n : Int} (g : Gr) (m : SM Rl) (r : Nat) (U : Sto) (hm : Bf rV U r m) (hO : Vq g m) (hp : TrS (.node l ks)) (ht : TrS (.node lt kt)) (hn : Mi g m [.node l ks,.node lt kt] = n) :
  Cv 50 [Fs g r,.sv [sV l,slV eT 2 ks,sV lt,slV eT 2 kt] 2 2 none] U (iV n) := by
 have := f50 [.node l ks,.node lt kt] g m r U hm hO (by simp) (fun t h => by
  rcases aq_.1 h with rfl | h
  ·exact ⟨hp.l,hp.c,hp.d⟩
  ·rw [am_.1 h]; exact ⟨ht.l,ht.c,ht.d⟩)
 rw [hn] at this
 rw [show slV eT 2 [.node l ks,.node lt kt] = .sv [sV l,slV eT 2 ks,sV lt,slV eT 2 kt] 2 2 none by show AV.sv (eT (.node l ks) ++ (eT (.node lt kt) ++ [])) 2 2 none = _; rw [Cc,Cc]; rfl] at this
 exact this
def Jh (l : List Sb) (s : Str) (ks : List Ah) : Option Ah := if decide (Int.ofNat ks.length = 0) = true then Dv l s else none
mutual
def apT (l : List Sb) : Ah -> Ah
 | .node s ks => match Jh l s ks with
  | some t => t
  | none => .node s (apL l ks)
def apL (l : List Sb) : List Ah -> List Ah
 | [] => []
 | t :: r => apT l t :: apL l r
end
theorem Ts (l : List Sb) : ∀ ks : List Ah,apL l ks = ks.map (apT l)
 | [] => by rw [apL]; rfl
 | t :: r => by rw [apL,Ts l r]; rfl
theorem Ajo {l : List Sb} {ks : List Ah} {i : Nat} {a : Ah} (h : ks[i]? = some a) : (apL l ks)[i]? = some (apT l a) := by
 rw [Ts,bp_,h]; rfl
theorem Tt (l : List Sb) (ks : List Ah) : (apL l ks).length = ks.length := by rw [Ts,bs_]
mutual
theorem Uq : ∀ (t : Ah) (lv k : Nat),dpT t (lv + k) = dpT t lv + k
 | .node _ ks,lv,k => by
  unfold dpT;have := Adj ks (lv + 1) lv k
  rw [show lv + k + 1 = lv + 1 + k by omega]; exact this
theorem Adj : ∀ (l : List Ah) (lv d k : Nat),dpL l (lv + k) (d + k) = dpL l lv d + k
 | [],_,_,_ => by unfold dpL; rfl
 | t :: r,lv,d,k => by
  unfold dpL
  rw [Uq t lv k,show max (d + k) (dpT t lv + k) = max d (dpT t lv) + k by omega]
  exact Adj r lv _ k
end
theorem Ato (t : Ah) (lv : Nat) : dpT t lv = lv + dpT t 1 - 1 := by
 have h1 := Uq t 0 lv;have h2 := Uq t 0 1;rw [bq_] at h1 h2;omega
def szP (t : Ah) : Nat × Nat := (Av t,dpT t 1)
def Hn (l : List Sb) : SM (Nat × Nat) := l.foldr (fun s m => m.put s.label (szP s.tree)) []
theorem Ajp (l : List Sb) (s : Str) : (Hn l).get s = (Dv l s).map szP := by
 induction l with
 | nil => rfl
 | cons a r ih =>
  show ((Hn r).put a.label (szP a.tree)).get s = _
  rw [ci_];unfold Dv
  by_cases h : a.label = s
  ·rw [if_pos h,if_pos h.symm]; rfl
  ·rw [if_neg h,if_neg (fi_ h)]; exact ih
def szV (p : Nat × Nat) : AV := .agg [iV (.ofNat p.1),iV (.ofNat p.2)]
theorem Apq {J : Ae} {U : Sto} {Rr : Rec} {r : Nat} {x y : Operand} {m : SM (Nat × Nat)} {s : Str} (hx : Ak Ew J x = some (.mp r)) (hm : Bf szV U r m) (hy : Ak Ew J y = some (sV s)) :
  A0 Ew Rr (.lookup 102 x y true) J U (.tup [szV ((m.get s).getD (0,0)),.bool (m.get s).isSome]) U := by
 have := Px (Rr := Rr) st9 Aou hx hm hy;cases hg : m.get s with
 | none => rw [hg] at this; exact this
 | some p => rw [hg] at this; exact this
theorem f60n (l : List Sb) (s : Str) (ks : List Ah) (lv : Nat) (a b r : Nat) (U : Sto) (ha : U.get a = some (.cells [.mp r])) (hb : U.get b = some (.cells [.fn (.func 60) [] [.pr a 0,.pr b 0]])) (hm : Bf szV U r (Hn l)) (hl : ∀ x ∈ l,Av x.tree <= 4000) (hlv : lv + Av (.node s ks) <= 20000) (hks : ks.length <= 1000000) (hc : Av (apT l (.node s ks)) <= 4000) (ih : ∀ k ∈ ks,Av (apT l k) <= 4000 -> Cv 60 [Ap k,iV (.ofNat (lv + 1)),.pr a 0,.pr b 0] U (.tup [iV (.ofNat (Av (apT l k))),iV (.ofNat (dpT (apT l k) (lv + 1)))])) : Cv 60 [Ap (.node s ks),iV (.ofNat lv),.pr a 0,.pr b 0] U (.tup [iV (.ofNat (Av (apT l (.node s ks)))),iV (.ofNat (dpT (apT l (.node s ks)) lv))]) := by
 have hsz := Ajp l s
 have hlvk : lv + 1 <= 20000 := by unfold Av at hlv; omega
 have hp : ((Hn l).get s).getD (0,0) = ((Dv l s).map szP).getD (0,0) := by rw [hsz]
 have hp2 : (((Hn l).get s).getD (0,0)).2 <= 4001 := by
  rw [hp];cases hf : Dv l s with
  | none => exact bh_ _
  | some t =>
   have h1 := (L3 t 1).2;have h2 : Av t <= 4000 := Adh hf hl
   show dpT t 1 <= _; omega
 rw [Ep];refine An Tryz.func60 rfl rfl fun hw hu0 => ?_
 refine G9 ?_
 refine O1 (Ad (u := .pr a 0) (cs := [.mp r]) ldC rfl (by simp only [Bk,Sto.cells,ha]; rfl) rfl) ?_
 refine G2 ?_;refine O1 (Apq rfl hm rfl) ?_;refine G3 ?_;refine Dh (cs := [iV (.ofNat (((Hn l).get s).getD (0,0)).1),iV (.ofNat (((Hn l).get s).getD (0,0)).2)]) ziC ldC rfl (fun _ => rfl) rfl rfl rfl rfl ?_
 refine G6 ?_;refine TAn 4 ?_ (fun hg => ?_) ?_
 rotate_left
 ·iterate 4 refine Gn hg ?_
  exact Ez
 refine G ?_;refine Ab rfl ?_ ?_ <;> intro h1
 ·obtain ⟨t,hft⟩ : ∃ t,Dv l s = some t := by
   simp only [af_] at h1;rw [hsz,fk_] at h1;exact br_.1 h1.1
  have hlf : Jh l s ks = some t := by unfold Jh; rw [if_pos (by simp only [af_] at h1; exact h1.2)]; exact hft
  have hap : apT l (.node s ks) = t := by rw [apT,hlf]
  have hpt : ((Hn l).get s).getD (0,0) = szP t := by rw [hp,hft]; rfl
  have hp1 : 1 <= (((Hn l).get s).getD (0,0)).2 := by rw [hpt]; exact (L3 t 1).1
  refine G ?_;refine X0 ?_
  refine DF (Cl Jt rfl rfl (by decide) (n := 0) rfl) ?_
  refine G2 ?_
  refine DF (Cl Jt rfl rfl (by decide) (n := 1) rfl) ?_
  refine G ?_;refine DF (Dg okC rfl rfl Om) ?_;refine DF (Ly (q := 1) okC rfl rfl Om Om) ?_;refine G3 ?_;refine ⟨rfl,rfl,?_⟩;refine G ?_;refine Bb hw rfl ?_;rw [hap,hpt,Ato t lv]; rfl
 ·have hlf : Jh l s ks = none := by
   unfold Jh
   split
   ·rename_i h0
    rw [h0,Bool.and_true,hsz,fk_] at h1;cases hf : Dv l s with
    | none => rfl
    | some t => rw [hf] at h1; cases h1
   ·rfl
  have hap : apT l (.node s ks) = .node s (apL l ks) := by rw [apT,hlf]
  have hcn : 1 + By (apL l ks) <= 4000 := by rw [hap] at hc; unfold Av at hc; exact hc
  iterate 16 refine G ?_
  refine Bq ks.length (fun i0 => [(1,iV (.ofNat lv)),(3,.pr b 0),(6,iV (.ofNat (1 + By ((apL l ks).take i0)))),(7,iV (.ofNat (dpL ((apL l ks).take i0) (lv + 1) lv))),(37,slV eT 2 ks),(38,iV (.ofNat ks.length)),(39,iV (.ofNat i0))]) (fun i0 U0 => U0 = U) ⟨rfl,rfl,congrArg (fun x => some (iV x)) (show Int.ofNat 1 = Int.ofNat (1 + By ((apL l ks).take 0)) by simp [By]),congrArg (fun x => some (iV x)) (show Int.ofNat lv = Int.ofNat (dpL ((apL l ks).take 0) (lv + 1) lv) by simp [dpL]),rfl,rfl,rfl,trivial⟩ rfl ?_
  rintro i0 U0 hi0 rfl;refine G5 ?_;refine Ab rfl ?_ ?_ <;> intro h2
  ·have bc : i0 < ks.length := by simpa using h2
   obtain ⟨a0,ha0⟩ := A6 bc;have hd0 := Ay ha0;have hA0 := Ajo (l := l) ha0;have hct := Ade hA0;have hda := L3 (apT l a0) (lv + 1)
   have e4 : Int.ofNat (1 + By ((apL l ks).take i0) + Av (apT l a0)) = Int.ofNat (1 + By ((apL l ks).take (i0 + 1))) := by rw [B7 hA0,Mg]; simp only [By,ai_]; omega
   have e5 : max (Int.ofNat (dpL ((apL l ks).take i0) (lv + 1) lv)) (Int.ofNat (dpT (apT l a0) (lv + 1))) = Int.ofNat (dpL ((apL l ks).take (i0 + 1)) (lv + 1) lv) := by rw [B7 hA0,Ae1]; simp only [dpL,ai_]; omega
   refine G5 ?_;refine O1 (Ax elC eT_len rfl rfl ha0) (O1 (Ad ldC rfl rfl (Ba (eT_len a0) _)) (Dh ziC ldC rfl (fun _ => rfl) rfl (A1 (eT_len a0)) rfl rfl ?_))
   refine G3 ?_
   refine O1 (Ad (u := .pr b 0) (cs := [.fn (.func 60) [] [.pr a 0,.pr b 0]]) ldC rfl (by simp only [Bk,Sto.cells,hb]; rfl) rfl) ?_
   refine G3 ?_;refine Ag rfl rfl rfl rfl (ih a0 (ae_ ha0) Om) ?_;refine G11 ?_;refine O1 (Dg okC rfl rfl Om) ?_;refine G7 ?_;refine Ab rfl ?_ ?_ <;> intro h3
   ·exact absurd h3 (by simp only [ai_,decide_eq_true_eq]; omega)
   ·skip
    refine G4 ?_;refine O1 (Aiv okC rfl rfl) ?_;refine G6 ?_;refine ⟨bc,⟨rfl,rfl,congrArg (fun x => some (iV x)) e4,congrArg (fun x => some (iV x)) e5,rfl,rfl,rfl,trivial⟩,rfl⟩
  ·have bk : ks.length <= i0 := by simpa using h2
   refine G9 ?_;refine Bb hw rfl ?_
   rw [hap]; unfold Av dpT; rw [av_ (by rw [Tt]; exact bk)]; rfl
theorem f60 (l : List Sb) (a b r : Nat) (U : Sto) (ha : U.get a = some (.cells [.mp r])) (hb : U.get b = some (.cells [.fn (.func 60) [] [.pr a 0,.pr b 0]])) (hm : Bf szV U r (Hn l)) (hl : ∀ x ∈ l,Av x.tree <= 4000) (t : Ah) : ∀ lv,lv + Av t <= 20000 -> Av (apT l t) <= 4000 ->
  Cv 60 [Ap t,iV (.ofNat lv),.pr a 0,.pr b 0] U (.tup [iV (.ofNat (Av (apT l t))),iV (.ofNat (dpT (apT l t) lv))]) := by
 refine Ah.ind' (P := fun t => ∀ lv,lv + Av t <= 20000 -> Av (apT l t) <= 4000 -> Cv 60 [Ap t,iV (.ofNat lv),.pr a 0,.pr b 0] U (.tup [iV (.ofNat (Av (apT l t))),iV (.ofNat (dpT (apT l t) lv))])) ?_ t
 intro s ks ih lv h1 h2;have hlk := Ed ks
 refine f60n l s ks lv a b r U ha hb hm hl h1 (by unfold Av at h1; omega) h2 fun k hk h3 => ih k hk (lv + 1) ?_ h3
 have := F9 hk;unfold Av at h1;omega
theorem f54q {was : Ah} {ok : Bool} (l : List Sb) (s : Str) (U : Sto) (h : Ac3 (Dv l s) = .tup [Ap was,.bool ok]) (hb : l.length < 4611686018427387904) : Cv 54 [slV eS 3 l,sV s] U (.tup [Ap was,.bool ok]) := by
 rw [← h]; exact f54 l s U hb
theorem f61n (l : List Sb) (s : Str) (ks : List Ah) (b : Nat) (U : Sto) (hb : U.get b = some (.cells [.fn (.func 61) [] [.pv [slV eS 3 l],.pr b 0]])) (hbn : b < nx U) (hll : l.length < 1000000) (hl : ∀ x ∈ l,Av x.tree <= 4000) (hks : ks.length <= 1000000) (ih : ∀ k ∈ ks,∀ τ,τ.get b = some (.cells [.fn (.func 61) [] [.pv [slV eS 3 l],.pr b 0]]) -> Cv 61 [Ap k,.pv [slV eS 3 l],.pr b 0] τ (Ap (apT l k))) : Cv 61 [Ap (.node s ks),.pv [slV eS 3 l],.pr b 0] U (Ap (apT l (.node s ks))) := by
 rw [Ep];refine An Tryz.func61 rfl rfl fun hw hu0 => ?_
 refine G3 ?_;refine O1 (Ct ziC) ?_;refine G9 ?_;refine Ab rfl ?_ ?_ <;> intro h1
 ·obtain ⟨was,ok,hfv,co⟩ := App (Dv l s);refine G5 ?_;refine Ag rfl rfl rfl rfl (f54q l s _ hfv Om) ?_;refine G3 ?_;refine Dh ziC ldC rfl (fun _ => rfl) rfl (A1 (eT_len was)) rfl rfl ?_
  refine G6 ?_;refine Ab rfl ?_ ?_ <;> intro h2
  ·have hfs : Dv l s = some was := by
    rcases co with ⟨_,h⟩ | ⟨h,_⟩
    ·exact h
    ·rw [h] at h2; cases h2
   have hwc := Adh hfs hl;refine G3 ?_;refine Ag rfl rfl rfl rfl (f56 was _ Om) ?_
   refine O1 (Aw (ad := nx U) (off := 0) (vs := zT) (vs' := eT was) (cs := eT was) ldC rfl rfl (A1 (eT_len was)) (by simp only [Sto.cells]; rw [ab_,if_pos rfl]; rfl) (Fj (eT_len was))) ?_
   refine G ?_
   have hap : apT l (.node s ks) = was := by rw [apT,show Jh l s ks = some was from (if_pos h1).trans hfs]
   refine G ?_
   exact ⟨_,Bj (vs := eT was) (v := Ap was) (ldC (t := 28)) rfl (by simp only [Sto.cells]; rw [a_,if_pos rfl]) (Bt (eT_len _)) rfl,Ap was,U,as_ hw ⟨by rw [Ac,Af]; omega,fun b hb => by rw [a_,if_neg Om,ab_,if_neg Om]⟩,nl,.same (Zs was),by rw [hap],rfl⟩
  ·have hlf : Jh l s ks = none := by
    unfold Jh; rw [if_pos h1]
    rcases co with ⟨h,_⟩ | ⟨_,h⟩
    ·rw [h] at h2; cases h2
    ·exact h
   refine G6 ?_
   refine O1 (Cn (n := nx U + 1) ziC (Af _ _)) (O1 (Aw (ad := nx U + 1) (off := 0) (vs := zT) (vs' := [sV s,.nil (.slice none 0 0)]) (cs := [sV s,.nil (.slice none 0 0)]) ldC rfl rfl rfl (by simp only [Sto.cells]; rw [ab_,if_pos (by rw [Af])]; rfl) rfl) ?_)
   refine G10 ?_
   refine Bq ks.length (fun i0 => [(2,.pr b 0),(4,.pr (nx U) 0),(7,.pr (nx U + 1) 0),(28,slV eT 2 ks),(29,iV (.ofNat ks.length)),(30,iV (.ofNat i0))]) (fun i0 U0 => ∃ vp,U0.get (nx U + 1) = some (.cells [sV s,vp]) /\ Own U0 (nx U + 2) eT 2 ((apL l ks).take i0) vp /\ U0.get (nx U) = some (.cells zT) /\ (∀ b,b < nx U -> U0.get b = U.get b) /\ nx U + 2 <= nx U0) SL ⟨.nil (.slice none 0 0),by rw [a_,if_pos rfl],.nil,by rw [a_,if_neg Om,ab_,if_neg (by rw [Af]; omega),ab_,if_pos rfl]; rfl,fun b hb => by rw [a_,if_neg Om,ab_,if_neg (by rw [Af]; omega),ab_,if_neg Om],by rw [Ac,Af,Af]; exact nl⟩ ?_
   rintro i0 U0 hi0 ⟨vp,h8,bp,h20,hg0,hn0⟩;refine G5 ?_;refine Ab rfl ?_ ?_ <;> intro h3
   ·have bc : i0 < ks.length := by simpa using h3
    obtain ⟨a0,ha0⟩ := A6 bc;have hd0 := Ay ha0;have hA0 := Ajo (l := l) ha0;obtain ⟨la,ka,he⟩ := Ae2 (apT l a0)
    have bz : (((apL l ks).take i0).length + [apT l a0].length) * (40 + 1) <= sizeLim := by rw [bn_,Tt]; simp [sizeLim]; omega
    obtain ⟨v1,τ1,dw,ho1,hb1,_⟩ := ea_ (by' := 40) (enc := eT) (sz := 2) eT_len hn0 bp [apT l a0] bz
    have dw : Bm U0 2 40 vp 1 (eT (apT l a0)) = some (v1,τ1) := by simpa using dw
    have h8t : τ1.get (nx U + 1) = some (.cells [sV s,vp]) := (hb1.2 _ Om).trans h8;refine G5 ?_;refine O1 (Ax elC eT_len rfl rfl ha0) (O1 (Ad ldC rfl rfl (Ba (eT_len a0) _)) (Dh ziC ldC rfl (fun _ => rfl) rfl (A1 (eT_len a0)) rfl rfl ?_))
    refine G ?_
    refine XX 1 (l := [(61,[.agg (eT a0),.pv [slV eS 3 l],.pr b 0],U0,.agg [sV la,slV eT 2 ka],U0)]) ⟨by rw [← he]; exact ih a0 (ae_ ha0) U0 ((hg0 b hbn).trans hb),trivial⟩ ?_
    refine G ?_
    refine DF (Ad (u := .pr (nx U + 1) 1) (cs := [vp]) ldC rfl (by simp only [Bk,Sto.cells,h8]; rfl) rfl) ?_
    refine DF (Ad (u := .pr b 0) (cs := [.fn (.func 61) [] [.pv [slV eS 3 l],.pr b 0]]) ldC rfl (by simp only [Bk,Sto.cells,hg0 b hbn,hb]; rfl) rfl) ?_
    refine G2 ?_
    refine DF (As elC byW rfl rfl rfl) (DT (A3 elC rfl slC rfl rfl rfl (new := eT (apT l a0)) (by rw [he]; rfl) dw) ?_)
    refine G ?_
    refine DT (Aw (ad := nx U + 1) (off := 1) (vs := [sV s,vp]) (vs' := [sV s,v1]) (cs := [v1]) ldC rfl rfl (K9 ho1) (by simp only [Sto.cells,h8t]) rfl) ?_
    refine G ?_
    refine ⟨(by intro e he; simp at he; rcases he with rfl | rfl <;> exact .refl),?_⟩
    refine G4 ?_
    refine ⟨bc,SL,v1,by rw [a_,if_pos rfl],by rw [B7 hA0]; exact ho1.mono (by rw [Ac]; exact nl) fun a tl _ h11 h12 _ => by rw [a_,if_neg Om],by rw [a_,if_neg Om,hb1.2 _ Om]; exact h20,fun b hb => by rw [a_,if_neg Om,hb1.2 b Om]; exact hg0 b hb,by rw [Ac]; exact ax_ hn0 hb1.1⟩
   ·have bk : ks.length <= i0 := by simpa using h3
    refine G3 ?_
    refine O1 (Ad (u := .pr (nx U + 1) 0) (cs := [sV s,vp]) ldC rfl (by simp only [Bk,Sto.cells,h8]; rfl) rfl) ?_
    refine O1 (Aw (ad := nx U) (off := 0) (vs := zT) (vs' := [sV s,vp]) (cs := [sV s,vp]) ldC rfl rfl rfl (by simp only [Sto.cells,h20]) rfl) ?_
    refine G ?_;have jr := hlf
    have hap : apT l (.node s ks) = .node s (apL l ks) := by rw [apT,jr]
    refine G ?_
    rw [av_ (by rw [Tt]; exact bk)] at bp
    exact ⟨[.agg [sV s,vp]],Bj (ldC (t := 28)) rfl (by simp only [Sto.cells]; rw [a_,if_pos rfl]) rfl rfl,.agg [sV s,slV eT 2 (apL l ks)],U,as_ hw ⟨by rw [Ac]; omega,fun b hb => by rw [a_,if_neg Om]; exact hg0 b hb⟩,nl,.agg (.cons (.same rfl) (.cons ((bp.mono (by rw [Ac]; exact nl) (fun a tl _ h11 h12 _ => by rw [a_,if_neg Om])).fz eT_len (fun a ha => hw.none Om) (Bi Gh _)) .nil)),by rw [hap,Ep],rfl⟩
 ·have hlf : Jh l s ks = none := if_neg (by rw [h1]; simp)
  refine G6 ?_
  refine O1 (Cn (n := nx U + 1) ziC (Af _ _)) (O1 (Aw (ad := nx U + 1) (off := 0) (vs := zT) (vs' := [sV s,.nil (.slice none 0 0)]) (cs := [sV s,.nil (.slice none 0 0)]) ldC rfl rfl rfl (by simp only [Sto.cells]; rw [ab_,if_pos (by rw [Af])]; rfl) rfl) ?_)
  refine G10 ?_
  refine Bq ks.length (fun i0 => [(2,.pr b 0),(4,.pr (nx U) 0),(7,.pr (nx U + 1) 0),(28,slV eT 2 ks),(29,iV (.ofNat ks.length)),(30,iV (.ofNat i0))]) (fun i0 U0 => ∃ vp,U0.get (nx U + 1) = some (.cells [sV s,vp]) /\ Own U0 (nx U + 2) eT 2 ((apL l ks).take i0) vp /\ U0.get (nx U) = some (.cells zT) /\ (∀ b,b < nx U -> U0.get b = U.get b) /\ nx U + 2 <= nx U0) SL ⟨.nil (.slice none 0 0),by rw [a_,if_pos rfl],.nil,by rw [a_,if_neg Om,ab_,if_neg (by rw [Af]; omega),ab_,if_pos rfl]; rfl,fun b hb => by rw [a_,if_neg Om,ab_,if_neg (by rw [Af]; omega),ab_,if_neg Om],by rw [Ac,Af,Af]; exact nl⟩ ?_
  rintro i0 U0 hi0 ⟨vp,h8,bp,h20,hg0,hn0⟩;refine G5 ?_;refine Ab rfl ?_ ?_ <;> intro h2
  ·have bc : i0 < ks.length := by simpa using h2
   obtain ⟨a0,ha0⟩ := A6 bc;have hd0 := Ay ha0;have hA0 := Ajo (l := l) ha0;obtain ⟨la,ka,he⟩ := Ae2 (apT l a0)
   have bz : (((apL l ks).take i0).length + [apT l a0].length) * (40 + 1) <= sizeLim := by rw [bn_,Tt]; simp [sizeLim]; omega
   obtain ⟨v1,τ1,dw,ho1,hb1,_⟩ := ea_ (by' := 40) (enc := eT) (sz := 2) eT_len hn0 bp [apT l a0] bz
   have dw : Bm U0 2 40 vp 1 (eT (apT l a0)) = some (v1,τ1) := by simpa using dw
   have h8t : τ1.get (nx U + 1) = some (.cells [sV s,vp]) := (hb1.2 _ Om).trans h8;refine G5 ?_;refine O1 (Ax elC eT_len rfl rfl ha0) (O1 (Ad ldC rfl rfl (Ba (eT_len a0) _)) (Dh ziC ldC rfl (fun _ => rfl) rfl (A1 (eT_len a0)) rfl rfl ?_))
   refine G ?_
   refine XX 1 (l := [(61,[.agg (eT a0),.pv [slV eS 3 l],.pr b 0],U0,.agg [sV la,slV eT 2 ka],U0)]) ⟨by rw [← he]; exact ih a0 (ae_ ha0) U0 ((hg0 b hbn).trans hb),trivial⟩ ?_
   refine G ?_
   refine DF (Ad (u := .pr (nx U + 1) 1) (cs := [vp]) ldC rfl (by simp only [Bk,Sto.cells,h8]; rfl) rfl) ?_
   refine DF (Ad (u := .pr b 0) (cs := [.fn (.func 61) [] [.pv [slV eS 3 l],.pr b 0]]) ldC rfl (by simp only [Bk,Sto.cells,hg0 b hbn,hb]; rfl) rfl) ?_
   refine G2 ?_
   refine DF (As elC byW rfl rfl rfl) (DT (A3 elC rfl slC rfl rfl rfl (new := eT (apT l a0)) (by rw [he]; rfl) dw) ?_)
   refine G ?_
   refine DT (Aw (ad := nx U + 1) (off := 1) (vs := [sV s,vp]) (vs' := [sV s,v1]) (cs := [v1]) ldC rfl rfl (K9 ho1) (by simp only [Sto.cells,h8t]) rfl) ?_
   refine G ?_
   refine ⟨(by intro e he; simp at he; rcases he with rfl | rfl <;> exact .refl),?_⟩
   refine G4 ?_
   refine ⟨bc,SL,v1,by rw [a_,if_pos rfl],by rw [B7 hA0]; exact ho1.mono (by rw [Ac]; exact nl) fun a tl _ h11 h12 _ => by rw [a_,if_neg Om],by rw [a_,if_neg Om,hb1.2 _ Om]; exact h20,fun b hb => by rw [a_,if_neg Om,hb1.2 b Om]; exact hg0 b hb,by rw [Ac]; exact ax_ hn0 hb1.1⟩
  ·have bk : ks.length <= i0 := by simpa using h2
   refine G3 ?_
   refine O1 (Ad (u := .pr (nx U + 1) 0) (cs := [sV s,vp]) ldC rfl (by simp only [Bk,Sto.cells,h8]; rfl) rfl) ?_
   refine O1 (Aw (ad := nx U) (off := 0) (vs := zT) (vs' := [sV s,vp]) (cs := [sV s,vp]) ldC rfl rfl rfl (by simp only [Sto.cells,h20]) rfl) ?_
   refine G ?_;have jr := hlf
   have hap : apT l (.node s ks) = .node s (apL l ks) := by rw [apT,jr]
   refine G ?_
   rw [av_ (by rw [Tt]; exact bk)] at bp
   exact ⟨[.agg [sV s,vp]],Bj (ldC (t := 28)) rfl (by simp only [Sto.cells]; rw [a_,if_pos rfl]) rfl rfl,.agg [sV s,slV eT 2 (apL l ks)],U,as_ hw ⟨by rw [Ac]; omega,fun b hb => by rw [a_,if_neg Om]; exact hg0 b hb⟩,nl,.agg (.cons (.same rfl) (.cons ((bp.mono (by rw [Ac]; exact nl) (fun a tl _ h11 h12 _ => by rw [a_,if_neg Om])).fz eT_len (fun a ha => hw.none Om) (Bi Gh _)) .nil)),by rw [hap,Ep],rfl⟩
theorem Ao.wfs {E : Env} {f : Nat} {a : List AV} {U : Sto} {Post : AV -> Sto -> Prop} (h : WFS U -> Ao E f a U Post) : Ao E f a U Post := fun C w vs hs hg ha => h hs.wfs C w vs hs hg ha
theorem f61 (l : List Sb) (b : Nat) (hll : l.length < 1000000) (hl : ∀ x ∈ l,Av x.tree <= 4000) (t : Ah) : ∀ (U : Sto),U.get b = some (.cells [.fn (.func 61) [] [.pv [slV eS 3 l],.pr b 0]]) -> Av t <= 1000000 -> Cv 61 [Ap t,.pv [slV eS 3 l],.pr b 0] U (Ap (apT l t)) := by
 refine Ah.ind' (P := fun t => ∀ (U : Sto),U.get b = some (.cells [.fn (.func 61) [] [.pv [slV eS 3 l],.pr b 0]]) -> Av t <= 1000000 -> Cv 61 [Ap t,.pv [slV eS 3 l],.pr b 0] U (Ap (apT l t))) ?_ t
 intro s ks ih U hb hc;unfold Av at hc;have hlk := Ed ks
 exact Ao.wfs fun hw => f61n l s ks b U hb (hw b _ hb).1 hll hl Om fun k hk τ hτ => ih k hk τ hτ (by have := F9 hk; omega)
theorem f58 (l : List Sb) (U : Sto) : Cv 58 [slV eS 3 l] U (.fn (.func 101) [] [.pv [slV eS 3 l]]) := by
 refine An Tryz.func58 rfl rfl fun hw hu0 => ?_
 refine G11 ?_;refine ⟨_,rfl,.fn (.func 101) [] [.pv [slV eS 3 l]],U,ag_ hw nl (fun _ _ => rfl),nl,.same ?_,rfl,rfl⟩
 show (true && (AV.und _ (.pv [slV eS 3 l]) && true)) = true
 show (true && ((AV.und _ (slV eS 3 l) && true) && true)) = true
 rw [Ka Ae4]; rfl
theorem it101 (L : RF) (l : List Sb) (U : Sto) (S : Nat -> Sto -> Prop) (hb : l.length < 1000000) (h0 : S 0 U)
  (hy : ∀ (k i : Nat) (x : Sb) (U' : Sto),l[i]? = some x -> k + 1 + i = l.length -> nx U <= nx U' -> S k U' -> YTo Ew L [iV (.ofNat i),.agg (eS x)] U' (fun U'' => S (k + 1) U'')) :
  K5 Ew L 101 [.yl L.aY,.pv [slV eS 3 l]] U (S l.length) := by
 refine Ai1 Tryz.func101 rfl rfl rfl fun hw hu0 => ?_
 refine Cd (Ek (Cm ?_));refine G2 ?_
 refine O1 (Ps (p := Int.ofNat l.length) (q := 1) okC rfl rfl (by simp only [ai_]; omega) (by simp only [ai_]; omega)) ?_
 refine G2 ?_;refine Kl ?_
 refine Ug (fun k => [(0,.yl L.aY),(1,.pv [slV eS 3 l]),(3,iV (Int.ofNat l.length - 1 - Int.ofNat k))]) (fun k U0 => k <= l.length /\ S k U0 /\ nx U <= nx U0) (fun k => l.length - k) 0 ⟨rfl,rfl,congrArg (fun x => some (iV x)) (show Int.ofNat l.length - 1 = Int.ofNat l.length - 1 - Int.ofNat 0 by simp),trivial⟩ ⟨bh_ _,h0,nl⟩ ?_
 rintro k U0 ⟨hk0,hS0,hn0⟩;refine Cd (Cd (Ek (Cm ?_)));refine G3 ?_;refine Jf rfl ?_ ?_ <;> intro h1
 ·have hlt : k < l.length := by
   have h1 := h1;simp only [ai_,decide_eq_true_eq,co_,decide_eq_false_iff_not,ge_iff_le,Int.not_lt] at h1;omega
  obtain ⟨i,hi⟩ : ∃ i : Nat,k + 1 + i = l.length := ⟨l.length - k - 1,by omega⟩
  have hI : Int.ofNat l.length - 1 - Int.ofNat k = Int.ofNat i := by simp only [ai_]; omega
  obtain ⟨x,hx⟩ := A6 (l := l) (i := i) Om;rw [hI];refine Je ?_;refine Cd (Kl ?_);refine Cd (K4 ?_);refine D8 noR rfl rfl (Al rfl) ?_;refine D8 noR rfl rfl (Al rfl) ?_;refine D8 noR rfl rfl (Ad ldC rfl rfl rfl) ?_;refine D8 noR rfl rfl (Al rfl) ?_;refine D8 noR rfl rfl (Ax elC eS_len rfl rfl hx) ?_;refine D8 noR rfl rfl (Ad ldC rfl rfl (Ba (eS_len x) _)) ?_;refine Uh (fun tm ht => rfl) rfl rfl rfl rfl (hy k i x U0 hx hi hn0 hS0) fun U1 hS1 hn1 => ?_
  refine D8 noR rfl rfl (F4 rfl) ?_;refine P0 ?_
  refine Jf rfl (fun h2 => by cases h2) (fun h2 => ?_)
  refine Je ?_;refine Ek (Cm ?_);refine G ?_
  refine O1 (Ps (p := Int.ofNat i) (q := 1) okC rfl rfl (by simp only [ai_]; omega) (by simp only [ai_]; omega)) ?_
  refine G2 ?_
  exact ⟨k + 1,by omega,⟨rfl,rfl,congrArg (fun x => some (iV x)) (show Int.ofNat i - 1 = Int.ofNat l.length - 1 - Int.ofNat (k + 1) by simp only [ai_]; omega),trivial⟩,hlt,hS1,ax_ hn0 hn1⟩
 ·have hge : l.length <= k := by
   have h1 := h1;simp only [ai_,decide_eq_false_iff_not,decide_eq_true_eq,ec_,ge_iff_le] at h1;omega
  refine Z0 ?_
  have hkl : k = l.length := by omega
  subst hkl;exact hS0
structure ApS (U : Sto) (l : List Sb) (k : Nat) (τ : Sto) : Prop where
 m : Bf szV τ (nx U + 3) (Hn (l.drop (l.length - k)))
 c : τ.get (nx U + 4) = some (.cells [.mp (nx U + 3)])
 t : τ.get (nx U + 1) = some (.cells zT)
 e : τ.get (nx U + 2) = some (.cells [iV 0])
 lo : ∀ b,b < nx U -> τ.get b = U.get b
 rd : τ.get (nx U + 6) = some (.loop .ready)
 n : nx U + 7 <= nx τ
theorem f13 (t : Ah) (l : List Sb) (U : Sto) (hc : Av t <= 10000) (hll : l.length < 1000000) (hl : ∀ x ∈ l,Av x.tree <= 4000) (ha : Av (apT l t) <= 4000) (hd : dpT (apT l t) 1 <= 100) : Cv 13 [Ap t,slV eS 3 l] U (.tup [Ap (apT l t),iV 0]) := by
 refine Aos Tryz.func13 rfl rfl rfl rfl fun hw hu0 => ?_
 refine G3 ?_;refine O1 (Cn (n := nx U + 1) ziC (A8 U)) (O1 (Cn (n := nx U + 2) ziC (nx1 (A8 U))) ?_);refine G ?_;refine ⟨_,_,_,nx U + 2,0,rfl,rfl,rfl,?_⟩;refine Aq5 ?_;refine G ?_
 refine O1 (Bp (n := nx U + 3) Aou (nx1 (nx1 (A8 U)))) (O1 (Cn (n := nx U + 4) ziC (nx1 (nx1 (nx1 (A8 U))))) (O1 (Aw (ad := nx U + 4) (off := 0) (vs := [.nil (.map none)]) (vs' := [.mp (nx U + 3)]) (cs := [.mp (nx U + 3)]) ldC rfl rfl rfl (by simp only [Sto.cells]; rw [ab_,if_pos (nx1 (nx1 (nx1 (A8 U)))).symm]) rfl) ?_))
 refine G ?_;refine Ai5 ?_;refine G2 ?_;refine Ag rfl rfl rfl rfl (f58 l _) ?_;refine G ?_;obtain ⟨SR,hSR⟩ : ∃ s,s = (((((U.bump.new (.cells [.str [],.nil (.slice none 0 0)])).new (.cells [.int .i64 0])).new (.map 9 [] 0)).new (.cells [.nil (.map none)])).set (nx U + 4) (.cells [.mp (nx U + 3)])) := ⟨_,rfl⟩;rw [← hSR];have e1 := A8 U;have e2 := nx1 (o := .cells [.str [],.nil (.slice none 0 0)]) e1;have e3 := nx1 (o := .cells [.int .i64 0]) e2;have e4 := nx1 (o := .map 9 [] 0) e3;have e5 := nx1 (o := .cells [.nil (.map none)]) e4
 have ik : nx SR = nx U + 5 := by rw [hSR,Ac,e5]
 have hg4 : SR.get (nx U + 4) = some (.cells [.mp (nx U + 3)]) := by rw [hSR,a_,if_pos rfl]
 have hg3 : SR.get (nx U + 3) = some (.map 9 [] 0) := by rw [hSR,a_,if_neg Om,ab_,if_neg (by rw [e4]; omega),ab_,if_pos e3.symm]
 have hg1 : SR.get (nx U + 1) = some (.cells zT) := by rw [hSR,a_,if_neg Om,ab_,if_neg (by rw [e4]; omega),ab_,if_neg (by rw [e3]; omega),ab_,if_neg (by rw [e2]; omega),ab_,if_pos e1.symm]; rfl
 have hg2 : SR.get (nx U + 2) = some (.cells [iV 0]) := by rw [hSR,a_,if_neg Om,ab_,if_neg (by rw [e4]; omega),ab_,if_neg (by rw [e3]; omega),ab_,if_pos e2.symm]; rfl
 have hg0 : ∀ b,b < nx U -> SR.get b = U.get b := fun b hb => by rw [hSR,a_,if_neg Om,ab_,if_neg (by rw [e4]; omega),ab_,if_neg (by rw [e3]; omega),ab_,if_neg (by rw [e2]; omega),ab_,if_neg (by rw [e1]; omega),Cy]
 clear hSR e2 e3 e4 e5;refine ⟨101,[.pv [slV eS 3 l]],_,fun U' => ApS U l l.length U',rfl,Tryz.func101,Oh _ _ Tryz.func101,rfl,fun tm ht => ?_,fun U' aD hS hn => ?_⟩
 ·rw [ik]
  have hsn : nx (SR.bump.new (.loop .ready)) = nx U + 7 := by rw [Af,A8,ik]
  have hsb : nx SR.bump = nx U + 6 := by rw [A8,ik]
  refine gm_ (it101 _ l _ (fun k U' => ApS U l k U') hll ?_ ?_) fun U' hS => ⟨hS.rd,hS⟩
  ·have cx : ∀ b,b < nx U + 6 -> (SR.bump.new (.loop .ready)).get b = SR.get b := fun b hb => by rw [ab_,if_neg (by rw [hsb]; omega),Cy]
   refine ⟨?_,(cx _ Om).trans hg4,(cx _ Om).trans hg1,(cx _ Om).trans hg2,fun b hb => (cx b Om).trans (hg0 b hb),by rw [ab_,if_pos hsb.symm],by rw [hsn]; exact nl⟩
   rw [ed_,eq_];exact ⟨0,(cx _ Om).trans hg3⟩
  ·intro k i x U' hx hki hn' hS;have hxm := ae_ hx;have hnU' := hS.n
   refine Aiz (JL := _) ht rfl rfl hS.rd (by show nx U + 6 < nx U'; omega) ?_
   refine Fc Kr ?_;refine Dh ziC ldC rfl (fun _ => rfl) rfl (A1 (eS_len x)) rfl rfl ?_
   refine G ?_;refine ⟨hS.rd,?_⟩
   have hB : ∀ b,b ≠ nx U + 6 -> (U'.set (nx U + 6) (.loop .busy)).get b = U'.get b := fun b hb => by rw [a_,if_neg hb]
   have hmB : Bf szV (U'.set (nx U + 6) (.loop .busy)) (nx U + 3) (Hn (l.drop (l.length - k))) := hS.m.of_get (hB _ Om);obtain ⟨vm,hvm⟩ := id hmB;refine Uf (Aep (Fc Kr ?_));refine G ?_
   refine O1 (Ad (v := Ap x.tree) ldC rfl rfl (Bt (eT_len x.tree))) (Ag rfl rfl rfl rfl (f59 x.tree _ 1 (by have := hl x hxm; omega) (hl x hxm)) ?_)
   refine G6 ?_;refine Fc Kr ?_
   refine O1 (Ad (u := .pr (nx U + 4) 0) (cs := [.mp (nx U + 3)]) ldC rfl (by simp only [Bk,Sto.cells]; rw [hB _ Om,hS.c]; rfl) rfl) ?_
   refine G ?_;refine O1 (Ad (v := sV x.label) ldC rfl rfl rfl) ?_;refine G2 ?_;refine O1 (Jd (z := [.int .i64 0,.int .i64 0]) Kr Jt rfl rfl) ?_;refine O1 (Fl (v := szP x.tree) (enc := szV) st9 Aou rfl hvm rfl rfl (fun te k1 k2 => F8 k1 k2 rfl)) ?_
   refine G ?_
   have hdr : Hn (l.drop (l.length - (k + 1))) = (Hn (l.drop (l.length - k))).put x.label (szP x.tree) := by
    rw [show l.length - (k + 1) = i by omega,Ay hx,show i + 1 = l.length - k by omega]; rfl
   refine ⟨by rw [a_,if_neg (by show ¬ nx U + 6 = nx U + 3; omega),a_,if_pos rfl],?_,?_,?_,?_,fun b hb => ?_,by rw [a_,if_pos rfl],by rw [Ac,Ac,Ac]; exact hnU'⟩
   ·rw [hdr]
    exact gv_ ds_ (by show nx U + 3 ≠ nx U + 6; omega)
   ·rw [a_,if_neg (by show ¬ nx U + 4 = nx U + 6; omega),a_,if_neg Om,hB _ Om]; exact hS.c
   ·rw [a_,if_neg (by show ¬ nx U + 1 = nx U + 6; omega),a_,if_neg Om,hB _ Om]; exact hS.t
   ·rw [a_,if_neg (by show ¬ nx U + 2 = nx U + 6; omega),a_,if_neg Om,hB _ Om]; exact hS.e
   ·rw [a_,if_neg (by show ¬ b = nx U + 6; omega),a_,if_neg Om,hB _ Om]; exact hS.lo b hb
 ·obtain ⟨K,hK⟩ : ∃ K,K = U'.kill (nx SR + 1) := ⟨_,rfl⟩;rw [← hK]
  have hKg : ∀ b,b ≠ nx U + 6 -> K.get b = U'.get b := fun b hb => by rw [hK,ik,cp_,if_neg hb]
  obtain ⟨B1,hB1⟩ : ∃ B1,nx K = B1 := ⟨_,rfl⟩
  have hB1n : nx U + 7 <= B1 := by rw [← hB1,hK,Bn]; exact hS.n
  have hm0 : Bf szV K (nx U + 3) (Hn l) := by
   have := hS.m;rw [Nat.sub_self,du_] at this;exact this.of_get (hKg _ Om)
  have hc0 : K.get (nx U + 4) = some (.cells [.mp (nx U + 3)]) := (hKg _ Om).trans hS.c;have ht0 : K.get (nx U + 1) = some (.cells zT) := (hKg _ Om).trans hS.t;have he0 : K.get (nx U + 2) = some (.cells [iV 0]) := (hKg _ Om).trans hS.e;have js : ∀ b,b < nx U -> K.get b = U.get b := fun b hb => (hKg b Om).trans (hS.lo b hb)
  clear hK
  -- measure
  refine G2 ?_;refine O1 (Cn (n := B1) ziC hB1) ?_;refine G4 ?_
  refine O1 (Aw (ad := B1) (off := 0) (vs := [.nil .nilFunc]) (vs' := [.fn (.func 60) [] [.pr (nx U + 4) 0,.pr B1 0]]) (cs := [.fn (.func 60) [] [.pr (nx U + 4) 0,.pr B1 0]]) ldC rfl rfl rfl (by simp only [Sto.cells]; rw [ab_,if_pos hB1.symm]) rfl) ?_
  refine G ?_;obtain ⟨K1,hK1⟩ : ∃ s,s = ((K.new (.cells [.nil .nilFunc])).set B1 (.cells [.fn (.func 60) [] [.pr (nx U + 4) 0,.pr B1 0]])) := ⟨_,rfl⟩;rw [← hK1]
  have hn1 : nx K1 = B1 + 1 := by rw [hK1,Ac,Af,hB1]
  have hk1 : ∀ b,b < B1 -> K1.get b = K.get b := fun b hb => by rw [hK1,a_,if_neg Om,ab_,if_neg (by rw [hB1]; omega)]
  have hf1 : K1.get B1 = some (.cells [.fn (.func 60) [] [.pr (nx U + 4) 0,.pr B1 0]]) := by rw [hK1,a_,if_pos rfl]
  clear hK1;refine G2 ?_
  refine O1 (Ad (u := .pr B1 0) (cs := [.fn (.func 60) [] [.pr (nx U + 4) 0,.pr B1 0]]) ldC rfl (by simp only [Bk,Sto.cells,hf1]; rfl) rfl) ?_
  refine G ?_;refine Ag rfl rfl rfl rfl (f60 l (nx U + 4) B1 (nx U + 3) K1 ((hk1 _ Om).trans hc0) hf1 (hm0.of_get (hk1 _ Om)) hl t 1 Om ha) ?_;refine G12 ?_;refine Ab rfl ?_ ?_ <;> intro h1
  ·exact absurd h1 (by simp only [ai_,decide_eq_true_eq]; omega)
  refine G7 ?_;refine Ab rfl ?_ ?_ <;> intro h2
  ·exact absurd h2 (by simp only [ai_,decide_eq_true_eq]; omega)
  refine G ?_
  -- apply
  refine G2 ?_;refine O1 (Cn (n := B1 + 1) ziC hn1) ?_;refine G4 ?_
  refine O1 (Aw (ad := B1 + 1) (off := 0) (vs := [.nil .nilFunc]) (vs' := [.fn (.func 61) [] [.pv [slV eS 3 l],.pr (B1 + 1) 0]]) (cs := [.fn (.func 61) [] [.pv [slV eS 3 l],.pr (B1 + 1) 0]]) ldC rfl rfl rfl (by simp only [Sto.cells]; rw [ab_,if_pos hn1.symm]) rfl) ?_
  refine G ?_;obtain ⟨K2,hK2⟩ : ∃ s,s = ((K1.new (.cells [.nil .nilFunc])).set (B1 + 1) (.cells [.fn (.func 61) [] [.pv [slV eS 3 l],.pr (B1 + 1) 0]])) := ⟨_,rfl⟩;rw [← hK2]
  have hn2 : nx K2 = B1 + 2 := by rw [hK2,Ac,Af,hn1]
  have hk2 : ∀ b,b < B1 -> K2.get b = K.get b := fun b hb => by rw [hK2,a_,if_neg Om,ab_,if_neg (by rw [hn1]; omega)]; exact hk1 b hb
  have hf2 : K2.get (B1 + 1) = some (.cells [.fn (.func 61) [] [.pv [slV eS 3 l],.pr (B1 + 1) 0]]) := by rw [hK2,a_,if_pos rfl]
  clear hK2;refine G2 ?_
  refine O1 (Ad (u := .pr (B1 + 1) 0) (cs := [.fn (.func 61) [] [.pv [slV eS 3 l],.pr (B1 + 1) 0]]) ldC rfl (by simp only [Bk,Sto.cells,hf2]; rfl) rfl) ?_
  refine G ?_;refine Ag rfl rfl rfl rfl (f61 l (B1 + 1) hll hl t K2 hf2 Om) ?_
  refine O1 (Aw (ad := nx U + 1) (off := 0) (vs := zT) (vs' := eT (apT l t)) (cs := eT (apT l t)) ldC rfl rfl (A1 (eT_len _)) (by simp only [Sto.cells,hk2 _ (show nx U + 1 < B1 by omega),ht0]) (Fj (eT_len _))) ?_
  refine O1 (Aw (ad := nx U + 2) (off := 0) (vs := [iV 0]) (vs' := [iV 0]) (cs := [iV 0]) ldC rfl rfl rfl (by simp only [Sto.cells]; rw [a_,if_neg Om,hk2 _ Om,he0]) rfl) ?_
  refine G2 ?_
  exact ⟨[Ap (apT l t),iV 0],Bj (vs := eT (apT l t)) (ldC (t := 28)) rfl (by simp only [Sto.cells]; rw [a_,if_neg Om,a_,if_pos rfl]) (Bt (eT_len _)) (Bj (vs := [iV 0]) (ldC (t := 33)) rfl (by simp only [Sto.cells]; rw [a_,if_pos rfl]) rfl rfl),.tup [Ap (apT l t),iV 0],U,
   as_ hw ⟨by rw [Ac,Ac,hn2]; omega,fun b hb => by rw [a_,if_neg Om,a_,if_neg Om,hk2 b Om]; exact js b hb⟩,nl,.same (by show (AV.und _ (Ap (apT l t)) && (true && true)) = true; rw [Zs]; rfl),rfl,rfl⟩
mutual
theorem Apr : ∀ (a b : Ah),eqT a b = true -> a = b
 | .node l ks,.node lt kt,h => by
  rw [eqT] at h;simp only [af_,decide_eq_true_eq,Bool.not_not] at h;obtain ⟨h1,h2,h3⟩ := h;rw [h1,Ali ks kt (di_ h2) h3]
theorem Ali : ∀ (l m : List Ah),l.length = m.length -> Z6 l m = true -> l = m
 | [],[],_,_ => rfl
 | [],_ :: _,h,_ => by cases h
 | _ :: _,[],h,_ => by cases h
 | a :: r,b :: s,h,h2 => by
  rw [Z6] at h2;simp only [af_] at h2
  rw [Apr a b h2.1,Ali r s (by simpa using h) h2.2]
end
mutual
theorem Ahj : ∀ (a : Ah),eqT a a = true
 | .node l ks => by rw [eqT,Adk ks]; simp
theorem Adk : ∀ (l : List Ah),Z6 l l = true
 | [] => by rw [Z6]
 | a :: r => by rw [Z6,Ahj a,Adk r]; rfl
end
theorem findS_mem : ∀ {l : List Sb} {s : Str} {u : Ah},Dv l s = some u -> ∃ x ∈ l,x.label = s /\ x.tree = u
 | a :: r,s,u,h => by
  unfold Dv at h
  split at h
  ·rename_i h1; cases h; exact ⟨a,ar_ ..,h1,rfl⟩
  ·obtain ⟨x,h2,h3⟩ := findS_mem h; exact ⟨x,ak_ _ h2,h3⟩
section
variable {g : Gr} {m : SM Rl}
end
theorem Aps {d : Db} (h : Ai9 d 20 100 = true) : DbS d := by
 unfold Ai9 at h;simp only [af_,decide_eq_true_eq,ai_,co_] at h;obtain ⟨⟨⟨h1,h2⟩,h3⟩,h4⟩ := h
 refine ⟨⟨fun f hf => ?_,by omega,by omega,by omega⟩,by omega⟩
 have hf := em_.1 h4 f hf;simp only [bigF,ce_,decide_eq_true_eq,ai_,fo_,not_or,not_exists,not_and] at hf;obtain ⟨⟨⟨⟨⟨⟨⟨⟨k1,k2⟩,k3⟩,k4⟩,k5⟩,k6⟩,k7⟩,k8⟩,k9⟩ := hf
 refine ⟨by omega,by unfold Fr.all; simp; omega,by omega,fun h hh => ?_,by omega,by omega⟩
 have : Z4 h = false := by
  rcases b_.1 (show h ∈ f.hyps ++ f.dummies by simpa [Fr.all] using hh) with hh | hh
  ·have := k7 h hh; simpa using this
  ·have := k8 h hh; simpa using this
 unfold Z4 at this;simp only [decide_eq_false_iff_not,ai_] at this;omega
end Go.AM
