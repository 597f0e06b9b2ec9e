/- A part of the proof; shortened by program. -/
import Derived.Test.YtadnlmhnjfmleaaGreatDoorP19
set_option maxRecDepth 100000
set_option maxHeartbeats 4000000
set_option linter.unusedSimpArgs false
set_option linter.unusedVariables false
namespace Go.AM
open Go Go.Proofs
abbrev e1 (s : Str) : List AV := [sV s]
def Ne (s : Str) : List Str := [[120],[36,112],[120],[36,61],s,[36,46]]
def Afg (s : Str) : Stm := ⟨7,[120],[[120]],[s]⟩
theorem Lf {N : Nat} (s : Str) : AV.unds N (e1 s) = true := rfl
theorem f204 (s : Str) (J : Sto) : Cv 204 [sV s] J (.bool (Ef s)) := by
 refine Ak Tryz.func204 rfl rfl fun hw hu0 => ?_
 refine G8 ?_;refine O1 (Sb (q := [40]) okC rfl rfl) ?_;refine G ?_;refine TOr 2 ?_ (fun hg => ?_) ?_
 rotate_left
 ·refine Gn hg ?_;refine On hg (Sb (q := [41]) okC rfl rfl) ?_;exact Ez
 refine G ?_;refine Ab rfl ?_ ?_ <;> intro h1
 ·refine G5 ?_;refine A2 hw rfl ?_
  exact congrArg AV.bool (by unfold Ef; rw [show (decide (s = [40]) || decide (s = [41])) = true from h1]; rfl)
 ·refine G4 ?_;refine O1 (Lr (q := []) okC rfl rfl) ?_;refine G ?_;refine TAn 3 ?_ (fun hg => ?_) ?_
  rotate_left
  ·refine Gn hg ?_
   refine Bg rfl rfl rfl (by rw [hg]; rfl) rfl rfl rfl rfl (f207 s _) ?_
   refine Gn hg ?_;exact Ez
  refine G3 ?_;refine A2 hw rfl ?_
  exact congrArg AV.bool (by unfold Ef; rw [show (decide (s = [40]) || decide (s = [41])) = false from h1]; rfl)
theorem f191 (s : Str) (J : Sto) : Cv 191 [.agg (stX s)] J (Aj (Ne s)) := by
 refine Ak Tryz.func191 rfl rfl fun hw hu0 => ?_
 refine G9 ?_
 refine O1 (I0 Asg rfl rfl (by decide) (n := 7) rfl) ?_
 iterate 13 refine G ?_
 refine Ab rfl ?_ ?_ <;> intro h1
 ·obtain ⟨v1,τ1,ha1,ho1,hb1,_⟩ := ed_ (by' := 16) (enc := e1) (fun _ => rfl) (Nat.le_refl (nx J)) (Own.nil (sz := 1)) [[120]] (by simp [sizeLim])
  have hB1 := hb1
  obtain ⟨v2,τ2,ha2,ho2,hb2,_⟩ := ed_ (by' := 16) (enc := e1) (fun _ => rfl) hB1.1 ho1 [[36,112]] (by simp [sizeLim])
  have hB2 := hB1.trans hb2
  obtain ⟨v3,τ3,ha3,ho3,hb3,_⟩ := ed_ (by' := 16) (enc := e1) (fun _ => rfl) hB2.1 ho2 [[120]] (by simp [sizeLim])
  have hB3 := hB2.trans hb3
  obtain ⟨v4,τ4,ha4,ho4,hb4,_⟩ := ed_ (by' := 16) (enc := e1) (fun _ => rfl) hB3.1 ho3 [[36,61]] (by simp [sizeLim])
  have hB4 := hB3.trans hb4
  obtain ⟨v5,τ5,ha5,ho5,hb5,_⟩ := ed_ (by' := 16) (enc := e1) (fun _ => rfl) hB4.1 ho4 [s] (by simp [sizeLim])
  have hB5 := hB4.trans hb5
  obtain ⟨v6,τ6,ha6,ho6,hb6,_⟩ := ed_ (by' := 16) (enc := e1) (fun _ => rfl) hB5.1 ho5 [[36,46]] (by simp [sizeLim])
  have hB6 := hB5.trans hb6;refine G4 ?_;refine Dz (Ay elC byW rfl rfl rfl) (Fk (len := 1)) rfl rfl (O1 (A1 elC rfl slC rfl rfl rfl (new := e1 [120]) rfl ha1) ?_);refine G3 ?_;refine Aje (Rr := Eq []) (anns := [⟨.pure,0,0⟩,⟨.pure,0,0⟩,⟨.read,0,0⟩,⟨.pure,0,0⟩,⟨.eff,0,1⟩,⟨.pure,0,1⟩,⟨.read,0,1⟩,⟨.eff,1,2⟩,⟨.pure,2,2⟩]) Cu (Fv trivial) Kr ?_;refine G3 ?_;refine DF (Ay elC byW rfl rfl rfl) (DT (A1 elC rfl slC rfl rfl rfl (new := e1 [36,112]) rfl ha2) ?_);refine G2 ?_;refine DT (A1 elC rfl slC rfl rfl rfl (new := [[120]].flatMap e1) (Uc (enc := e1) (sz := 1) (fun _ => rfl) _ _) ha3) ?_
  refine G2 ?_;refine ⟨⟨trivial,trivial,fun τ _ => ⟨τ,Ah (ldC (t := 9)) rfl rfl rfl⟩,trivial,trivial,trivial,fun τ _ => ⟨τ,Ah (ldC (t := 22)) rfl rfl rfl⟩,trivial,trivial,trivial⟩,?_⟩
  refine G7 ?_;refine Ab rfl ?_ ?_ <;> intro h2
  ·refine Aje (Rr := Eq []) (anns := [⟨.pure,0,0⟩,⟨.pure,0,0⟩,⟨.eff,0,1⟩,⟨.pure,0,1⟩,⟨.read,0,1⟩,⟨.eff,1,2⟩,⟨.pure,2,2⟩]) Cu (Fv trivial) Kr ?_;refine G ?_;refine DF (Ay elC byW rfl rfl rfl) (DT (A1 elC rfl slC rfl rfl rfl (new := e1 [36,61]) rfl ha4) ?_);refine G2 ?_;refine DT (A1 elC rfl slC rfl rfl rfl (new := [s].flatMap e1) (Uc (enc := e1) (sz := 1) (fun _ => rfl) _ _) ha5) ?_
   refine G2 ?_;refine ⟨⟨trivial,trivial,trivial,trivial,fun τ _ => ⟨τ,Ah (ldC (t := 22)) rfl rfl rfl⟩,trivial,trivial,trivial⟩,?_⟩
   refine G7 ?_;refine Ab rfl ?_ ?_ <;> intro h3
   ·refine G2 ?_;refine Dz (Ay elC byW rfl rfl rfl) (Fk (len := 1)) rfl rfl (O1 (A1 elC rfl slC rfl rfl rfl (new := e1 [36,46]) rfl ha6) ?_);refine G8 ?_;exact ⟨_,rfl,Aj (Ne s),J,as_ hw hB6,nl,ho6.fz (fun _ => rfl) (fun a ha => hw.none ha) (Br Lf _),rfl,rfl⟩
   ·exact absurd h3 (by decide)
  ·exact absurd h2 (by decide)
 ·exact absurd h1 (by decide)
def outX (s : Str) : Nat -> List Str
 | 0 => []
 | _ + 1 => Ne s
def Atg (s : Str) (b : Bool) : AV := if b = true then Aj (Ne s) else .nil (.slice none 0 0)
theorem f170 (s : Str) (J : Sto) : Cv 170 [slV eSt 4 [Afg s]] J (.tup [Atg s (Ef s),iV (if Ef s = true then 0 else 2)]) := by
 refine Ak Tryz.func170 rfl rfl fun hw hu0 => ?_
 refine G12 ?_;refine Ab rfl ?_ ?_ <;> intro h1
 ·exact absurd h1 (by simp)
 ·refine G5 ?_
  refine Af rfl rfl rfl rfl (f188 (fun _ => !Ef s) [Afg s] 189 [] J (by simp) (fun a ha => by simp at ha; subst ha; exact f189 s (Ef s) J (f204 s J))) ?_
  refine G ?_;refine Ab rfl ?_ ?_ <;> intro h2
  ·refine G6 ?_;refine A2 hw rfl ?_
   exact (by rw [show Ef s = false from by simpa using h2]; rfl)
  ·iterate 13 refine G ?_
   refine Dt (fun q : Nat × AV => [(4,q.2),(12,slV eSt 4 [Afg s]),(13,iV (.ofNat [Afg s].length)),(14,iV (.ofNat q.1))]) (fun q J0 => q.1 <= [Afg s].length /\ Own J0 (nx J) e1 1 (outX s q.1) q.2 /\ Below (nx J) J J0) (fun q => [Afg s].length - q.1) (0,.nil (.slice none 0 0)) SL ⟨ca_ _,.nil,.rfl'⟩ ?_
   rintro ⟨i0,v0⟩ J0 hP0;obtain ⟨hi0,cp,cy⟩ : i0 <= [Afg s].length /\ Own J0 (nx J) e1 1 (outX s i0) v0 /\ Below (nx J) J J0 := hP0;refine G5 ?_;refine Ab rfl ?_ ?_ <;> intro h3
   ·have h3n := of_decide_eq_true h3
    have jq : i0 = 0 := by simp at h3n; omega
    subst jq
    have bc : 0 < 1 := by omega
    have ha0 : [Afg s][0]? = some (Afg s) := rfl
    obtain ⟨v1,τ1,ha1,ho1,hb1,_⟩ := ed_ (by' := 16) (enc := e1) (fun _ => rfl) cy.1 cp (Ne s) (by simp [sizeLim,outX,Ne])
    iterate 13 refine G ?_
    refine Af rfl rfl rfl rfl (f191 s _) (O1 (A1 elC rfl slC rfl rfl rfl (new := (Ne s).flatMap e1) (Uc (enc := e1) (sz := 1) (fun _ => rfl) _ _) ha1) ?_)
    refine G5 ?_;refine O1 (Em slC rfl ho1.lenA.1 ho1.lenA.2) ?_;refine G2 ?_;refine Ab rfl ?_ ?_ <;> intro h4
    ·exact absurd h4 (by simp [outX,Ne])
    ·refine G5 ?_
     refine ⟨(0 + 1,v1),by show 1 - 1 < 1 - 0; omega,SL,bc,ho1,cy.trans hb1⟩
   ·have h3n := of_decide_eq_false h3
    have ox : i0 = 1 := by have : i0 <= 1 := hi0; simp at h3n; omega
    subst ox;refine G7 ?_
    have hp : Ef s = true := by simpa using h2
    refine G ?_
    exact ⟨_,rfl,.tup [Aj (Ne s),iV 0],J,as_ hw cy,nl,.tup (.cons (cp.fz (fun _ => rfl) (fun a ha => hw.none ha) (Br Lf _)) (.cons (.same rfl) .nil)),by rw [hp]; rfl,rfl⟩
theorem f138 (s : Str) (J : Sto) : Cv 138 [sV s] J (.bool (Ef s)) := by
 refine Ak Tryz.func138 rfl rfl fun hw hu0 => ?_
 refine G6 ?_;refine Dz (Ay elC byW rfl rfl rfl) (Fk (len := 1)) rfl rfl ?_;refine G ?_;refine Dz (Ay elC byW rfl rfl rfl) (Fk (len := 1)) rfl rfl ?_;refine G ?_;refine Dz (Ay elC byW rfl rfl rfl) (Fk (len := 1)) rfl rfl (Af rfl rfl rfl rfl (f170 s _) ?_)
 iterate 13 refine G ?_
 refine A2 hw rfl ?_
 exact (by cases Ef s <;> rfl)
theorem f137 (s : Str) (J : Sto) : Cv 137 [sV s] J (.bool (!Ef s)) := by
 refine Ak Tryz.func137 rfl rfl fun hw hu0 => ?_
 refine G7 ?_;refine Af rfl rfl rfl rfl (f138 s _) ?_;refine G4 ?_;refine A2 hw rfl ?_;exact rfl
theorem F4 {ρ : Ad} {J : Sto} {Rr : Rec} {t r sz : Nat} {x y : Operand} {agg : Bool} {z : AV} {α : Type} {enc : α -> AV} {m : SM α} {s : Str} {v : α} (h9 : Fb Ew.P 9 = true) (hi : mpI Ew.P t = some (9,z,sz,agg)) (hx : Ai Ew ρ x = some (.mp r)) (hm : A8 enc J r m) (hy : Ai Ew ρ y = some (sV s)) (hg : m.get s = some v) :
  A0 Ew Rr (.lookup t x y false) ρ J (enc v) J := by
 have := Ae6 (Rr := Rr) h9 hi hx hm hy
 rwa [hg] at this
theorem Apd {ρ : Ad} {J : Sto} {Rr : Rec} {t r sz : Nat} {x y : Operand} {agg : Bool} {z : AV} {α : Type} {enc : α -> AV} {m : SM α} {s : Str} (h9 : Fb Ew.P 9 = true) (hi : mpI Ew.P t = some (9,z,sz,agg)) (hx : Ai Ew ρ x = some (.mp r)) (hm : A8 enc J r m) (hy : Ai Ew ρ y = some (sV s)) (hg : m.get s = none) :
  A0 Ew Rr (.lookup t x y false) ρ J z J := by
 have := Ae6 (Rr := Rr) h9 hi hx hm hy
 rwa [hg] at this
theorem Ape {ρ : Ad} {J : Sto} {Rr : Rec} {x : Operand} {hi : Option Operand} {l : List Hp} {n : Nat} (hx : Ai Ew ρ x = some (slV eH 3 l)) (h2 : Iy Ew ρ hi = some (some (iV (.ofNat n)))) (hn : n <= l.length) :
  A0 Ew Rr (.slice 58 x none hi none) ρ J (slV eH 3 (l.take n)) J := by
 have hb : C1 l.length none none (some (iV (.ofNat n))) none = some (0,n,none) := by
  have h3 : Nat.ble n l.length = true := bd_ hn;have h4 : Nat.ble 0 n = true := rfl;simp only [C1,iV,Lj,h3,h4,Ow,cond_true,cy_,Ox]
 have := Ajd (Rr := Rr) (J := J) (lo := none) (hi := hi) (mx := none) (elC (t := 58)) Pp hx rfl h2 rfl hb (ca_ _) hn;rw [eu_,fa_] at this
 rwa [show slV eH 3 (l.take n) = .sv ((l.take n).flatMap eH) 3 n none by unfold slV; rw [b_,dt_ hn]]
theorem Ahj : ∀ {l m : List Str},l.flatMap (fun s => [sV s]) = m.flatMap (fun s => [sV s]) -> l = m
 | [],[],_ => rfl
 | [],_ :: _,h => by simp at h
 | _ :: _,[],h => by simp at h
 | a :: l,b :: m,h => by
  simp only [ch_,av_,bt_,de_] at h
  have h1 : a = b := by have := h.1; unfold sV at this; injection this with this; exact Ev.1 this
  rw [h1,Ahj h.2]
theorem Apf : ∀ {l m : List Hp},l.flatMap eH = m.flatMap eH -> l = m
 | [],[],_ => rfl
 | [],b :: _,h => by simp [eH] at h
 | a :: _,[],h => by simp [eH] at h
 | a :: l,b :: m,h => by
  simp only [ch_,eH,av_,bt_,de_] at h;obtain ⟨h1,h2,h3,h4⟩ := h
  have e1 : a.label = b.label := by unfold sV at h1; injection h1 with h1; exact Ev.1 h1
  have e2 : a.floating = b.floating := by injection h2
  have e3 : a.text = b.text := by simp only [Aj,slV,AV.sv.injEq] at h3; exact Ahj h3.1
  rw [Apf h4];cases a; cases b; simp only at e1 e2 e3; subst e1 e2 e3; rfl
theorem Arr {l m : List Hp} (h : slV eH 3 l = slV eH 3 m) : l = m := by unfold slV at h; injection h with h; exact Apf h
theorem Apg {f : Nat} {a a' : List AV} {s : Sto} {v v' : AV} {r : List (Nat × List AV × Sto × AV × Sto)} (h : a' = a -> v = v') : Eq ((f,a,s,v,s) :: (f,a',s,v',s) :: r) (.fn f) a' s = some (v',s) := by
 by_cases e : a' = a
 ·unfold Eq; rw [if_pos ⟨rfl,e,rfl⟩,h e]
 ·unfold Eq; rw [if_neg (fun hh => e hh.2.1)]; unfold Eq; rw [if_pos ⟨rfl,rfl,rfl⟩]
def Nf (d : Db) : AV := .tup [slV eH 3 ((Ee d).getD []),.bool (Ee d).isSome]
theorem Ps {d : Db} (hne : d.frames.length ≠ 0) (h : Nc d d.frames 0 ([],[]) = none) : Ee d = none := by unfold Ee; rw [if_neg hne,h]
theorem Adb {α : Type} {f : α -> Bool} : ∀ {l : List α} {p : α × List α},p ∈ Fm l -> l.all f = (f p.1 && p.2.all f)
 | [],p,h => by simp [Fm] at h
 | x :: m,p,h => by
  simp only [Fm,ai_,cf_] at h
  rcases h with rfl | ⟨q,hq,rfl⟩
  ·rfl
  ·simp only [dg_,Adb hq];cases f x <;> cases f q.1 <;> rfl
theorem Ya {l : List Hp} {h : Hp} (hm : h ∈ flo l) : h ∈ l /\ h.floating = true := by
 have := cx_.1 hm
 exact ⟨this.1,by have h2 := this.2; simpa [Uk] using h2⟩
theorem f105 (h : Hp) (J : Sto) : Cv 105 [.agg (eH h)] J (.bool h.floating) := by
 refine Ak Tryz.func105 rfl rfl fun hw hu0 => ?_
 refine G12 ?_;refine A2 hw rfl ?_;exact rfl
theorem f78 (d : Db) (J : Sto) (hB : DbB d) (hfl : ∀ f ∈ d.frames,∀ h ∈ f.all,h.floating = true -> ∃ a b,h.text = [a,b]) (jv : d.frames.length ≠ 0 -> ∀ s,Nc d d.frames 0 ([],[]) = some s -> ∀ v ∈ d.vars,(s.1.get v).isSome = true) : Cv 78 [dbV d] J (Nf d) := by
 refine Ak Tryz.func78 rfl rfl fun hw hu0 => ?_
 refine G6 ?_;refine Aq5 ?_;refine G8 ?_;refine Ab rfl ?_ ?_ <;> intro h1
 ·refine G ?_;refine X0 ?_;refine G7 ?_;refine ⟨rfl,rfl,?_⟩
  have hfz : d.frames.length = 0 := by simpa using h1
  have e : Nf d = .tup [slV eH 3 [],.bool (decide (Int.ofNat d.vars.length = 0))] := by
   unfold Nf Ee; rw [if_pos hfz]
   by_cases hv : d.vars.length = 0
   ·rw [if_pos hv,hv]; rfl
   ·rw [if_neg hv,decide_eq_false (by simpa using hv)]; rfl
  refine G ?_
  exact ⟨_,rfl,Nf d,J,ag_ hw nl (fun _ _ => rfl),nl,by rw [e]; exact .tup (.cons Dd (.cons (.same rfl) .nil)),rfl,rfl⟩
 ·refine G3 ?_;refine O1 (Bq (n := nx J) Po rfl) ?_;refine G4 ?_;refine O1 (Bq (n := nx J + 1) Ac7 (nx1 rfl)) ?_;refine G10 ?_;have hbn := hB.n;have hbv := hB.v
  have hne : d.frames.length ≠ 0 := by simpa using h1
  have dz : ∃ s,N6 J ((J.new (.map 9 [] 0)).new (.map 9 [] 0)) s /\ Nc d d.frames 0 ([],[]) = Nc d (d.frames.drop 0) 0 s := by
   refine ⟨([],[]),⟨by simp only [Ac]; omega,fun b hb => by rw [ab_,if_neg (by rw [Ac]; omega),ab_,if_neg Om],⟨0,by rw [ab_,if_neg (by rw [Ac]; omega),ab_,if_pos rfl]; rfl⟩,⟨[],⟨⟨0,by rw [ab_,if_pos (by rw [Ac])]; rfl⟩,fun _ => rfl,fun _ _ _ h => (by cases h),fun _ _ h => (by cases h),fun _ _ _ h => (by cases h)⟩⟩,fun _ => rfl⟩,rfl⟩
  refine G ?_;refine Bh d.frames.length (fun i0 => [(1,.pv [Aj d.consts,Aj d.vars,slV eF 8 d.frames]),(4,.mp (nx J)),(5,.mp (nx J + 1)),(34,slV eF 8 d.frames),(35,iV (.ofNat d.frames.length)),(36,iV (.ofNat i0))]) (fun i0 J0 => ∃ s,N6 J J0 s /\ Nc d d.frames 0 ([],[]) = Nc d (d.frames.drop i0) i0 s) SL dz ?_
  rintro i0 J0 hi0 ⟨s0,hO0,hf0⟩;refine G5 ?_;refine Ab rfl ?_ ?_ <;> intro h2
  ·have bc : i0 < d.frames.length := by simpa using h2
   obtain ⟨a0,ha0⟩ := A3 bc;have hd0 := Av ha0;have hFa := hB.f a0 (af_ ha0);have bt := hFa.a
   have hdl : a0.dummies.length < 1000000 := by have := hFa.a; simp [Fr.all] at this; omega
   have hhl := hFa.h;have hs1 := Gz (p := Uk) (l := a0.hyps);have hs2 := Gz (p := Uk) (l := a0.dummies);have hs1' : (flo a0.hyps).length <= a0.hyps.length := hs1;have hs2' : (flo a0.dummies).length <= a0.dummies.length := hs2;refine G8 ?_;refine Ub ziC ldC rfl rfl (fun _ => rfl) rfl (fun _ => rfl) rfl rfl rfl rfl rfl ?_
   refine G2 ?_;refine XI (l := [(104,[slV eH 3 a0.hyps],J0,slV eH 3 (flo a0.hyps),J0),(104,[slV eH 3 a0.dummies],J0,slV eH 3 (flo a0.dummies),J0)]) ⟨f104 a0.hyps J0 hFa.h,f104 a0.dummies J0 hdl,trivial⟩ ?_;refine G5 ?_
   refine DT (Bo rfl rfl (Apg (fun e => by have := Arr (List.cons.inj e).1; rw [this]))) ?_
   refine G3 ?_
   refine ⟨rfl,by simp,?_⟩
   refine G7 ?_;refine O1 (Ek okC rfl rfl Om) ?_;refine G5 ?_;refine TOr 6 ?_ (fun hg => ?_) ?_
   rotate_left
   ·iterate 4 refine Gn hg ?_
    refine On hg (Ae7 elC Pp rfl rfl Gz) (Bg rfl rfl rfl (by rw [hg]; rfl) rfl rfl rfl rfl (f18 (fun h => h.floating) (a0.hyps.drop (flo a0.hyps).length) 105 [] J0 (by rw [cz_]; omega) (fun a _ => f105 a J0)) ?_)
    exact Ez
   refine G ?_;refine Ab rfl ?_ ?_ <;> intro h3
   ·refine G5 ?_
    have hO : Ee d = none := Ps hne (by rw [hf0,hd0,Nc,if_pos (show Apa d a0 = true from h3)])
    refine G ?_
    exact ⟨_,rfl,.tup [slV eH 3 [],.bool false],J,as_ hw ⟨by have := hO0.n; omega,hO0.g⟩,nl,.tup (.cons Dd (.cons (.same rfl) .nil)),by unfold Nf; rw [hO]; rfl,rfl⟩
   ·have h3' : Apa d a0 = false := h3;refine G5 ?_;refine O1 (Ag9 (z := [.nil (.slice none 0 0),.nil (.slice none 0 0)]) Kr Asf rfl rfl) ?_;refine G3 ?_;refine Bh 2 (fun i2 => [(1,.pv [Aj d.consts,Aj d.vars,slV eF 8 d.frames]),(4,.mp (nx J)),(5,.mp (nx J + 1)),(6,iV (.ofNat i0)),(34,slV eF 8 d.frames),(35,iV (.ofNat d.frames.length)),(36,iV (.ofNat i0)),(66,.agg [slV eH 3 (flo a0.hyps),slV eH 3 (flo a0.dummies)]),(67,iV (.ofNat i2))]) (fun i2 J2 => ∃ s,N6 J J2 s /\ N5 i0 [flo a0.hyps,flo a0.dummies] s0 = N5 i0 ([flo a0.hyps,flo a0.dummies].drop i2) s) SL ⟨s0,hO0,rfl⟩ ?_
    rintro i2 J2 hi2 ⟨s2,hO2,hf2⟩;refine G5 ?_;refine Ab rfl ?_ ?_ <;> intro h4
    ·have bz : i2 < 2 := by have h9 := of_decide_eq_true h4; simp at h9; omega
     have oz : ∀ a2,[flo a0.hyps,flo a0.dummies][i2]? = some a2 -> Be 1 false (([slV eH 3 (flo a0.hyps),slV eH 3 (flo a0.dummies)] : List AV).drop (i2 * 1)) = some (slV eH 3 a2) := fun a2 ha => by
      match i2,bz,ha with
      | 0,_,ha => cases ha; rfl
      | 1,_,ha => cases ha; rfl
     obtain ⟨a2,ha2⟩ := A3 (show i2 < [flo a0.hyps,flo a0.dummies].length from bz)
     have hd2 := Av ha2
     have mq : ∀ h ∈ a2,∃ a b,h.text = [a,b] := fun h hh => by
      have hm := af_ ha2;simp only [ai_,d_,or_false] at hm
      rcases hm with rfl | rfl
      ·exact hfl a0 (af_ ha0) h (by simp [Fr.all,(Ya hh).1]) (Ya hh).2
      ·exact hfl a0 (af_ ha0) h (by simp [Fr.all,(Ya hh).1]) (Ya hh).2
     have hl2 : a2.length < 1000000 := by
      have hm := af_ ha2;simp only [ai_,d_,or_false] at hm
      rcases hm with rfl | rfl <;> omega
     refine G5 ?_;refine O1 (Amp (v := slV eH 3 a2) Asf rfl rfl bz (oz a2 ha2)) ?_;refine G9 ?_;refine Bh a2.length (fun i4 => [(1,.pv [Aj d.consts,Aj d.vars,slV eF 8 d.frames]),(4,.mp (nx J)),(5,.mp (nx J + 1)),(6,iV (.ofNat i0)),(11,slV eH 3 a2),(34,slV eF 8 d.frames),(35,iV (.ofNat d.frames.length)),(36,iV (.ofNat i0)),(66,.agg [slV eH 3 (flo a0.hyps),slV eH 3 (flo a0.dummies)]),(67,iV (.ofNat i2)),(70,slV eH 3 a2),(71,iV (.ofNat a2.length)),(72,iV (.ofNat i4))]) (fun i4 J4 => ∃ s,N6 J J4 s /\ Xw i0 a2 a2 0 s2 = Xw i0 a2 (a2.drop i4) i4 s) SL ⟨s2,hO2,rfl⟩ ?_
     rintro i4 J4 hi4 ⟨s4,hO4,hf4⟩;refine G5 ?_;refine Ab rfl ?_ ?_ <;> intro h5
     ·have dy : i4 < a2.length := by simpa using h5
      obtain ⟨a4,ha4⟩ := A3 dy;have hd4 := Av ha4;obtain ⟨t0,t1,htx⟩ := mq a4 (af_ ha4);have htv : txv a4 = t1 := X9 htx;refine Co fun hw4 => ?_
      refine G8 ?_;refine Ub ziC ldC rfl rfl (fun _ => rfl) rfl (fun _ => rfl) rfl rfl rfl rfl rfl ?_
      refine G5 ?_
      refine O1 (Bn elC (fun _ => rfl) rfl rfl (by rw [htx]; rfl : a4.text[1]? = some t1) (i := 1)) ?_
      refine G3 ?_;refine Ajh (fun L τ => L = [(1,.pv [Aj d.consts,Aj d.vars,slV eF 8 d.frames]),(4,.mp (nx J)),(5,.mp (nx J + 1)),(6,iV (.ofNat i0)),(11,slV eH 3 a2),(12,iV (.ofNat i4)),(13,.pv (eH a4)),(14,sV t1),(34,slV eF 8 d.frames),(35,iV (.ofNat d.frames.length)),(36,iV (.ofNat i0)),(66,.agg [slV eH 3 (flo a0.hyps),slV eH 3 (flo a0.dummies)]),(67,iV (.ofNat i2)),(70,slV eH 3 a2),(71,iV (.ofNat a2.length)),(72,iV (.ofNat i4))] /\ N6 J τ (N9 i0 a4 s4)) ?_ ?_
      ·refine G5 ?_;refine Ab rfl ?_ ?_ <;> intro h6
       ·have jq : i0 = 0 := by simpa using h6
        have hn4 := hO4.n;obtain ⟨refs4,hA4⟩ := id hO4.a;obtain ⟨v1,hv1⟩ := id hO4.o;obtain ⟨v2,hv2⟩ := id hA4.m
        have hm1 : (J4.new (.map 9 [] 0)).get (nx J) = some (.map 9 (B1 hV s4.1) v1) := by rw [ab_,if_neg (by have := hO4.n; omega)]; exact hv1
        have hm2 : (((J4.new (.map 9 [] 0)).set (nx J) (.map 9 (Sj hV (.agg [.str [],.bool false,.nil (.slice none 0 0)]) s4.1 t1) (v1 + 1))).new (.stamp (nx J) (v1 + 1) (kS t1))).get (nx (J4.new (.map 9 [] 0))) = some (.stamp (nx J) (v1 + 1) (kS t1)) := by rw [ab_,if_pos (by rw [Ae])]
        have hm3 : (((J4.new (.map 9 [] 0)).set (nx J) (.map 9 (Sj hV (.agg [.str [],.bool false,.nil (.slice none 0 0)]) s4.1 t1) (v1 + 1))).new (.stamp (nx J) (v1 + 1) (kS t1))).get (nx J) = some (.map 9 (Sj hV (.agg [.str [],.bool false,.nil (.slice none 0 0)]) s4.1 t1) (v1 + 1)) := by rw [ab_,if_neg (by rw [Ae,Ac]; have := hO4.n; omega),a_,if_pos rfl]
        have hm4 : ((((J4.new (.map 9 [] 0)).set (nx J) (.map 9 (Sj hV (.agg [.str [],.bool false,.nil (.slice none 0 0)]) s4.1 t1) (v1 + 1))).new (.stamp (nx J) (v1 + 1) (kS t1))).set (nx J) (.map 9 (B1 hV (s4.1.put t1 a4)) (v1 + 1 + 1))).get (nx J + 1) = some (.map 9 (B1 (fun q => AV.mp q) refs4) v2) := by rw [a_,if_neg Om,ab_,if_neg (by rw [Ae,Ac]; have := hO4.n; omega),a_,if_neg Om,ab_,if_neg (by have := hO4.n; omega)]; exact hv2
        have jw : N6 J (((((J4.new (.map 9 [] 0)).set (nx J) (.map 9 (Sj hV (.agg [.str [],.bool false,.nil (.slice none 0 0)]) s4.1 t1) (v1 + 1))).new (.stamp (nx J) (v1 + 1) (kS t1))).set (nx J) (.map 9 (B1 hV (s4.1.put t1 a4)) (v1 + 1 + 1))).set (nx J + 1) (.map 9 (B1 (fun q => AV.mp q) (refs4.put t1 (nx J4))) (v2 + 1))) (N9 i0 a4 s4) := by
         rw [jq]
         refine hO4.first (ver := v1 + 1 + 1) (ver2 := v2 + 1) hA4 hw4 (by simp only [Ae,Ac]; omega) (by rw [htv,a_,if_neg Om,a_,if_pos rfl]) (by rw [htv,a_,if_pos rfl]) ⟨0,?_⟩ (fun b h8 h9 h10 => ?_)
         ·rw [a_,if_neg Om,a_,if_neg Om,ab_,if_neg (by rw [Ae,Ac]; omega),a_,if_neg Om,ab_,if_pos rfl]; rfl
         ·rw [a_,if_neg Om,a_,if_neg Om,ab_,if_neg (by rw [Ae,Ac]; omega),a_,if_neg Om,ab_,if_neg Om]
        skip
        refine G6 ?_
        refine Af rfl rfl rfl rfl (f106 a4 J4 (by rw [htx]; simp)) ?_
        refine O1 (Kl Cd) (O1 (Ag8 (enc := hV) (m := s4.1) (s := t1) st9 Po rfl (hm1 : (J4.new (.map 9 [] 0)).get (nx J) = some (.map 9 (B1 hV s4.1) v1)) rfl) ?_);refine G ?_;refine O1 (Aby (enc := hV) (m := s4.1) (s := t1) (v := a4) Po rfl rfl rfl (fun te k1 k2 => E1 k1 k2 rfl) (hm2 : (((J4.new (.map 9 [] 0)).set (nx J) (.map 9 (Sj hV (.agg [.str [],.bool false,.nil (.slice none 0 0)]) s4.1 t1) (v1 + 1))).new (.stamp (nx J) (v1 + 1) (kS t1))).get (nx (J4.new (.map 9 [] 0))) = _) (hm3 : (((J4.new (.map 9 [] 0)).set (nx J) (.map 9 (Sj hV (.agg [.str [],.bool false,.nil (.slice none 0 0)]) s4.1 t1) (v1 + 1))).new (.stamp (nx J) (v1 + 1) (kS t1))).get (nx J) = _)) ?_
        refine O1 (Ec (v := nx J4) (enc := fun q => AV.mp q) st9 Ac7 rfl (hm4 : ((((J4.new (.map 9 [] 0)).set (nx J) (.map 9 (Sj hV (.agg [.str [],.bool false,.nil (.slice none 0 0)]) s4.1 t1) (v1 + 1))).new (.stamp (nx J) (v1 + 1) (kS t1))).set (nx J) (.map 9 (B1 hV (s4.1.put t1 a4)) (v1 + 1 + 1))).get (nx J + 1) = some (.map 9 (B1 (fun q => AV.mp q) refs4) v2)) rfl rfl (fun te k1 k2 => by first | exact Ex k1 k2 | exact Ey k1 k2 | exact Fc k1 k2 | exact Fe k1 k2 | exact E1 k1 k2 rfl)) ?_
        refine G ?_;exact ⟨[(1,.pv [Aj d.consts,Aj d.vars,slV eF 8 d.frames]),(4,.mp (nx J)),(5,.mp (nx J + 1)),(6,iV (.ofNat i0)),(11,slV eH 3 a2),(12,iV (.ofNat i4)),(13,.pv (eH a4)),(14,sV t1),(34,slV eF 8 d.frames),(35,iV (.ofNat d.frames.length)),(36,iV (.ofNat i0)),(66,.agg [slV eH 3 (flo a0.hyps),slV eH 3 (flo a0.dummies)]),(67,iV (.ofNat i2)),(70,slV eH 3 a2),(71,iV (.ofNat a2.length)),(72,iV (.ofNat i4))],SL,rfl,jw⟩
       ·refine G ?_
        exact ⟨[(1,.pv [Aj d.consts,Aj d.vars,slV eF 8 d.frames]),(4,.mp (nx J)),(5,.mp (nx J + 1)),(6,iV (.ofNat i0)),(11,slV eH 3 a2),(12,iV (.ofNat i4)),(13,.pv (eH a4)),(14,sV t1),(34,slV eF 8 d.frames),(35,iV (.ofNat d.frames.length)),(36,iV (.ofNat i0)),(66,.agg [slV eH 3 (flo a0.hyps),slV eH 3 (flo a0.dummies)]),(67,iV (.ofNat i2)),(70,slV eH 3 a2),(71,iV (.ofNat a2.length)),(72,iV (.ofNat i4))],SL,rfl,by have h9 : i0 ≠ 0 := (by simpa using h6); unfold N9; rw [if_neg h9]; exact hO4⟩
      ·rintro L τ ⟨rfl,hO5⟩;obtain ⟨refs,hA5⟩ := id hO5.a;have hn5 := hO5.n
       rcases hq : refs.get t1 with _ | q
       ·refine G5 ?_;refine O1 (Apd st9 Ac7 rfl hA5.m rfl hq) (O1 (Aom Cd rfl) ?_);refine G ?_;refine Zt 6 true false rfl rfl rfl rfl rfl (L9 rfl) (fun hg => ?_) (fun hg => ?_) ?_
        ·cases hg
        ·iterate 6 refine Gn hg ?_
         refine G ?_;exact ⟨rfl,sb⟩
        refine G ?_
        refine Ab rfl (fun h7 => ?_) (fun h7 => by cases h7)
        refine G5 ?_
        have hH : Ahh i0 (a2.take i4) a4 s4 = none := by
         have hAn := hA5.s t1;rw [hq] at hAn;unfold Ahh; rw [htv];cases hx : (N9 i0 a4 s4).2.get t1 with
         | none => rfl
         | some a => rw [hx] at hAn; cases hAn
        have e1 : Xw i0 a2 a2 0 s2 = none := by rw [hf4,hd4,Xw,hH]
        have e2 : N5 i0 [flo a0.hyps,flo a0.dummies] s0 = none := by rw [hf2,hd2,N5,e1]
        have e3 : Nc d d.frames 0 ([],[]) = none := by rw [hf0,hd0,Nc,if_neg (fun hh => Bool.noConfusion (h3'.symm.trans hh)),e2]
        have hO : Ee d = none := Ps hne e3;refine G ?_
        exact ⟨_,rfl,.tup [slV eH 3 [],.bool false],J,as_ hw ⟨by omega,hO5.g⟩,nl,.tup (.cons Dd (.cons (.same rfl) .nil)),by unfold Nf; rw [hO]; rfl,rfl⟩
       have hqn := hA5.n t1 q hq;have hAq := hA5.s t1;rw [hq] at hAq;obtain ⟨aS,haS⟩ := bp_.1 hAq.symm;have hk5 := hO5.k t1;rw [haS] at hk5;obtain ⟨h1H,h1e⟩ := bp_.1 hk5;refine G5 ?_;refine O1 (F4 (v := q) (enc := fun q => AV.mp q) st9 Ac7 rfl hA5.m rfl hq) ?_
       refine O1 (Aol Cd rfl) ?_;refine G ?_;refine Zt 6 _ ?_ rfl rfl rfl rfl rfl (L9 rfl) (fun hg => ?_) (fun hg => ?_) ?_
       rotate_left
       ·iterate 2 refine Gn hg ?_
        refine On hg (F4 (v := h1H) (enc := hV) st9 Po rfl hO5.o rfl h1e) ?_;refine Gn hg ?_
        refine Bg rfl rfl rfl (by rw [hg]; rfl) rfl rfl rfl rfl (f107 h1H a4 τ (by rw [htx]; simp)) ?_
        refine Gn hg ?_;refine G ?_;refine ⟨rfl,?_,?_⟩
        ·exact sb
        ·exact rfl
       ·cases hg
       refine G ?_;refine Ab rfl ?_ ?_ <;> intro h7
       ·refine G5 ?_
        have hH : Ahh i0 (a2.take i4) a4 s4 = none := by
         unfold Ahh; rw [htv,haS];simp only [h1e]
         rw [if_neg (by show ¬ Ak8 h1H a4 = true; simpa using h7)]
        have e1 : Xw i0 a2 a2 0 s2 = none := by rw [hf4,hd4,Xw,hH]
        have e2 : N5 i0 [flo a0.hyps,flo a0.dummies] s0 = none := by rw [hf2,hd2,N5,e1]
        have e3 : Nc d d.frames 0 ([],[]) = none := by rw [hf0,hd0,Nc,if_neg (fun hh => Bool.noConfusion (h3'.symm.trans hh)),e2]
        have hO : Ee d = none := Ps hne e3;refine G ?_
        exact ⟨_,rfl,.tup [slV eH 3 [],.bool false],J,as_ hw ⟨by omega,hO5.g⟩,nl,.tup (.cons Dd (.cons (.same rfl) .nil)),by unfold Nf; rw [hO]; rfl,rfl⟩
       ·have hsm : Ak8 h1H a4 = true := by simpa using h7
        refine G5 ?_;refine O1 (Ape rfl rfl Om) ?_;refine G4 ?_;refine Bh (a2.take i4).length (fun i6 => [(1,.pv [Aj d.consts,Aj d.vars,slV eF 8 d.frames]),(4,.mp (nx J)),(5,.mp (nx J + 1)),(6,iV (.ofNat i0)),(11,slV eH 3 a2),(14,sV t1),(34,slV eF 8 d.frames),(35,iV (.ofNat d.frames.length)),(36,iV (.ofNat i0)),(66,.agg [slV eH 3 (flo a0.hyps),slV eH 3 (flo a0.dummies)]),(67,iV (.ofNat i2)),(70,slV eH 3 a2),(71,iV (.ofNat a2.length)),(72,iV (.ofNat i4)),(106,slV eH 3 (a2.take i4)),(107,iV (.ofNat (a2.take i4).length)),(108,iV (.ofNat i6))]) (fun i6 J6 => Eo J6 q (Amz aS ((a2.take i4).take i6)) /\ nx J6 = nx τ /\ ∀ b,b ≠ q -> J6.get b = τ.get b) SL ⟨hA5.a t1 q aS hq haS,rfl,fun _ _ => rfl⟩ ?_
        rintro i6 J6 hi6 ⟨hs6,hn6,hg6⟩;refine G5 ?_;refine Ab rfl ?_ ?_ <;> intro h8
        ·have jx : i6 < (a2.take i4).length := by simpa using h8
         obtain ⟨a6,ha6⟩ := A3 jx;have hd6 := Av ha6;have ha6m : a6 ∈ a2 := ct_ (af_ ha6);obtain ⟨u0,u1,hux⟩ := mq a6 ha6m;obtain ⟨v6,hv6⟩ := id hs6
         have hlt6' : i6 < a2.length := by have h11 := jx; rw [b_] at h11; omega
         refine G9 ?_;refine XS (l := []) trivial ?_;refine G2 ?_;refine DF (F4 (v := q) (enc := fun q => AV.mp q) st9 Ac7 rfl (hA5.m.of_get (hg6 _ Om)) rfl hq) ?_
         refine G2 ?_
         refine DF (Bn elC (fun _ => rfl) rfl rfl (by rw [hux]; rfl : a6.text[1]? = some u1) (i := 1)) ?_
         refine G ?_
         refine DT (Ec (v := true) st9 Cd rfl hv6 rfl rfl (fun te k1 k2 => by first | exact Ex k1 k2 | exact Ey k1 k2 | exact Fc k1 k2 | exact Fe k1 k2 | exact E1 k1 k2 rfl)) ?_
         refine G5 ?_
         refine ⟨jx,SL,by rw [Bb ha6,Am0,X9 hux]; exact dj_,by rw [Ae]; exact hn6,fun b hb => by rw [a_,if_neg Om]; exact hg6 b hb⟩
        ·have oy : (a2.take i4).length <= i6 := by simpa using h8
         rw [ar_ oy] at hs6;refine G5 ?_
         refine ⟨dy,SL,((N9 i0 a4 s4).1,(N9 i0 a4 s4).2.put t1 (Amz aS (a2.take i4))),hO5.turn hA5 hq (by rw [hn6]; exact nl) hs6 hg6,by rw [hf4,hd4,Xw,Ahh,htv,haS]; simp only [h1e]; rw [if_pos (show Ala (some h1H) a4 = true from hsm)]⟩
     ·have fq : a2.length <= i4 := by simpa using h5
      have hL4 : Xw i0 a2 a2 0 s2 = some s4 := by rw [hf4,ah_ fq]; rfl
      refine G5 ?_
      refine ⟨bz,SL,s4,hO4,by rw [hf2,hd2,N5,hL4]⟩
    ·have b9 : 2 <= i2 := by have h9 := of_decide_eq_false h4; simp at h9; omega
     have hLs : N5 i0 [flo a0.hyps,flo a0.dummies] s0 = some s2 := by rw [hf2,ah_ (show [flo a0.hyps,flo a0.dummies].length <= i2 from b9)]; rfl
     refine G5 ?_
     refine ⟨bc,SL,s2,hO2,by rw [hf0,hd0,Nc,if_neg (fun hh => Bool.noConfusion (h3'.symm.trans hh)),hLs]⟩
  ·have bm : d.frames.length <= i0 := by simpa using h2
   have hF : Nc d d.frames 0 ([],[]) = some s0 := by rw [hf0,ah_ bm]; rfl
   have hcv := jv hne s0 hF;obtain ⟨refs,hA0⟩ := id hO0.a;have hn0 := hO0.n;refine Co fun hw0 => ?_
   refine G7 ?_;refine O1 (Bq (n := nx J0) Cd rfl) ?_;refine G3 ?_;refine Aq4 ?_;refine G2 ?_;refine Dt (fun q : AV × SM Bool × List Hp => [(1,.pv [Aj d.consts,Aj d.vars,slV eF 8 d.frames]),(4,.mp (nx J)),(5,.mp (nx J + 1)),(17,q.1),(18,.mp (nx J0))])
    (fun q J8 => Own J8 (nx J0 + 1) eH 3 q.2.2 q.1 /\ Eo J8 (nx J0) q.2.1 /\ nx J0 + 1 <= nx J8 /\ (∀ b,b < nx J0 -> J8.get b = J0.get b) /\ q.2.2.length <= d.vars.length /\ Vx d.vars s0 d.vars.length [] [] = Vx d.vars s0 (d.vars.length - q.2.2.length) q.2.1 q.2.2)
    (fun q => d.vars.length - q.2.2.length) (.nil (.slice none 0 0),[],[]) SL ⟨.nil,⟨0,by rw [ab_,if_pos rfl]; rfl⟩,by rw [Ac]; exact nl,fun b hb => by rw [ab_,if_neg Om],ca_ _,rfl⟩ ?_
   rintro ⟨vo,done,out⟩ J8 ⟨eg,hd8,hn8,hg8,hl8,hf8⟩;simp only at eg hd8 hl8 hf8;refine G4 ?_;refine O1 (Em slC rfl eg.lenA.1 eg.lenA.2) ?_;refine G5 ?_;refine Ab rfl ?_ ?_ <;> intro h3
   ·have hlt8 : out.length < d.vars.length := by simpa using h3
    refine G11 ?_;refine Bh d.vars.length (fun i10 => [(1,.pv [Aj d.consts,Aj d.vars,slV eF 8 d.frames]),(4,.mp (nx J)),(5,.mp (nx J + 1)),(17,vo),(18,.mp (nx J0)),(131,Aj d.vars),(132,iV (.ofNat d.vars.length)),(133,iV (.ofNat i10))])
     (fun i10 J10 => Own J10 (nx J0 + 1) eH 3 out vo /\ Eo J10 (nx J0) done /\ nx J0 + 1 <= nx J10 /\ (∀ b,b < nx J0 -> J10.get b = J0.get b) /\ d.vars.find? (rdy s0.2 done) = (d.vars.drop i10).find? (rdy s0.2 done)) SL ⟨eg,hd8,hn8,hg8,rfl⟩ ?_
    rintro i10 J10 hi10 ⟨jz,mw,hn10,cn,jy⟩;refine Co fun hw10 => ?_
    refine G5 ?_;refine Ab rfl ?_ ?_ <;> intro h4
    ·have io : i10 < d.vars.length := by simpa using h4
     obtain ⟨v10,mz⟩ := A3 io;have i5 := Av mz;obtain ⟨h1H,h1e⟩ := bp_.1 (hcv v10 (af_ mz));have hk0 := hO0.k v10;rw [h1e] at hk0;obtain ⟨aS,haS⟩ := bp_.1 hk0.symm;have my := hA0.s v10;rw [haS] at my;obtain ⟨q,hq⟩ := bp_.1 my;have hqs := hA0.a v10 q aS hq haS;have ol : q < nx J0 := hqs.lt hw0;obtain ⟨vq,hvq⟩ := hqs;have ge : J10.get q = some (.map 9 (B1 bV aS) vq) := (cn q ol).trans hvq
     iterate 13 refine G ?_
     refine O1 (Cr st9 Cd rfl mw rfl) ?_;refine G8 ?_;refine O1 (F4 (v := q) (enc := fun q => AV.mp q) st9 Ac7 rfl (hA0.m.of_get (cn _ Om)) rfl hq) ?_
     refine O1 (Ag6 Cd rfl ge) ?_;refine G2 ?_;refine Dt (fun q12 : Bool × SM Bool => [(1,.pv [Aj d.consts,Aj d.vars,slV eF 8 d.frames]),(4,.mp (nx J)),(5,.mp (nx J + 1)),(17,vo),(18,.mp (nx J0)),(20,sV v10),(21,.bool q12.1),(131,Aj d.vars),(132,iV (.ofNat d.vars.length)),(133,iV (.ofNat i10)),(144,.it (nx J10))])
      (fun q12 J12 => (∃ cur,J12.get (nx J10) = some (.iter (some q) vq (B1 bV q12.2) cur)) /\ nx J12 = nx J10 + 1 /\ (∀ b,b < nx J10 -> J12.get b = J10.get b) /\ rdy s0.2 done v10 = (q12.1 && q12.2.all fun p => done.has p.1))
      (fun q12 => q12.2.length) (!done.has v10,aS) SL
      ⟨⟨none,by rw [ab_,if_pos rfl]⟩,Ac _ _,fun b hb => by rw [ab_,if_neg Om],by unfold rdy; rw [haS]; rfl⟩ ?_
     rintro ⟨ready,left⟩ J12 ⟨⟨cur,hit⟩,ot,fj,jl⟩;simp only at hit jl;have ml : Eo J12 (nx J0) done := mw.of_get (fj _ Om);have jn : Own J12 (nx J0 + 1) eH 3 out vo := jz.mono Om fun a tl _ _ h9 _ => fj a h9
     refine G ?_
     refine Aor rfl rfl rfl hit (by show (match J12.get q with | some (.map _ _ v) => Nat.beq v vq | _ => false) = true; rw [fj q Om,ge]; exact bm_ _) (fun h0 => ?_) (fun p hp => ?_)
     ·have h0' : left = [] := by cases left with
       | nil => rfl
       | cons x l => cases h0
      subst h0'
      have hr : rdy s0.2 done v10 = ready := by rw [jl]; simp
      have ix : Eo (J12.set (nx J10) (.iter (some q) vq [] none)) (nx J0) done := ml.set Om
      have g8 : Own (J12.set (nx J10) (.iter (some q) vq [] none)) (nx J0 + 1) eH 3 out vo := jn.mono (by rw [Ae]; exact nl) fun a tl _ _ h9 h10 => by
       rw [a_,if_neg]; intro hh; have hh : a = nx J10 := by omega
       subst hh; rw [hit] at h10; cases h10
      refine G3 ?_
      refine Ab rfl (fun h5 => by cases h5) (fun h5 => ?_)
      refine G5 ?_;refine Ab rfl ?_ ?_ <;> intro h6
      ·have hr6 : ready = true := h6
       have hfd : d.vars.find? (rdy s0.2 done) = some v10 := by rw [jy,i5,List.find?_cons,hr,hr6]
       obtain ⟨vd,hvd⟩ := id ix
       have jr : Own ((J12.set (nx J10) (.iter (some q) vq [] none)).set (nx J0) (.map 9 (B1 bV (done.put v10 true)) (vd + 1))) (nx J0 + 1) eH 3 out vo := g8.mono (by simp only [Ae]; exact nl) fun a tl _ h8 h9 _ => by rw [a_,if_neg Om]
       have mn : nx J0 + 1 <= nx ((J12.set (nx J10) (.iter (some q) vq [] none)).set (nx J0) (.map 9 (B1 bV (done.put v10 true)) (vd + 1))) := by rw [Ae,Ae]; omega
       have bo : (out.length + [h1H].length) * (48 + 1) <= sizeLim := by simp [sizeLim]; omega
       obtain ⟨v1,τ1,hap,ho1,hb1,_⟩ := jr.app (by' := 48) Pp mn [h1H] bo
       have bk : ∀ b,b < nx J0 -> ((J12.set (nx J10) (.iter (some q) vq [] none)).set (nx J0) (.map 9 (B1 bV (done.put v10 true)) (vd + 1))).get b = J0.get b := fun b hb => by
        rw [a_,if_neg Om,a_,if_neg Om,fj b Om,cn b hb]
       refine G4 ?_;refine O1 (Ec (v := true) st9 Cd rfl hvd rfl rfl (fun te k1 k2 => Ex k1 k2)) ?_
       refine G6 ?_;refine O1 (F4 (v := h1H) (enc := hV) st9 Po rfl (hO0.o.of_get (bk _ Om)) rfl h1e) ?_;refine Dz (Ay elC byW rfl rfl rfl) (Fk (len := 1)) rfl rfl (O1 (A1 elC rfl slC rfl rfl rfl (new := eH h1H) rfl hap) ?_);refine G3 ?_
       refine ⟨(v1,done.put v10 true,out ++ [h1H]),by show d.vars.length - (out ++ [h1H]).length < d.vars.length - out.length; rw [aw_]; simp; omega,SL,ho1,⟨vd + 1,?_⟩,bc_ mn hb1.1,fun b hb => (hb1.2 b Om).trans (bk b hb),by show (out ++ [h1H]).length <= _; rw [aw_]; simp; omega,?_⟩
       ·rw [hb1.2 (nx J0) Om,a_,if_pos rfl]
       ·rw [hf8]
        show _ = Vx d.vars s0 (d.vars.length - (out ++ [h1H]).length) (done.put v10 true) (out ++ [h1H])
        rw [show d.vars.length - out.length = (d.vars.length - (out ++ [h1H]).length) + 1 by rw [aw_]; simp; omega,Vx,hfd]
        simp only [h1e]
      ·have hr6 : ready = false := h6;refine G5 ?_
       refine ⟨io,SL,g8,ix,by rw [Ae]; omega,fun b hb => by rw [a_,if_neg Om,fj b Om,cn b hb],?_⟩
       rw [jy,i5,List.find?_cons,hr,hr6]
     ·obtain ⟨pq,hpq,rfl⟩ := Si hp;obtain ⟨_,_,hpl⟩ := Qu hpq;have ix : Eo (J12.set (nx J10) (.iter (some q) vq (B1 bV pq.2) (some (kS pq.1.1,bV pq.1.2)))) (nx J0) done := ml.set Om;refine G3 ?_
      refine Ab rfl (fun h5 => ?_) (fun h5 => by cases h5)
      refine G4 ?_
      refine O1 (Ag7 rfl (by rw [a_,if_pos rfl]) (by rw [a_,if_neg Om,fj q Om]; exact ge)) ?_
      refine G6 ?_;refine Ph 3 _ ?_ rfl rfl rfl rfl rfl (L9 rfl) (fun hg => ?_) (fun hg => ?_) ?_
      rotate_left
      ·refine Zp rfl rfl rfl rfl (by rw [show ready = _ from hg]; rfl) noR rfl rfl (Cm rfl) ?_
       refine Zp rfl rfl rfl rfl (by rw [show ready = _ from hg]; rfl) noR rfl rfl (Cm rfl) ?_
       refine Zp rfl rfl rfl rfl (by rw [show ready = _ from hg]; rfl) noR rfl rfl (Cr (s := pq.1.1) st9 Cd rfl ix rfl) ?_
       refine G ?_;refine ⟨rfl,?_,?_⟩
       ·exact sb
       ·exact rfl
      ·refine R0 rfl rfl rfl rfl (by rw [show ready = _ from hg]; rfl) rfl ?_
       refine R0 rfl rfl rfl rfl (by rw [show ready = _ from hg]; rfl) rfl ?_
       refine R0 rfl rfl rfl rfl (by rw [show ready = _ from hg]; rfl) rfl ?_
       refine G ?_;exact ⟨rfl,sb⟩
      refine G2 ?_
      refine ⟨(ready && done.has pq.1.1,pq.2),by show pq.2.length < left.length; omega,SL,⟨_,by rw [a_,if_pos rfl]⟩,by rw [Ae]; exact ot,fun b hb => by rw [a_,if_neg Om]; exact fj b hb,?_⟩
      rw [jl,Adb hpq];cases ready <;> simp
    ·have mr : d.vars.length <= i10 := by simpa using h4
     have hfd : d.vars.find? (rdy s0.2 done) = none := by rw [jy,ah_ mr]; rfl
     have hO : Ee d = none := by
      unfold Ee; rw [if_neg hne,hF]
      show Vx d.vars s0 d.vars.length [] [] = none
      rw [hf8,show d.vars.length - out.length = (d.vars.length - out.length - 1) + 1 by omega,Vx,hfd]
     refine G7 ?_
     exact ⟨_,rfl,.tup [slV eH 3 [],.bool false],J,as_ hw ⟨by omega,fun b hb => (cn b Om).trans (hO0.g b hb)⟩,nl,.tup (.cons Dd (.cons (.same rfl) .nil)),by unfold Nf; rw [hO]; rfl,rfl⟩
   ·have hge8 : d.vars.length <= out.length := by simpa using h3
    have hO : Ee d = some out := by
     unfold Ee; rw [if_neg hne,hF]
     show Vx d.vars s0 d.vars.length [] [] = some out
     rw [hf8,show d.vars.length - out.length = 0 by omega]; rfl
    refine G8 ?_
    exact ⟨_,rfl,.tup [slV eH 3 out,.bool true],J,as_ hw ⟨by omega,fun b hb => (hg8 b Om).trans (hO0.g b hb)⟩,nl,.tup (.cons (eg.fz Pp (fun a ha => hw.none Om) (Br M9 _)) (.cons (.same rfl) .nil)),by unfold Nf; rw [hO]; rfl,rfl⟩
theorem Pw {α : Type} [BEq α] [LawfulBEq α] : ∀ {L V : List α},L.Nodup -> (∀ x ∈ L,x ∈ V) -> V.length <= L.length -> ∀ x ∈ V,x ∈ L
 | [],V,_,_,h,x,hx => by
  have : V = [] := bk_ (by simpa using h)
  rw [this] at hx; cases hx
 | a :: L,V,hn,hs,h,x,hx => by
  have ha : a ∈ V := hs a (bn_ ..);obtain ⟨h1,h2⟩ := ff_.1 hn
  have hl : (V.erase a).length <= L.length := by rw [List.length_erase_of_mem ha]; simp only [ap_] at h; omega
  have ih := Pw (V := V.erase a) h2 (fun y hy => (List.mem_erase_of_ne (fun e => by subst e; exact h1 hy)).2 (hs y (am_ _ hy))) hl
  by_cases e : x = a
  ·subst e; exact bn_ ..
  ·exact am_ _ (ih x ((List.mem_erase_of_ne e).2 hx))
theorem Ath {k : Kn} {lab : SM Bool} {ty : SM Str} {h : Hp} {du : Bool} (h0 : Xv k lab ty h du = 0) (hf : h.floating = true) : k.vars.has (txv h) = true /\ ty.get (txv h) = none := by
 unfold Xv at h0
 split at h0
 ·cases h0
 ·split at h0
  ·cases h0
  ·split at h0
   ·cases h0
   ·rename_i h3
    split at h0
    ·cases h0
    ·split at h0
     ·cases h0
     ·rename_i h5
      simp only [bh_,bl_,not_or,Bool.not_eq_false] at h3
      exact ⟨h3.2,by simpa [txv] using h5⟩
abbrev flt (l : List Hp) : List Str := (l.filter (·.floating)).map txv
theorem Ahk {k : Kn} {nh : Nat} : ∀ {l : List Hp} {i : Nat} {lab : SM Bool} {ty : SM Str},(Ji k nh l i lab ty).1 = 0 ->
  (∀ h ∈ l,h.floating = true -> (∃ a b,h.text = [a,b]) /\ k.vars.has (txv h) = true /\ ty.get (txv h) = none) /\ (flt l).Nodup
 | [],_,_,_,_ => ⟨fun _ h => (by cases h),et_⟩
 | h :: r,i,lab,ty,h0 => by
  unfold Ji at h0
  split at h0
  ·rename_i hc; simp only at h0; rw [h0] at hc; exact absurd hc (by decide)
  ·rename_i hc
   have hz : Xv k lab ty h (decide (Int.ofNat nh <= Int.ofNat i)) = 0 := by simpa using hc
   obtain ⟨ih1,ih2⟩ := Ahk h0;cases hf : h.floating with
   | false =>
    rw [hf] at ih1;refine ⟨fun x hx hxf => ?_,?_⟩
    ·rcases ai_.1 hx with rfl | hx
     ·rw [hf] at hxf; cases hxf
     ·exact ih1 x hx hxf
    ·show ((h :: r).filter (·.floating)).map txv |>.Nodup
     rw [List.filter_cons_of_neg (by simp [hf])]; exact ih2
   | true =>
    rw [hf] at ih1;obtain ⟨g1,g2⟩ := Ath hz hf;have g3 := Ahg hz hf
    have key : ∀ x ∈ r,x.floating = true -> txv x ≠ txv h /\ ty.get (txv x) = none := fun x hx hxf => by
     have := (ih1 x hx hxf).2.2;rw [if_pos rfl,cc_] at this
     split at this
     ·cases this
     ·rename_i e; exact ⟨e,this⟩
    refine ⟨fun x hx hxf => ?_,?_⟩
    ·rcases ai_.1 hx with rfl | hx
     ·exact ⟨g3,g1,g2⟩
     ·exact ⟨(ih1 x hx hxf).1,(ih1 x hx hxf).2.1,(key x hx hxf).2⟩
    ·show ((h :: r).filter (·.floating)).map txv |>.Nodup
     rw [List.filter_cons_of_pos (by simp [hf]),cd_,ff_]
     refine ⟨fun hm => ?_,ih2⟩
     obtain ⟨x,hx,e⟩ := cf_.1 hm;have := cx_.1 hx
     exact (key x this.1 (by simpa using this.2)).1 e
theorem Aph {pw : Str -> Bool} {k : Kn} {f : Fr} {before : List Hp} (h : E2 pw k f before = 0) : (Ji (k.fr f.label) f.hyps.length f.all 0 [] []).1 = 0 := by
 unfold E2 at h
 split at h
 ·cases h
 ·split at h
  ·cases h
  ·split at h
   ·cases h
   ·split at h
    ·exact h
    ·rename_i hc; simpa using hc
theorem Su {pw : Str -> Bool} : ∀ {fs : List Fr} {k : Kn} {be : List Hp},Jb pw fs k be = 0 -> ∀ f ∈ fs,∃ k' be',k'.vars = k.vars /\ E2 pw k' f be' = 0
 | [],_,_,_,f,hf => by cases hf
 | g :: r,k,be,h,f,hf => by
  unfold Jb at h
  split at h
  ·rename_i hc; rw [h] at hc; exact absurd hc (by decide)
  ·rename_i hc
   rcases ai_.1 hf with rfl | hf
   ·exact ⟨k,be,rfl,by simpa using hc⟩
   ·obtain ⟨k',be',h1,h2⟩ := Su h f hf;exact ⟨k',be',h1,h2⟩
theorem Vy : ∀ (l : List Str) (k : Kn),(Sp l k).2.vars = k.vars
 | [],_ => rfl
 | c :: r,k => by unfold Sp; cases Q9 c <;> cases k.consts.has c <;> simp [Vy r]
theorem Adc : ∀ (l : List Str) (k : Kn) (v : Str),(Ui l k).2.vars.has v = true -> v ∈ l ∨ k.vars.has v = true
 | [],_,v,h => .inr h
 | c :: r,k,v,h => by
  unfold Ui at h;cases hs : Q9 c with
  | false => rw [hs] at h; exact .inr h
  | true =>
   rw [hs] at h;cases hk : k.isSym c with
   | true => rw [hk] at h; exact .inr h
   | false =>
    rw [hk] at h
    rcases Adc r _ v h with h | h
    ·exact .inl (am_ _ h)
    ·have h : (k.vars.put c true).has v = true := h;rw [SM.has_put] at h;simp only [bh_,decide_eq_true_eq] at h
     rcases h with rfl | h
     ·exact .inl (bn_ ..)
     ·exact .inr h
theorem Am5 {d : Db} {v : Str} (h : (K1 d kn0).2.vars.has v = true) : v ∈ d.vars := by
 unfold K1 at h
 split at h
 ·rcases Adc _ _ _ h with h | h
  ·exact h
  ·rw [Vy] at h; cases h
 ·rw [Vy] at h; cases h
theorem Ahl {pw : Str -> Bool} {d : Db} (h : E3 pw d = 0) : Jb pw d.frames (K1 d kn0).2 [] = 0 := by
 unfold E3 at h
 split at h
 ·cases h
 ·split at h
  ·rename_i hc; rw [h] at hc; exact absurd hc (by decide)
  ·exact h
theorem Uo {pw : Str -> Bool} {d : Db} (h : E3 pw d = 0) {f : Fr} (hf : f ∈ d.frames) : (∀ h ∈ f.all,h.floating = true -> (∃ a b,h.text = [a,b]) /\ txv h ∈ d.vars) /\ (flt f.all).Nodup := by
 obtain ⟨k',be',h1,h2⟩ := Su (Ahl h) f hf;obtain ⟨g1,g2⟩ := Ahk (Aph h2);refine ⟨fun x hx hxf => ?_,g2⟩
 obtain ⟨a1,a2,_⟩ := g1 x hx hxf
 exact ⟨a1,Am5 (by rw [← h1]; exact a2)⟩
theorem Up (l : List Hp) : flo l = l.filter (·.floating) := by
 unfold flo D0 Uk
 congr 1; funext x; simp
theorem Ars (f : Fr) : flt f.all = (flo f.hyps ++ flo f.dummies).map txv := by
 rw [Up,Up]; simp [flt,Fr.all]
def Px (s : Ord) : Prop := ∀ v h,s.1.get v = some h -> txv h = v /\ ∃ a b,h.text = [a,b]
theorem Art {i : Nat} {pre : List Hp} {h : Hp} {s s' : Ord} (e : Ahh i pre h s = some s') (h2 : ∃ a b,h.text = [a,b]) (hs : Px s) :
  Px s' /\ (∀ v,(s.1.get v).isSome = true -> (s'.1.get v).isSome = true) /\ (i = 0 -> (s'.1.get (txv h)).isSome = true) := by
 have h0 : Px (N9 i h s) /\ (∀ v,(s.1.get v).isSome = true -> ((N9 i h s).1.get v).isSome = true) /\ (i = 0 -> ((N9 i h s).1.get (txv h)).isSome = true) := by
  unfold N9
  split
  ·refine ⟨fun v x hx => ?_,fun v hv => ?_,fun _ => ?_⟩
   ·simp only [cc_] at hx
    split at hx
    ·rename_i e; cases hx; exact ⟨e.symm,h2⟩
    ·exact hs v x hx
   ·simp only [cc_]; split <;> first | rfl | exact hv
   ·simp [cc_]
  ·rename_i hi; exact ⟨hs,fun _ h => h,fun e => absurd e hi⟩
 unfold Ahh at e
 split at e
 ·cases e
 ·split at e
  ·cases e; exact h0
  ·cases e
theorem Alf {i : Nat} {all : List Hp} : ∀ {l : List Hp} {n : Nat} {s s' : Ord},Xw i all l n s = some s' -> (∀ h ∈ l,∃ a b,h.text = [a,b]) -> Px s ->
  Px s' /\ (∀ v,(s.1.get v).isSome = true -> (s'.1.get v).isSome = true) /\ (i = 0 -> ∀ h ∈ l,(s'.1.get (txv h)).isSome = true)
 | [],_,s,s',e,_,hs => by cases e; exact ⟨hs,fun _ h => h,fun _ _ h => by cases h⟩
 | h :: r,n,s,s',e,h2,hs => by
  unfold Xw at e
  split at e
  ·cases e
  ·rename_i s1 e1
   obtain ⟨a1,a2,a3⟩ := Art e1 (h2 h (bn_ ..)) hs;obtain ⟨b1,b2,b3⟩ := Alf e (fun x hx => h2 x (am_ _ hx)) a1
   refine ⟨b1,fun v hv => b2 v (a2 v hv),fun hi x hx => ?_⟩
   rcases ai_.1 hx with rfl | hx
   ·exact b2 _ (a3 hi)
   ·exact b3 hi x hx
theorem Ahm {i : Nat} : ∀ {ls : List (List Hp)} {s s' : Ord},N5 i ls s = some s' -> (∀ l ∈ ls,∀ h ∈ l,∃ a b,h.text = [a,b]) -> Px s ->
  Px s' /\ (∀ v,(s.1.get v).isSome = true -> (s'.1.get v).isSome = true) /\ (i = 0 -> ∀ l ∈ ls,∀ h ∈ l,(s'.1.get (txv h)).isSome = true)
 | [],s,s',e,_,hs => by cases e; exact ⟨hs,fun _ h => h,fun _ _ h => by cases h⟩
 | l :: r,s,s',e,h2,hs => by
  unfold N5 at e
  split at e
  ·cases e
  ·rename_i s1 e1
   obtain ⟨a1,a2,a3⟩ := Alf e1 (h2 l (bn_ ..)) hs;obtain ⟨b1,b2,b3⟩ := Ahm e (fun x hx => h2 x (am_ _ hx)) a1
   refine ⟨b1,fun v hv => b2 v (a2 v hv),fun hi x hx => ?_⟩
   rcases ai_.1 hx with rfl | hx
   ·exact fun h hh => b2 _ (a3 hi h hh)
   ·exact b3 hi x hx
theorem Alg {d : Db} : ∀ {fs : List Fr} {i : Nat} {s s' : Ord},Nc d fs i s = some s' -> (∀ f ∈ fs,∀ h ∈ f.all,h.floating = true -> ∃ a b,h.text = [a,b]) -> Px s ->
  Px s' /\ (∀ v,(s.1.get v).isSome = true -> (s'.1.get v).isSome = true) /\ (i = 0 -> ∀ f r,fs = f :: r -> Apa d f = false /\ ∀ h,h ∈ flo f.hyps ++ flo f.dummies -> (s'.1.get (txv h)).isSome = true)
 | [],_,s,s',e,_,hs => by cases e; exact ⟨hs,fun _ h => h,fun _ _ _ h => by cases h⟩
 | f :: r,i,s,s',e,h2,hs => by
  unfold Nc at e
  split at e
  ·cases e
  ·rename_i hb
   split at e
   ·cases e
   ·rename_i s1 e1
    have hm : ∀ l ∈ [flo f.hyps,flo f.dummies],∀ h ∈ l,∃ a b,h.text = [a,b] := fun l hl h hh => by
     simp only [ai_,d_,or_false] at hl
     rcases hl with rfl | rfl <;> rw [Up] at hh <;> (have := cx_.1 hh; exact h2 f (bn_ ..) h (by simp [Fr.all,this.1]) (by simpa using this.2))
    obtain ⟨a1,a2,a3⟩ := Ahm e1 hm hs;obtain ⟨b1,b2,_⟩ := Alg e (fun x hx => h2 x (am_ _ hx)) a1
    refine ⟨b1,fun v hv => b2 v (a2 v hv),fun hi f' r' he => ?_⟩
    cases he
    refine ⟨by simpa using hb,fun h hh => b2 _ ?_⟩
    rcases bq_.1 hh with hh | hh
    ·exact a3 hi (flo f.hyps) (by simp) h hh
    ·exact a3 hi (flo f.dummies) (by simp) h hh
theorem Add {pw : Str -> Bool} {d : Db} (hc : E3 pw d = 0) (hn : d.frames ≠ []) {s : Ord} (hs : Nc d d.frames 0 ([],[]) = some s) : Px s /\ ∀ v ∈ d.vars,(s.1.get v).isSome = true := by
 obtain ⟨a1,_,a3⟩ := Alg hs (fun f hf h hh hff => ((Uo hc hf).1 h hh hff).1) (fun v h hv => by cases hv)
 refine ⟨a1,fun v hv => ?_⟩
 cases hfs : d.frames with
 | nil => exact absurd hfs hn
 | cons f r =>
  obtain ⟨b1,b2⟩ := a3 rfl f r hfs
  have hf : f ∈ d.frames := by rw [hfs]; exact bn_ ..
  obtain ⟨c1,c2⟩ := Uo hc hf;rw [Ars] at c2
  have bn : d.vars.length <= ((flo f.hyps ++ flo f.dummies).map txv).length := by
   unfold Apa at b1;simp only [cv_,fi_,decide_eq_true_eq] at b1;have := Int.ofNat.inj b1.1;simp only [by_,aw_];omega
  have cc : ∀ x ∈ (flo f.hyps ++ flo f.dummies).map txv,x ∈ d.vars := fun x hx => by
   obtain ⟨h,hh,rfl⟩ := cf_.1 hx
   have hm : h ∈ f.all /\ h.floating = true := by
    rw [Up,Up] at hh
    rcases bq_.1 hh with hh | hh <;> (have := cx_.1 hh; exact ⟨by simp [Fr.all,this.1],by simpa using this.2⟩)
   exact (c1 h hm.1 hm.2).2
  obtain ⟨h,hh,rfl⟩ := cf_.1 (Pw c2 cc bn v hv);exact b2 h hh
theorem Alh {vars : List Str} {s : Ord} (hs : Px s) : ∀ {n : Nat} {done : SM Bool} {out l : List Hp},Vx vars s n done out = some l -> (out.map txv).Nodup -> (∀ x ∈ out.map txv,x ∈ vars /\ done.has x = true) -> (∀ h ∈ out,∃ a b,h.text = [a,b]) ->
  l.length = out.length + n /\ (l.map txv).Nodup /\ (∀ x ∈ l.map txv,x ∈ vars) /\ ∀ h ∈ l,∃ a b,h.text = [a,b]
 | 0,done,out,l,e,h1,h2,h3 => by cases e; exact ⟨rfl,h1,fun x hx => (h2 x hx).1,h3⟩
 | n + 1,done,out,l,e,h1,h2,h3 => by
  unfold Vx at e
  split at e
  ·cases e
  ·rename_i v hv
   split at e
   ·cases e
   ·rename_i h hh
    obtain ⟨g1,g2⟩ := hs v h hh;have hm : v ∈ vars := List.mem_of_find?_eq_some hv;have hr := List.find?_some hv
    have hnd : done.has v = false := by
     unfold rdy at hr;simp only [ae_,bl_] at hr;exact hr.1
    obtain ⟨k1,k2,k3,k4⟩ := Alh hs e (by
      rw [ci_,er_]
      refine ⟨h1,by simp,fun x hx y hy => ?_⟩
      simp only [cd_,f_,an_] at hy;rw [hy,g1];intro e; subst e;have := (h2 x hx).2; rw [hnd] at this; cases this)
     (fun x hx => by
      rw [ci_,bq_] at hx;rw [SM.has_put]
      rcases hx with hx | hx
      ·exact ⟨(h2 x hx).1,by rw [(h2 x hx).2]; simp⟩
      ·simp only [cd_,f_,an_] at hx
       rw [hx,g1]; exact ⟨hm,by simp⟩)
     (fun x hx => by
      rcases bq_.1 hx with hx | hx
      ·exact h3 x hx
      ·rw [an_] at hx; subst hx; exact g2)
    exact ⟨by rw [k1,aw_]; simp; omega,k2,k3,k4⟩
theorem Ahn {pw : Str -> Bool} {d : Db} (hc : E3 pw d = 0) {l : List Hp} (h : Ee d = some l) : (∀ h ∈ l,∃ a b,h.text = [a,b]) /\ ∀ v ∈ d.vars,∃ h ∈ l,txv h = v := by
 unfold Ee at h
 split at h
 ·split at h
  ·rename_i hv; cases h
   exact ⟨fun _ h => (by cases h),fun v hv' => by rw [bk_ hv] at hv'; cases hv'⟩
  ·cases h
 ·rename_i hn
  split at h
  ·cases h
  ·rename_i s hs
   obtain ⟨a1,a2⟩ := Add hc (fun e => hn (by rw [e]; rfl)) hs
   obtain ⟨k1,k2,k3,k4⟩ := Alh a1 h et_ (fun _ h => by cases h) (fun _ h => by cases h)
   refine ⟨k4,fun v hv => ?_⟩
   obtain ⟨x,hx,e⟩ := cf_.1 (Pw k2 k3 (by rw [by_,k1]; simp) v hv)
   exact ⟨x,hx,e⟩
theorem f137' : ∀ s J,Cv 137 [sV s] J (.bool (!Ef s)) := f137
theorem Aho {d : Db} (h : E3 Ef d = 0) : (∀ f ∈ d.frames,∀ h ∈ f.all,h.floating = true -> ∃ a b,h.text = [a,b]) /\ (d.frames.length ≠ 0 -> ∀ s,Nc d d.frames 0 ([],[]) = some s -> ∀ v ∈ d.vars,(s.1.get v).isSome = true) :=
 ⟨fun f hf x hx hxf => ((Uo h hf).1 x hx hxf).1,fun hn s hs v hv => (Add h (fun e => hn (by rw [e]; rfl)) hs).2 v hv⟩
def Dv (d : Db) : Int := if E3 Ef d = 0 then (if (Ee d).isSome = true then 0 else 13) else E3 Ef d
def Bf (d : Db) : List Hp := if E3 Ef d = 0 then (Ee d).getD [] else []
def Ade (s : Str) : Bool := !decide (s = []) && decide (Int.ofNat s.length <= 60)
def Ahp (ss : List Str) (p : Pt) : Bool := if p.sort = [] then (Ade p.symbol && decide (p.arg = 0)) else (decide (p.symbol = []) && decide (p.sort ∈ ss))
theorem f81 (s : Str) (J : Sto) : Cv 81 [sV s] J (.bool (Ade s)) := by
 refine Ak Tryz.func81 rfl rfl fun hw hu0 => ?_
 refine G7 ?_;refine O1 (Lr (q := []) okC rfl rfl) ?_;refine G ?_;refine TAn 3 ?_ (fun hg => ?_) ?_
 rotate_left
 ·iterate 2 refine Gn hg ?_
  refine On hg (Rx (q := 60) okC rfl rfl) ?_;exact Ez
 refine G3 ?_;refine A2 hw rfl ?_;exact rfl
theorem f60 (d : Db) (J : Sto) (hB : DbB d) : Cv 60 [dbV d] J (.tup [slV eH 3 (Bf d),iV (Dv d)]) := by
 refine Ak Tryz.func60 rfl rfl fun hw hu0 => ?_
 refine G10 ?_;refine Af rfl rfl rfl rfl (f77 Ef f137' d J hB) ?_;refine G7 ?_;refine Ab rfl ?_ ?_ <;> intro h1
 ·refine G6 ?_
  have hE : Dv d = E3 Ef d := if_neg (by simpa using h1)
  have hL : Bf d = [] := if_neg (by simpa using h1)
  refine G ?_
  exact ⟨_,rfl,.tup [slV eH 3 (Bf d),iV (Dv d)],J,ag_ hw nl (fun _ _ => rfl),nl,by rw [hE,hL]; exact .tup (.cons Dd (.cons (.same rfl) .nil)),rfl,rfl⟩
 ·have hc : E3 Ef d = 0 := by simpa using h1
  refine G4 ?_;refine Af rfl rfl rfl rfl (f78 d J hB (Aho hc).1 (Aho hc).2) ?_;refine G12 ?_;refine Ab rfl ?_ ?_ <;> intro h2
  ·refine G5 ?_
   have hE : Dv d = 13 := by unfold Dv; rw [if_pos hc,if_neg (by simpa using h2)]
   have hL : Bf d = [] := by unfold Bf; rw [if_pos hc]; have h3 : (Ee d).isSome = false := (by simpa using h2); cases ho : Ee d with | none => rfl | some x => rw [ho] at h3; cases h3
   refine G ?_
   exact ⟨_,rfl,.tup [slV eH 3 (Bf d),iV (Dv d)],J,ag_ hw nl (fun _ _ => rfl),nl,by rw [hE,hL]; exact .tup (.cons Dd (.cons (.same rfl) .nil)),rfl,rfl⟩
  ·refine G7 ?_
   have hE : Dv d = 0 := by unfold Dv; rw [if_pos hc,if_pos (by simpa using h2)]
   have hL : Bf d = (Ee d).getD [] := by unfold Bf; rw [if_pos hc]
   refine G ?_
   exact ⟨_,rfl,.tup [slV eH 3 (Bf d),iV (Dv d)],J,ag_ hw nl (fun _ _ => rfl),nl,by rw [hE,hL]; exact .tup (.cons (.same (Ao6 _)) (.cons (.same rfl) .nil)),rfl,rfl⟩
theorem Aru (s : Str) (l : List Str) : (l.any fun x => decide (s = x)) = decide (s ∈ l) := by
 rw [fb_]; simp [ev_]
theorem f110 (p : Pt) (g : Gr) (J : Sto) (hb : g.sorts.length < 1000000) : Cv 110 [.agg (ePt p),grV g] J (.bool (Ahp g.sorts p)) := by
 refine Ak Tryz.func110 rfl rfl fun hw hu0 => ?_
 iterate 13 refine G ?_
 refine Ab rfl ?_ ?_ <;> intro h1
 ·refine G4 ?_;refine Af rfl rfl rfl rfl (f81 p.symbol _) ?_;refine G ?_;refine TAn 3 ?_ (fun hg => ?_) ?_
  rotate_left
  ·iterate 3 refine Gn hg ?_
   exact Ez
  refine G3 ?_;refine A2 hw rfl ?_
  exact congrArg AV.bool (by have h : p.sort = [] := (by simpa using h1); exact (if_pos h).symm)
 ·refine G7 ?_;refine TAn 5 ?_ (fun hg => ?_) ?_
  rotate_left
  ·iterate 4 refine Gn hg ?_
   refine Bg rfl rfl rfl (by rw [hg]; rfl) rfl rfl rfl rfl (f46 g.sorts p.sort J Om) ?_
   exact Ez
  refine G3 ?_;refine A2 hw rfl ?_
  exact congrArg AV.bool (by have h : ¬ p.sort = [] := (by simpa using h1); unfold Ahp; rw [if_neg h,← Aru])
theorem f109 (p : Pt) (g : Gr) (J : Sto) (hb : g.sorts.length < 1000000) : Cv 109 [.agg (ePt p),.pv [Aj g.sorts,slV eR 4 g.rules]] J (.bool (!Ahp g.sorts p)) := by
 refine Ak Tryz.func109 rfl rfl fun hw hu0 => ?_
 refine G9 ?_;refine Af rfl rfl rfl rfl (f110 p g J hb) ?_;refine G4 ?_;refine A2 hw rfl ?_;exact rfl
theorem f61 (h : Hp) (J : Sto) : Cv 61 [.agg (eH h)] J (.bool (!h.floating)) := by
 refine Ak Tryz.func61 rfl rfl fun hw hu0 => ?_
 iterate 13 refine G ?_
 refine A2 hw rfl ?_;exact rfl
def Uq (p : Pt) : Bool := !decide (p.sort = [])
def Hn (l : List Pt) : List Pt := l.filter Uq
theorem Aal {l : List Pt} {i : Nat} {p : Pt} (h : l[i]? = some p) : Hn (l.take (i + 1)) = Hn (l.take i) ++ (if Uq p = true then [p] else []) := by
 unfold Hn; rw [Bb h,dy_]; cases hb : Uq p <;> simp [hb]
theorem it225 (L : RF) (r : Rl) (J : Sto) (S : List Pt -> Sto -> Prop) (hb : r.parts.length < 1000000) (h0 : S [] J)
  (hy : ∀ (i : Nat) (p : Pt) (J' : Sto),r.parts[i]? = some p -> Uq p = true -> nx J <= nx J' -> S (Hn (r.parts.take i)) J' -> YTo Ew L [.agg (ePt p)] J' (fun J'' => S (Hn (r.parts.take i) ++ [p]) J'')) :
  Lt Ew L 149 [.yl L.aY,.pv (eR r)] J (S (Hn r.parts)) := by
 refine Aox Tryz.func149 rfl rfl rfl fun hw hu0 => ?_
 refine De (F0 (C7 ?_));refine G5 ?_;refine Qv ?_;refine Ac0 (fun i => [(0,.yl L.aY),(6,slV ePt 3 r.parts),(7,iV (.ofNat r.parts.length)),(8,iV (.ofNat i))]) (fun i J0 => i <= r.parts.length /\ S (Hn (r.parts.take i)) J0 /\ nx J <= nx J0) (fun i => r.parts.length - i) 0 SL ⟨ca_ _,h0,nl⟩ ?_
 rintro i J0 ⟨hi0,hS0,hn0⟩;refine De (F0 (C7 ?_));refine G2 ?_;refine De ?_;refine Md rfl ?_ ?_ <;> intro h1
 ·have bc : i < r.parts.length := by simpa using h1
  obtain ⟨p,hp⟩ := A3 bc;refine Mc ?_;refine De ?_;refine Qv ?_;refine De (F0 (C7 ?_));refine G4 ?_;refine De (Sk ?_);refine Im noR rfl rfl (B3 fdC rfl rfl) ?_;refine Im noR rfl rfl (Ah ldC rfl rfl rfl) ?_;refine Im noR rfl rfl (Lr (q := []) okC rfl rfl) ?_;refine Im noR rfl rfl (Cm rfl) ?_;have fin : ∀ (ρ : Ad) (J' : Sto),Ad.at ρ 8 = some (iV (.ofNat i)) -> Ad.at ρ 0 = some (.yl L.aY) -> Ad.at ρ 6 = some (slV ePt 3 r.parts) -> Ad.at ρ 7 = some (iV (.ofNat r.parts.length)) -> S (Hn (r.parts.take (i + 1))) J' -> nx J <= nx J' ->
    Lq [(0,.yl L.aY),(6,slV ePt 3 r.parts),(7,iV (.ofNat r.parts.length)),(8,iV (.ofNat i))] ρ /\ S (Hn (r.parts.take (i + 1))) J' /\ nx J <= nx J' := fun ρ J' e8 e0 e6 e7 hs hn => ⟨⟨e0,e6,e7,e8,trivial⟩,hs,hn⟩
  clear fin;cases hb : Uq p with
  | true =>
   have hb' : (!decide (p.sort = [])) = true := hb
   refine Ajm rfl rfl rfl rfl (by rw [hb']; rfl) noR rfl rfl (Cm rfl) ?_
   refine Ajm rfl rfl rfl rfl (by rw [hb']; rfl) noR rfl rfl (Ah ldC rfl rfl rfl) ?_
   refine Ac1 (fun tm ht => by rw [F8 ht rfl rfl rfl rfl]; rw [hb']; rfl) rfl rfl rfl rfl (hy i p J0 hp hb hn0 hS0) fun J1 hS1 hn1 => ?_
   refine Ajm rfl rfl rfl rfl (by rw [hb']; rfl) noR rfl rfl (M2 rfl) ?_
   refine Im noR rfl rfl (E5 rfl hb' rfl) ?_;refine Ug ?_
   refine Md rfl (fun h2 => by cases h2) (fun h2 => ?_)
   refine Mc ?_;refine F0 (C7 ?_);refine G3 ?_
   exact ⟨i + 1,by omega,SL,bc,by rw [Aal hp,if_pos hb]; exact hS1,bc_ hn0 hn1⟩
  | false =>
   have hb' : (!decide (p.sort = [])) = false := hb
   refine X8 rfl rfl rfl rfl rfl (by rw [hb']; rfl) rfl ?_
   refine X8 rfl rfl rfl rfl rfl (by rw [hb']; rfl) rfl ?_
   refine X8 rfl rfl rfl rfl rfl (by rw [hb']; rfl) rfl ?_
   refine X8 rfl rfl rfl rfl rfl (by rw [hb']; rfl) rfl ?_
   refine Im noR rfl rfl (Am rfl hb' rfl) ?_;refine Ug ?_
   refine Md rfl (fun h2 => by cases h2) (fun h2 => ?_)
   refine Mc ?_;refine F0 (C7 ?_);refine G3 ?_
   exact ⟨i + 1,by omega,SL,bc,by rw [Aal hp,if_neg (by rw [hb]; simp),cn_]; exact hS0,hn0⟩
 ·have bm : r.parts.length <= i := by simpa using h1
  refine Aha ?_
  show S (Hn r.parts) J0
  rw [ar_ bm] at hS0; exact hS0
end Go.AM
