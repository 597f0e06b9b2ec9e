/- A part of the proof; shortened by program. -/
import Derived.Test.YtcnkdbldfpaebaaGreatDoorP21
set_option maxRecDepth 100000
set_option maxHeartbeats 4000000
set_option linter.unusedSimpArgs false
set_option linter.unusedVariables false
namespace Go.AM
open Go Go.Proofs Go.RowKit
set_option maxRecDepth 1000000 in
theorem g289 (x : Nat) (w : World) : Calls Tryz.prog 206 #[.int .i32 x] w fun e w' => e = .returned (.bool (!prC x)) /\ Go.RowKit.Below w.heap.size w w' := by
  have e290 : ∀ args w,(callFunc 207 args).run Tryz.prog w = .ok (.enter 207 args) w := enters_of Tryz.func207 Kr rfl;obtain ⟨X,hX⟩ : ∃ X : Int,(x : Int) = X := ⟨_,rfl⟩;have hR := Ask x;rw [hX] at hR ⊢;unfold prC;cases h1 : decide ((97 : Int) <= X) <;> cases h2 : decide (X <= 122) <;> cases h3 : decide ((65 : Int) <= X) <;> cases h4 : decide (X <= 90) <;> cases h5 : decide ((48 : Int) <= X) <;> cases h6 : decide (X <= 57) <;>
  (go_enter Tryz.func206,Tryz.ntmps206
   go_wp2_with (go_at_fn 207; refine (hR _).mono ?_; rintro e w' ⟨rfl,hw⟩)
   go_ret
   first | exact ⟨rfl,Go.RowKit.Below.refl _ _⟩ | exact ⟨rfl,hw⟩)
theorem Ag4 {f : Nat} {args : List AV} {J : Sto} {b : Bool} (he : Zf Ew.P f) (h : ∀ C w (vs : Array Value),RL C (nx J) w args vs.toList -> Calls Ew.P f vs w (fun e w' => e = .returned (.bool b) /\ Go.RowKit.Below w.heap.size w w')) : A6 Ew f args J fun u τ => u = .bool b /\ τ = J := by
 intro C w vs hs hg ha;refine ⟨he,(h C w vs ha).mono fun e w' hq => ?_⟩
 obtain ⟨rfl,hb⟩ := hq;obtain ⟨k1,k2⟩ := hs.same hb.size hb.block ⟨hb.os,hb.output⟩
 exact ⟨.bool b,J,C,⟨rfl,rfl⟩,k1,k2,by unfold R; rfl⟩
def prS (s : Str) : Bool := decide (0 <= Lib.idxFunc (fun x => !prC x) true ⟨⟨s⟩⟩)
theorem Aun {C : Ctx} {N : Nat} {w : World} {k : Nat} {x : Value} (h : R C N w (.fn (.func k) [] []) x) : x = .func (.func k) #[] #[] := by
 unfold R at h;obtain ⟨a,b,rfl,h1,h2⟩ := h
 have e : ∀ a : Array Value,RL C N w [] a.toList -> a = #[] := fun a h => by
  obtain ⟨l⟩ := a;cases l with
  | nil => rfl
  | cons x r => unfold RL at h; exact h.elim
 rw [e a h1,e b h2]
theorem f205 (s : Str) (J : Sto) : Cv 205 [sV s,.fn (.func 206) [] []] J (.bool (prS s)) := by
 refine Ag4 ⟨_,Tryz.func205,rfl,rfl⟩ fun C w vs ha => ?_
 obtain ⟨x,y,rfl,hx,hy⟩ := Apy ha;obtain ⟨a,rfl,rfl⟩ := Apx hx;rw [Aun hy];have e289 : ∀ args w,(callFunc 206 args).run Tryz.prog w = .ok (.enter 206 args) w := enters_of Tryz.func206 Kr rfl;exact Any.strings_ContainsFunc_grows Tryz.laysGw17 206 #[] e289 (fun x => !prC x) a w fun W x _ _ => g289 x W
def Ei (s : Str) : Bool := (decide (s = [40]) || decide (s = [41])) || (!decide (s = []) && !prS s)
section
open Go Go.Proofs
abbrev e1 (s : Str) : List AV := [sV s]
def Ns (s : Str) : List Str := [[120],[36,112],[120],[36,61],s,[36,46]]
def Ae2 (s : Str) : Stm := ⟨7,[120],[[120]],[s]⟩
theorem Nt {N : Nat} (s : Str) : AV.unds N (e1 s) = true := rfl
theorem f202 (s : Str) (J : Sto) : Cv 202 [sV s] J (.bool (Ei s)) := by
 refine Az Tryz.func202 rfl rfl fun hw hu0 => ?_
 refine Ac (Aa (OA rfl (Ab (Ac (Ac (Aa (OM rfl ?_)))))));refine O1 (I0 (q := [40]) ok9 rfl rfl) (OM rfl ?_);refine Cm 2 _ ?_ rfl rfl rfl rfl rfl (Aw rfl) (fun hg => ?_) (fun hg => ?_) ?_
 rotate_left
 ·refine On hg (Ag rfl) (On hg (I0 (q := [41]) ok9 rfl rfl) (Ab ?_));refine ⟨rfl,?_,?_⟩
  ·exact sb
  ·exact rfl
 ·refine Of hg (Of hg (Ab ?_));exact ⟨rfl,sb⟩
 refine Ab ?_;refine Ah rfl ?_ ?_ <;> intro h1
 ·refine Ac (Aa (OA rfl (Ab ?_)));refine An (Bq hw rfl ?_)
  exact congrArg AV.bool (by unfold Ei; rw [show (decide (s = [40]) || decide (s = [41])) = true from h1]; rfl)
 ·refine Ai (Ac (Aa (OM rfl (O1 (Lx (q := []) ok9 rfl rfl) (OM rfl ?_)))));refine Cy 3 _ ?_ rfl rfl rfl rfl rfl (Aw rfl) (fun hg => ?_) (fun hg => ?_) ?_
  rotate_left
  ·refine On hg (Ag rfl) (B5 rfl rfl rfl (by rw [hg]; rfl) rfl rfl rfl rfl (f205 s _) ?_)
   refine On hg (Bb rfl) (Ab ?_);refine ⟨rfl,?_,?_⟩
   ·exact sb
   ·exact rfl
  ·refine Of hg (Of hg (Of hg (Ab ?_)));exact ⟨rfl,sb⟩
  refine OA rfl (Ab ?_);refine An (Bq hw rfl ?_)
  exact congrArg AV.bool (by unfold Ei; rw [show (decide (s = [40]) || decide (s = [41])) = false from h1]; rfl)
theorem f189 (s : Str) (J : Sto) : Cv 189 [.agg (stX s)] J (A3 (Ns s)) := by
 refine Az Tryz.func189 rfl rfl fun hw hu0 => ?_
 refine Ac (Aa (Ar Xh rfl rfl rfl (OA rfl (Ab (Ac (Aa (O1 (Ad Nl rfl rfl) ?_)))))))
 refine O1 (Ae ld3 rfl rfl rfl) (O1 (Lm Atj rfl rfl (by decide) (n := 7) rfl) ?_)
 refine O1 (Ae Alh rfl rfl rfl) (Bz Ati Alh rfl (fun _ => rfl) rfl rfl rfl rfl ?_)
 refine Ab (Ac (Aa (OA rfl (Ab (Ac (Ac (Aa ?_)))))));refine O1 (Ad Aey rfl rfl) (O1 (Ae ld4 rfl rfl rfl) (Ab ?_));refine Ah rfl ?_ ?_ <;> intro h1
 ·obtain ⟨v1,τ1,ha1,ho1,hb1,_⟩ := ej_ (by' := 16) (enc := e1) (fun _ => rfl) (Nat.le_refl (nx J)) (Own.nil (sz := 1)) [[120]] (by simp [sizeLim])
  have hB1 := hb1
  obtain ⟨v2,τ2,ha2,ho2,hb2,_⟩ := ej_ (by' := 16) (enc := e1) (fun _ => rfl) hB1.1 ho1 [[36,112]] (by simp [sizeLim])
  have hB2 := hB1.trans hb2
  obtain ⟨v3,τ3,ha3,ho3,hb3,_⟩ := ej_ (by' := 16) (enc := e1) (fun _ => rfl) hB2.1 ho2 [[120]] (by simp [sizeLim])
  have hB3 := hB2.trans hb3
  obtain ⟨v4,τ4,ha4,ho4,hb4,_⟩ := ej_ (by' := 16) (enc := e1) (fun _ => rfl) hB3.1 ho3 [[36,61]] (by simp [sizeLim])
  have hB4 := hB3.trans hb4
  obtain ⟨v5,τ5,ha5,ho5,hb5,_⟩ := ej_ (by' := 16) (enc := e1) (fun _ => rfl) hB4.1 ho4 [s] (by simp [sizeLim])
  have hB5 := hB4.trans hb5
  obtain ⟨v6,τ6,ha6,ho6,hb6,_⟩ := ej_ (by' := 16) (enc := e1) (fun _ => rfl) hB5.1 ho5 [[36,46]] (by simp [sizeLim])
  have hB6 := hB5.trans hb6;refine Aa (OM rfl (O1 (Ad Aex rfl rfl) (O1 (Ae ld9 rfl rfl rfl) (E6 (Bn Da byW rfl rfl rfl) (Gd (len := 1)) rfl rfl (O1 (B0 Da rfl Ee rfl rfl rfl (new := e1 [120]) rfl ha1) (OA rfl (Ab ?_)))))));refine Ac ?_;refine Ai4 (Rr := G5 []) (anns := [⟨.pure,0,0⟩,⟨.pure,0,0⟩,⟨.read,0,0⟩,⟨.pure,0,0⟩,⟨.eff,0,1⟩,⟨.pure,0,1⟩,⟨.read,0,1⟩,⟨.eff,1,2⟩,⟨.pure,2,2⟩]) A1 (As trivial) Kr ?_;refine DF (Ag rfl) (DF (Ad Asc rfl rfl) (DF (Ae ld9 rfl rfl rfl) (DF (Bn Da byW rfl rfl rfl) (DT (B0 Da rfl Ee rfl rfl rfl (new := e1 [36,112]) rfl ha2) (DF (Ad Nm rfl rfl) (DF (Ae Ce rfl rfl rfl) (DT (B0 Da rfl Ee rfl rfl rfl (new := [[120]].flatMap e1) (Ue (enc := e1) (sz := 1) (fun _ => rfl) _ _) ha3) ?_)))))))
  refine DF (Bk rfl) (Bi ?_);refine ⟨⟨trivial,trivial,fun τ _ => ⟨τ,Ae ld9 rfl rfl rfl⟩,trivial,trivial,trivial,fun τ _ => ⟨τ,Ae Ce rfl rfl rfl⟩,trivial,trivial,trivial⟩,?_⟩
  refine Ac (Ac (Aa (O1 (Ad Nl rfl rfl) (O1 (Ae ld3 rfl rfl rfl) (O1 (Do (q := 7) ok3 rfl rfl) (Ab ?_))))));refine Ah rfl ?_ ?_ <;> intro h2
  ·refine Ai4 (Rr := G5 []) (anns := [⟨.pure,0,0⟩,⟨.pure,0,0⟩,⟨.eff,0,1⟩,⟨.pure,0,1⟩,⟨.read,0,1⟩,⟨.eff,1,2⟩,⟨.pure,2,2⟩]) A1 (As trivial) Kr ?_;refine DF (Ag rfl) (DF (Bn Da byW rfl rfl rfl) (DT (B0 Da rfl Ee rfl rfl rfl (new := e1 [36,61]) rfl ha4) (DF (Ad Ul rfl rfl) (DF (Ae Ce rfl rfl rfl) (DT (B0 Da rfl Ee rfl rfl rfl (new := [s].flatMap e1) (Ue (enc := e1) (sz := 1) (fun _ => rfl) _ _) ha5) ?_)))))
   refine DF (Bk rfl) (Bi ?_);refine ⟨⟨trivial,trivial,trivial,trivial,fun τ _ => ⟨τ,Ae Ce rfl rfl rfl⟩,trivial,trivial,trivial⟩,?_⟩
   refine Ac (Ac (Aa (O1 (Ad Ali rfl rfl) (O1 (Ae ld3 rfl rfl rfl) (O1 (Ca (q := 0) ok3 rfl rfl) (Ab ?_))))));refine Ah rfl ?_ ?_ <;> intro h3
   ·refine Aa (OM rfl (E6 (Bn Da byW rfl rfl rfl) (Gd (len := 1)) rfl rfl (O1 (B0 Da rfl Ee rfl rfl rfl (new := e1 [36,46]) rfl ha6) (OA rfl (Ab (Ac (Aa ?_)))))));refine OM rfl (OA rfl (Ab ?_));refine An ?_;exact ⟨_,rfl,A3 (Ns s),J,ap_ hw hB6,nl,ho6.fz (fun _ => rfl) (fun a ha => hw.none ha) (Co Nt _),rfl,rfl⟩
   ·exact absurd h3 (by decide)
  ·exact absurd h2 (by decide)
 ·exact absurd h1 (by decide)
end
section
open Go Go.Proofs
def outX (s : Str) : Nat -> List Str
 | 0 => []
 | _ + 1 => Ns s
def Auo (s : Str) (b : Bool) : AV := if b = true then A3 (Ns s) else .nil (.slice none 0 0)
theorem f168 (s : Str) (J : Sto) : Cv 168 [slV eSt 4 [Ae2 s]] J (.tup [Auo s (Ei s),iV (if Ei s = true then 0 else 2)]) := by
 refine Az Tryz.func168 rfl rfl fun hw hu0 => ?_
 refine Ac (Aa (OA rfl (OA rfl (Ab (Ac (Ac (Aa ?_)))))));refine OM rfl (O1 (Aq Apq rfl) (O1 (Ca (q := 2000) ok3 rfl rfl) (Ab ?_)));refine Ah rfl ?_ ?_ <;> intro h1
 ·exact absurd h1 (by simp)
 ·refine Ai (Ac (Ac (Aa (OM rfl (Ap rfl rfl rfl rfl (f186 (fun _ => !Ei s) [Ae2 s] 187 [] J (by simp) (fun a ha => by simp at ha; subst ha; exact f187 s (Ei s) J (f202 s J))) ?_)))))
  refine Ab ?_;refine Ah rfl ?_ ?_ <;> intro h2
  ·refine Ac (Aa (OA rfl (OA rfl (Ab ?_))));refine An (Bq hw rfl ?_)
   exact (by rw [show Ei s = false from by simpa using h2]; rfl)
  ·refine Ai (Ac (Aa (OA rfl (Ab (Ac (Ac (Aa ?_)))))));refine OM rfl (O1 (Aq Apq rfl) (OM rfl (Ab (Am ?_))));refine Fi (fun q : Nat × AV => [(4,q.2),(12,slV eSt 4 [Ae2 s]),(13,iV (.ofNat [Ae2 s].length)),(14,iV (.ofNat q.1))]) (fun q J0 => q.1 <= [Ae2 s].length /\ Own J0 (nx J) e1 1 (outX s q.1) q.2 /\ Below (nx J) J J0) (fun q => [Ae2 s].length - q.1) (0,.nil (.slice none 0 0)) SL ⟨ch_ _,.nil,.rfl'⟩ ?_
   rintro ⟨i0,v0⟩ J0 hP0;obtain ⟨hi0,ck,cp⟩ : i0 <= [Ae2 s].length /\ Own J0 (nx J) e1 1 (outX s i0) v0 /\ Below (nx J) J J0 := hP0;refine Ac (Aa (O1 (A8 ok3 rfl rfl) (Ab (Ac ?_))));refine Ah rfl ?_ ?_ <;> intro h3
   ·have h3n := of_decide_eq_true h3
    have i1 : i0 = 0 := by simp at h3n; omega
    subst i1
    have bf : 0 < 1 := by omega
    have ha0 : [Ae2 s][0]? = some (Ae2 s) := rfl
    obtain ⟨v1,τ1,ha1,ho1,hb1,_⟩ := ej_ (by' := 16) (enc := e1) (fun _ => rfl) cp.1 ck (Ns s) (by simp [sizeLim,outX,Ns])
    refine Ai (Ac (Am (Ac (Aa (O1 (Ax Apr (fun _ => rfl) rfl rfl ha0) ?_)))))
    refine O1 (Ae Xh rfl rfl rfl) (Bz zi312 Xh rfl (fun _ => rfl) rfl rfl rfl rfl ?_)
    refine Ab (Ac (Aa (OM rfl (O1 (Ae Xh rfl rfl rfl) (Ap rfl rfl rfl rfl (f189 s _) (O1 (B0 Da rfl Ee rfl rfl rfl (new := (Ns s).flatMap e1) (Ue (enc := e1) (sz := 1) (fun _ => rfl) _ _) ha1) ?_))))))
    refine OA rfl (Ab (Ac (Aa (OM rfl (O1 (Em Ee rfl ho1.lenA.1 ho1.lenA.2) (O1 (Ca (q := 8000) ok3 rfl rfl) (Ab ?_)))))));refine Ah rfl ?_ ?_ <;> intro h4
    ·exact absurd h4 (by simp [outX,Ns])
    ·refine Ai (Aa (O1 (Ay (q := 1) ok3 rfl rfl Om) ?_));refine OM rfl (Ab ?_)
     refine ⟨(0 + 1,v1),by show 1 - 1 < 1 - 0; omega,SL,bf,ho1,cp.trans hb1⟩
   ·have h3n := of_decide_eq_false h3
    have nw : i0 = 1 := by have : i0 <= 1 := hi0; simp at h3n; omega
    subst nw;refine Ba ?_;refine Ac (Aa (OM rfl (OA rfl (OA rfl (Ab ?_)))))
    have hp : Ei s = true := by simpa using h2
    refine An ?_
    exact ⟨_,rfl,.tup [A3 (Ns s),iV 0],J,ap_ hw cp,nl,.tup (.cons (ck.fz (fun _ => rfl) (fun a ha => hw.none ha) (Co Nt _)) (.cons (.same rfl) .nil)),by rw [hp]; rfl,rfl⟩
theorem f139 (s : Str) (J : Sto) : Cv 139 [sV s] J (.bool (Ei s)) := by
 refine Az Tryz.func139 rfl rfl fun hw hu0 => ?_
 refine Ac (Aa (OA rfl (Ab (Ac (Aa (E6 (Bn Da byW rfl rfl rfl) (Gd (len := 1)) rfl rfl (OM rfl ?_)))))));refine E6 (Bn Da byW rfl rfl rfl) (Gd (len := 1)) rfl rfl (O1 (B1 bd312 rfl rfl) (E6 (Bn Apr byW rfl rfl rfl) (Gd (len := 1)) rfl rfl (Ap rfl rfl rfl rfl (f168 s _) (OM rfl (O1 (Al rfl rfl) (O1 (Al rfl rfl) (OA rfl ?_)))))));refine OA rfl (Ab (Ac (Aa (OM rfl (O1 (Do (q := 0) Jj rfl rfl) (OA rfl (Ab ?_)))))));refine An (Bq hw rfl ?_)
 exact (by cases Ei s <;> rfl)
theorem f138 (s : Str) (J : Sto) : Cv 138 [sV s] J (.bool (!Ei s)) := by
 refine Az Tryz.func138 rfl rfl fun hw hu0 => ?_
 refine Ac (Aa (OA rfl (Ab (Ac (Aa (OM rfl (Ap rfl rfl rfl rfl (f139 s _) ?_)))))));refine O1 (Bb rfl) (OA rfl (Ab ?_));refine An (Bq hw rfl ?_);exact rfl
end
section
open Go Go.Proofs
theorem Mh {ρ : Ao} {J : Sto} {Rr : Rec} {t r sz : Nat} {x y : Operand} {agg : Bool} {z : AV} {α : Type} {enc : α -> AV} {m : SM α} {s : Str} {v : α} (h9 : Gw Ew.P 9 = true) (hi : mpI Ew.P t = some (9,z,sz,agg)) (hx : A4 Ew ρ x = some (.mp r)) (hm : Bx enc J r m) (hy : A4 Ew ρ y = some (sV s)) (hg : m.get s = some v) :
  Bo Ew Rr (.lookup t x y false) ρ J (enc v) J := by
 have := Aej (Rr := Rr) h9 hi hx hm hy
 rwa [hg] at this
theorem Ap4 {ρ : Ao} {J : Sto} {Rr : Rec} {t r sz : Nat} {x y : Operand} {agg : Bool} {z : AV} {α : Type} {enc : α -> AV} {m : SM α} {s : Str} (h9 : Gw Ew.P 9 = true) (hi : mpI Ew.P t = some (9,z,sz,agg)) (hx : A4 Ew ρ x = some (.mp r)) (hm : Bx enc J r m) (hy : A4 Ew ρ y = some (sV s)) (hg : m.get s = none) :
  Bo Ew Rr (.lookup t x y false) ρ J z J := by
 have := Aej (Rr := Rr) h9 hi hx hm hy
 rwa [hg] at this
theorem Ap5 {ρ : Ao} {J : Sto} {Rr : Rec} {x : Operand} {hi : Option Operand} {l : List Hp} {n : Nat} (hx : A4 Ew ρ x = some (slV eH 3 l)) (h2 : Lk Ew ρ hi = some (some (iV (.ofNat n)))) (hn : n <= l.length) :
  Bo Ew Rr (.slice 56 x none hi none) ρ J (slV eH 3 (l.take n)) J := by
 have hb : D4 l.length none none (some (iV (.ofNat n))) none = some (0,n,none) := by
  have h3 : Nat.ble n l.length = true := ba_ hn;have h4 : Nat.ble 0 n = true := rfl;simp only [D4,iV,Lr,h3,h4,Pi,cond_true,cm_,Pj]
 have := Ai6 (Rr := Rr) (J := J) (lo := none) (hi := hi) (mx := none) Ih Qk hx rfl h2 rfl hb (ch_ _) hn;rw [gn_,el_] at this
 rwa [show slV eH 3 (l.take n) = .sv ((l.take n).flatMap eH) 3 n none by unfold slV; rw [bl_,fm_ hn]]
theorem Ag5 : ∀ {l m : List Str},l.flatMap (fun s => [sV s]) = m.flatMap (fun s => [sV s]) -> l = m
 | [],[],_ => rfl
 | [],_ :: _,h => by simp at h
 | _ :: _,[],h => by simp at h
 | a :: l,b :: m,h => by
  simp only [cn_,av_,br_,de_] at h
  have h1 : a = b := by have := h.1; unfold sV at this; injection this with this; exact Fj.1 this
  rw [h1,Ag5 h.2]
theorem Ap6 : ∀ {l m : List Hp},l.flatMap eH = m.flatMap eH -> l = m
 | [],[],_ => rfl
 | [],b :: _,h => by simp [eH] at h
 | a :: _,[],h => by simp [eH] at h
 | a :: l,b :: m,h => by
  simp only [cn_,eH,av_,br_,de_] at h;obtain ⟨h1,h2,h3,h4⟩ := h
  have e1 : a.label = b.label := by unfold sV at h1; injection h1 with h1; exact Fj.1 h1
  have e2 : a.floating = b.floating := by injection h2
  have e3 : a.text = b.text := by simp only [A3,slV,AV.sv.injEq] at h3; exact Ag5 h3.1
  rw [Ap6 h4];cases a; cases b; simp only at e1 e2 e3; subst e1 e2 e3; rfl
theorem Asl {l m : List Hp} (h : slV eH 3 l = slV eH 3 m) : l = m := by unfold slV at h; injection h with h; exact Ap6 h
theorem Ap7 {f : Nat} {a a' : List AV} {s : Sto} {v v' : AV} {r : List (Nat × List AV × Sto × AV × Sto)} (h : a' = a -> v = v') : G5 ((f,a,s,v,s) :: (f,a',s,v',s) :: r) (.fn f) a' s = some (v',s) := by
 by_cases e : a' = a
 ·unfold G5; rw [if_pos ⟨rfl,e,rfl⟩,h e]
 ·unfold G5; rw [if_neg (fun hh => e hh.2.1)]; unfold G5; rw [if_pos ⟨rfl,rfl,rfl⟩]
def Nu (d : Db) : AV := .tup [slV eH 3 ((Eu d).getD []),.bool (Eu d).isSome]
theorem Qm {d : Db} (hne : d.frames.length ≠ 0) (h : Nr d d.frames 0 ([],[]) = none) : Eu d = none := by unfold Eu; rw [if_neg hne,h]
theorem Acw {α : Type} {f : α -> Bool} : ∀ {l : List α} {p : α × List α},p ∈ F5 l -> l.all f = (f p.1 && p.2.all f)
 | [],p,h => by simp [F5] at h
 | x :: m,p,h => by
  simp only [F5,aj_,by_] at h
  rcases h with rfl | ⟨q,hq,rfl⟩
  ·rfl
  ·simp only [cx_,Acw hq];cases f x <;> cases f q.1 <;> rfl
theorem Yh {l : List Hp} {h : Hp} (hm : h ∈ flo l) : h ∈ l /\ h.floating = true := by
 have := ds_.1 hm
 exact ⟨this.1,by have h2 := this.2; simpa [Un] using h2⟩
theorem f112 (h : Hp) (J : Sto) : Cv 112 [.agg (eH h)] J (.bool h.floating) := by
 refine Az Tryz.func112 rfl rfl fun hw hu0 => ?_
 refine Ac (Aa (Ar D2 rfl rfl rfl (OA rfl (Ab (Ac (Aa (O1 (Ad I2 rfl rfl) ?_)))))));refine O1 (Ae ld4 rfl rfl rfl) (OA rfl (Ab ?_));refine An (Bq hw rfl ?_);exact rfl
theorem f91 (d : Db) (J : Sto) (hB : DbB d) (hfl : ∀ f ∈ d.frames,∀ h ∈ f.all,h.floating = true -> ∃ a b,h.text = [a,b]) (i5 : d.frames.length ≠ 0 -> ∀ s,Nr d d.frames 0 ([],[]) = some s -> ∀ v ∈ d.vars,(s.1.get v).isSome = true) : Cv 91 [dbV d] J (Nu d) := by
 refine Az Tryz.func91 rfl rfl fun hw hu0 => ?_
 refine Ac (Aa (Ar Hy rfl rfl rfl (OA rfl (OA rfl (Ab (Aru (Ac ?_)))))));refine Ac (Aa (O1 (Ad Sj rfl rfl) (O1 (Ae Ajh rfl rfl rfl) (O1 (Aq Aji rfl) (O1 (Do (q := 0) ok3 rfl rfl) (Ab ?_))))));refine Ah rfl ?_ ?_ <;> intro h1
 ·refine Ac ?_;refine Fx (anns := [aP 0 0,aR 0 0,aR 0 0,aP 0 0,aP 0 0,aP 0 0]) A1 Kr Kr ?_;refine DF (Ad Qe rfl rfl) (DF (Ae Ce rfl rfl rfl) (DF (Aq Ee rfl) (DF (Do (q := 0) ok3 rfl rfl) (DF (Bk rfl) (DF (Bk rfl) (Bi ?_))))));refine ⟨rfl,rfl,?_⟩
  have hfz : d.frames.length = 0 := by simpa using h1
  have e : Nu d = .tup [slV eH 3 [],.bool (decide (Int.ofNat d.vars.length = 0))] := by
   unfold Nu Eu; rw [if_pos hfz]
   by_cases hv : d.vars.length = 0
   ·rw [if_pos hv,hv]; rfl
   ·rw [if_neg hv,decide_eq_false (by simpa using hv)]; rfl
  refine An ?_
  exact ⟨_,rfl,Nu d,J,ag_ hw nl (fun _ _ => rfl),nl,by rw [e]; exact .tup (.cons Ds (.cons (.same rfl) .nil)),rfl,rfl⟩
 ·refine Ai (Ac (Aa (O1 (C6 (n := nx J) Qi rfl) (OA rfl (Ab (Ac (Aa ?_)))))));refine O1 (C6 (n := nx J + 1) Acr (nx1 rfl)) (OA rfl (Ab (Ac (Ac (Aa (O1 (Ad Sj rfl rfl) (O1 (Ae Ajh rfl rfl rfl) ?_)))))));refine O1 (Aq Aji rfl) (OM rfl (Ab ?_));have hbn := hB.n;have hbv := hB.v
  have hne : d.frames.length ≠ 0 := by simpa using h1
  have c9 : ∃ s,Oz J ((J.new (.map 9 [] 0)).new (.map 9 [] 0)) s /\ Nr d d.frames 0 ([],[]) = Nr d (d.frames.drop 0) 0 s := by
   refine ⟨([],[]),⟨by simp only [Aj]; omega,fun b hb => by rw [ab_,if_neg (by rw [Aj]; omega),ab_,if_neg Om],⟨0,by rw [ab_,if_neg (by rw [Aj]; omega),ab_,if_pos rfl]; rfl⟩,⟨[],⟨⟨0,by rw [ab_,if_pos (by rw [Aj])]; rfl⟩,fun _ => rfl,fun _ _ _ h => (by cases h),fun _ _ h => (by cases h),fun _ _ _ h => (by cases h)⟩⟩,fun _ => rfl⟩,rfl⟩
  refine Am ?_;refine B8 d.frames.length (fun i0 => [(1,.pv [A3 d.consts,A3 d.vars,slV eF 8 d.frames]),(4,.mp (nx J)),(5,.mp (nx J + 1)),(34,slV eF 8 d.frames),(35,iV (.ofNat d.frames.length)),(36,iV (.ofNat i0))]) (fun i0 J0 => ∃ s,Oz J J0 s /\ Nr d d.frames 0 ([],[]) = Nr d (d.frames.drop i0) i0 s) SL c9 ?_
  rintro i0 J0 hi0 ⟨s0,hO0,hf0⟩;refine Ac (Aa (O1 (A8 ok3 rfl rfl) (Ab (Ac ?_))));refine Ah rfl ?_ ?_ <;> intro h2
  ·have bf : i0 < d.frames.length := by simpa using h2
   obtain ⟨a0,ha0⟩ := Bt bf;have hd0 := Bh ha0;have hFa := hB.f a0 (af_ ha0);have bt := hFa.a
   have hdl : a0.dummies.length < 1000000 := by have := hFa.a; simp [Fr.all] at this; omega
   have hhl := hFa.h;have hs1 := Fy (p := Un) (l := a0.hyps);have hs2 := Fy (p := Un) (l := a0.dummies);have hs1' : (flo a0.hyps).length <= a0.hyps.length := hs1;have hs2' : (flo a0.dummies).length <= a0.dummies.length := hs2;refine Ai (Ac (Am (Ac (Aa (OM rfl (O1 (Ax el23 (fun _ => rfl) rfl rfl ha0) ?_))))))
   refine O1 (Ae Qf rfl rfl rfl) (Ub zi59 Qf rfl rfl (fun _ => rfl) rfl (fun _ => rfl) rfl rfl rfl rfl rfl ?_)
   refine Ab (Ac ?_);refine Uc (anns := [aP 0 0,aR 0 0,aE 0 1,aP 0 1,aR 0 1,aE 1 2,aP 2 2,aP 2 2]) A1 (As (l := [(111,[slV eH 3 a0.hyps],J0,slV eH 3 (flo a0.hyps),J0),(111,[slV eH 3 a0.dummies],J0,slV eH 3 (flo a0.dummies),J0)]) ⟨f111 a0.hyps J0 hFa.h,f111 a0.dummies J0 hdl,trivial⟩) Kr ?_
   refine DF (Ad Hf rfl rfl) (DF (Ae K7 rfl rfl rfl) (DT (Bl rfl rfl Bm) (DF (Ad Wg rfl rfl) (DF (Ae K7 rfl rfl rfl) (DT (Bl rfl rfl (Ap7 (fun e => by have := Asl (List.cons.inj e).1; rw [this]))) ?_)))))
   refine DF (Bk rfl) (DF (Bk rfl) (Bi ?_))
   refine ⟨rfl,by simp,?_⟩
   refine Ac (Ac (Aa (OM rfl (O1 (Aq F3 rfl) (OM rfl (O1 (Aq F3 rfl) (O1 (Ay ok3 rfl rfl Om) ?_)))))));refine O1 (Ad Qe rfl rfl) (O1 (Ae Ce rfl rfl rfl) (O1 (Aq Ee rfl) (O1 (Cx ok3 rfl rfl) (OM rfl ?_))));refine Cm 6 _ ?_ rfl rfl rfl rfl rfl (Aw rfl) (fun hg => ?_) (fun hg => ?_) ?_
   rotate_left
   ·refine On hg (Ad Hf rfl rfl) (On hg (Ae K7 rfl rfl rfl) (On hg (Ag rfl) (On hg (Aq F3 rfl) (On hg (Aek Ih Qk rfl rfl Fy) (B5 rfl rfl rfl (by rw [hg]; rfl) rfl rfl rfl rfl (f14 (fun h => h.floating) (a0.hyps.drop (flo a0.hyps).length) 112 [] J0 (by rw [cu_]; omega) (fun a _ => f112 a J0)) ?_)))))
    refine Ab ?_;refine ⟨rfl,?_,?_⟩
    ·exact sb
    ·exact rfl
   ·refine Of hg (Of hg (Of hg (Of hg (Of hg (Of hg (Ab ?_))))));exact ⟨rfl,sb⟩
   refine Ab ?_;refine Ah rfl ?_ ?_ <;> intro h3
   ·refine Ac (Aa (OA rfl (OA rfl (Ab ?_))))
    have hO : Eu d = none := Qm hne (by rw [hf0,hd0,Nr,if_pos (show Ap1 d a0 = true from h3)])
    refine An ?_
    exact ⟨_,rfl,.tup [slV eH 3 [],.bool false],J,ap_ hw ⟨by have := hO0.n; omega,hO0.g⟩,nl,.tup (.cons Ds (.cons (.same rfl) .nil)),by unfold Nu; rw [hO]; rfl,rfl⟩
   ·have h3' : Ap1 d a0 = false := h3;refine Ai (Ac (Aa (OM rfl (OM rfl (O1 (Agp (z := [.nil (.slice none 0 0),.nil (.slice none 0 0)]) Kr Ate rfl rfl) ?_)))));refine OM rfl (Ab (Am ?_));refine B8 2 (fun i2 => [(1,.pv [A3 d.consts,A3 d.vars,slV eF 8 d.frames]),(4,.mp (nx J)),(5,.mp (nx J + 1)),(6,iV (.ofNat i0)),(34,slV eF 8 d.frames),(35,iV (.ofNat d.frames.length)),(36,iV (.ofNat i0)),(66,.agg [slV eH 3 (flo a0.hyps),slV eH 3 (flo a0.dummies)]),(67,iV (.ofNat i2))]) (fun i2 J2 => ∃ s,Oz J J2 s /\ Oy i0 [flo a0.hyps,flo a0.dummies] s0 = Oy i0 ([flo a0.hyps,flo a0.dummies].drop i2) s) SL ⟨s0,hO0,rfl⟩ ?_
    rintro i2 J2 hi2 ⟨s2,hO2,hf2⟩;refine Ac (Aa (O1 (A8 (q := 2) ok3 rfl rfl) (Ab (Ac ?_))));refine Ah rfl ?_ ?_ <;> intro h4
    ·have br : i2 < 2 := by have h9 := of_decide_eq_true h4; simp at h9; omega
     have nz : ∀ a2,[flo a0.hyps,flo a0.dummies][i2]? = some a2 -> Iq 1 false (([slV eH 3 (flo a0.hyps),slV eH 3 (flo a0.dummies)] : List AV).drop (i2 * 1)) = some (slV eH 3 a2) := fun a2 ha => by
      match i2,br,ha with
      | 0,_,ha => cases ha; rfl
      | 1,_,ha => cases ha; rfl
     obtain ⟨a2,ha2⟩ := Bt (show i2 < [flo a0.hyps,flo a0.dummies].length from br)
     have hd2 := Bh ha2
     have ku : ∀ h ∈ a2,∃ a b,h.text = [a,b] := fun h hh => by
      have hm := af_ ha2;simp only [aj_,ct_,or_false] at hm
      rcases hm with rfl | rfl
      ·exact hfl a0 (af_ ha0) h (by simp [Fr.all,(Yh hh).1]) (Yh hh).2
      ·exact hfl a0 (af_ ha0) h (by simp [Fr.all,(Yh hh).1]) (Yh hh).2
     have hl2 : a2.length < 1000000 := by
      have hm := af_ ha2;simp only [aj_,ct_,or_false] at hm
      rcases hm with rfl | rfl <;> omega
     refine Ai (Ac (Am (Ac (Aa (O1 (Amz (v := slV eH 3 a2) Ate rfl rfl br (nz a2 ha2)) (OA rfl (Ab ?_)))))));refine Ac (Aa (OM rfl (O1 (Aq F3 rfl) (OM rfl (Ab (Am ?_))))));refine B8 a2.length (fun i4 => [(1,.pv [A3 d.consts,A3 d.vars,slV eF 8 d.frames]),(4,.mp (nx J)),(5,.mp (nx J + 1)),(6,iV (.ofNat i0)),(11,slV eH 3 a2),(34,slV eF 8 d.frames),(35,iV (.ofNat d.frames.length)),(36,iV (.ofNat i0)),(66,.agg [slV eH 3 (flo a0.hyps),slV eH 3 (flo a0.dummies)]),(67,iV (.ofNat i2)),(70,slV eH 3 a2),(71,iV (.ofNat a2.length)),(72,iV (.ofNat i4))]) (fun i4 J4 => ∃ s,Oz J J4 s /\ X2 i0 a2 a2 0 s2 = X2 i0 a2 (a2.drop i4) i4 s) SL ⟨s2,hO2,rfl⟩ ?_
     rintro i4 J4 hi4 ⟨s4,hO4,hf4⟩;refine Ac (Aa (O1 (A8 ok3 rfl rfl) (Ab (Ac ?_))));refine Ah rfl ?_ ?_ <;> intro h5
     ·have eo : i4 < a2.length := by simpa using h5
      obtain ⟨a4,ha4⟩ := Bt eo;have hd4 := Bh ha4;obtain ⟨t0,t1,htx⟩ := ku a4 (af_ ha4);have htv : txv a4 = t1 := Yg htx;refine Dp fun hw4 => ?_
      refine Ai (Ac (Am (Ac (Aa (OM rfl (O1 (Ax Ih (fun _ => rfl) rfl rfl ha4) ?_))))))
      refine O1 (Ae D2 rfl rfl rfl) (Ub Sm D2 rfl rfl (fun _ => rfl) rfl (fun _ => rfl) rfl rfl rfl rfl rfl ?_)
      refine Ab (Ac (Aa (O1 (Ad C7 rfl rfl) (O1 (Ae Ce rfl rfl rfl) (O1 (Ax Da (fun _ => rfl) rfl rfl (by rw [htx]; rfl : a4.text[1]? = some t1) (i := 1)) ?_)))))
      refine O1 (Ae ld9 rfl rfl rfl) (OA rfl (Ab ?_));refine Ai9 (fun L τ => L = [(1,.pv [A3 d.consts,A3 d.vars,slV eF 8 d.frames]),(4,.mp (nx J)),(5,.mp (nx J + 1)),(6,iV (.ofNat i0)),(11,slV eH 3 a2),(12,iV (.ofNat i4)),(13,.pv (eH a4)),(14,sV t1),(34,slV eF 8 d.frames),(35,iV (.ofNat d.frames.length)),(36,iV (.ofNat i0)),(66,.agg [slV eH 3 (flo a0.hyps),slV eH 3 (flo a0.dummies)]),(67,iV (.ofNat i2)),(70,slV eH 3 a2),(71,iV (.ofNat a2.length)),(72,iV (.ofNat i4))] /\ Oz J τ (O6 i0 a4 s4)) ?_ ?_
      ·refine Ac (Aa (OM rfl (O1 (Do (q := 0) ok3 rfl rfl) (Ab ?_))));refine Ah rfl ?_ ?_ <;> intro h6
       ·have i1 : i0 = 0 := by simpa using h6
        have hn4 := hO4.n;obtain ⟨refs4,hA4⟩ := id hO4.a;obtain ⟨v1,hv1⟩ := id hO4.o;obtain ⟨v2,hv2⟩ := id hA4.m
        have hm1 : (J4.new (.map 9 [] 0)).get (nx J) = some (.map 9 (Cp hV s4.1) v1) := by rw [ab_,if_neg (by have := hO4.n; omega)]; exact hv1
        have hm2 : (((J4.new (.map 9 [] 0)).set (nx J) (.map 9 (Sf hV (.agg [.str [],.bool false,.nil (.slice none 0 0)]) s4.1 t1) (v1 + 1))).new (.stamp (nx J) (v1 + 1) (kS t1))).get (nx (J4.new (.map 9 [] 0))) = some (.stamp (nx J) (v1 + 1) (kS t1)) := by rw [ab_,if_pos (by rw [Ak])]
        have hm3 : (((J4.new (.map 9 [] 0)).set (nx J) (.map 9 (Sf hV (.agg [.str [],.bool false,.nil (.slice none 0 0)]) s4.1 t1) (v1 + 1))).new (.stamp (nx J) (v1 + 1) (kS t1))).get (nx J) = some (.map 9 (Sf hV (.agg [.str [],.bool false,.nil (.slice none 0 0)]) s4.1 t1) (v1 + 1)) := by rw [ab_,if_neg (by rw [Ak,Aj]; have := hO4.n; omega),a_,if_pos rfl]
        have hm4 : ((((J4.new (.map 9 [] 0)).set (nx J) (.map 9 (Sf hV (.agg [.str [],.bool false,.nil (.slice none 0 0)]) s4.1 t1) (v1 + 1))).new (.stamp (nx J) (v1 + 1) (kS t1))).set (nx J) (.map 9 (Cp hV (s4.1.put t1 a4)) (v1 + 1 + 1))).get (nx J + 1) = some (.map 9 (Cp (fun q => AV.mp q) refs4) v2) := by rw [a_,if_neg Om,ab_,if_neg (by rw [Ak,Aj]; have := hO4.n; omega),a_,if_neg Om,ab_,if_neg (by have := hO4.n; omega)]; exact hv2
        have i7 : Oz J (((((J4.new (.map 9 [] 0)).set (nx J) (.map 9 (Sf hV (.agg [.str [],.bool false,.nil (.slice none 0 0)]) s4.1 t1) (v1 + 1))).new (.stamp (nx J) (v1 + 1) (kS t1))).set (nx J) (.map 9 (Cp hV (s4.1.put t1 a4)) (v1 + 1 + 1))).set (nx J + 1) (.map 9 (Cp (fun q => AV.mp q) (refs4.put t1 (nx J4))) (v2 + 1))) (O6 i0 a4 s4) := by
         rw [i1]
         refine hO4.first (ver := v1 + 1 + 1) (ver2 := v2 + 1) hA4 hw4 (by simp only [Ak,Aj]; omega) (by rw [htv,a_,if_neg Om,a_,if_pos rfl]) (by rw [htv,a_,if_pos rfl]) ⟨0,?_⟩ (fun b h8 h9 h10 => ?_)
         ·rw [a_,if_neg Om,a_,if_neg Om,ab_,if_neg (by rw [Ak,Aj]; omega),a_,if_neg Om,ab_,if_pos rfl]; rfl
         ·rw [a_,if_neg Om,a_,if_neg Om,ab_,if_neg (by rw [Ak,Aj]; omega),a_,if_neg Om,ab_,if_neg Om]
        skip
        refine Aa (OM rfl (OM rfl (OM rfl (OM rfl (O1 (Ae D2 rfl rfl rfl) (Ap rfl rfl rfl rfl (f113 a4 J4 (by rw [htx]; simp)) ?_))))))
        refine O1 (Ga Cz) (O1 (Ago (enc := hV) (m := s4.1) (s := t1) st9 Qi rfl (hm1 : (J4.new (.map 9 [] 0)).get (nx J) = some (.map 9 (Cp hV s4.1) v1)) rfl) (O1 (Al rfl rfl) (O1 (Abn (enc := hV) (m := s4.1) (s := t1) (v := a4) Qi rfl rfl rfl (fun te k1 k2 => Ft k1 k2 rfl) (hm2 : (((J4.new (.map 9 [] 0)).set (nx J) (.map 9 (Sf hV (.agg [.str [],.bool false,.nil (.slice none 0 0)]) s4.1 t1) (v1 + 1))).new (.stamp (nx J) (v1 + 1) (kS t1))).get (nx (J4.new (.map 9 [] 0))) = _) (hm3 : (((J4.new (.map 9 [] 0)).set (nx J) (.map 9 (Sf hV (.agg [.str [],.bool false,.nil (.slice none 0 0)]) s4.1 t1) (v1 + 1))).new (.stamp (nx J) (v1 + 1) (kS t1))).get (nx J) = _)) ?_)))
        refine O1 (E8 (v := nx J4) (enc := fun q => AV.mp q) st9 Acr rfl (hm4 : ((((J4.new (.map 9 [] 0)).set (nx J) (.map 9 (Sf hV (.agg [.str [],.bool false,.nil (.slice none 0 0)]) s4.1 t1) (v1 + 1))).new (.stamp (nx J) (v1 + 1) (kS t1))).set (nx J) (.map 9 (Cp hV (s4.1.put t1 a4)) (v1 + 1 + 1))).get (nx J + 1) = some (.map 9 (Cp (fun q => AV.mp q) refs4) v2)) rfl rfl (fun te k1 k2 => by first | exact Fq k1 k2 | exact Fs k1 k2 | exact Ge k1 k2 | exact Gf k1 k2 | exact Ft k1 k2 rfl)) ?_
        refine Ab ?_;exact ⟨[(1,.pv [A3 d.consts,A3 d.vars,slV eF 8 d.frames]),(4,.mp (nx J)),(5,.mp (nx J + 1)),(6,iV (.ofNat i0)),(11,slV eH 3 a2),(12,iV (.ofNat i4)),(13,.pv (eH a4)),(14,sV t1),(34,slV eF 8 d.frames),(35,iV (.ofNat d.frames.length)),(36,iV (.ofNat i0)),(66,.agg [slV eH 3 (flo a0.hyps),slV eH 3 (flo a0.dummies)]),(67,iV (.ofNat i2)),(70,slV eH 3 a2),(71,iV (.ofNat a2.length)),(72,iV (.ofNat i4))],SL,rfl,i7⟩
       ·refine Ai ?_
        exact ⟨[(1,.pv [A3 d.consts,A3 d.vars,slV eF 8 d.frames]),(4,.mp (nx J)),(5,.mp (nx J + 1)),(6,iV (.ofNat i0)),(11,slV eH 3 a2),(12,iV (.ofNat i4)),(13,.pv (eH a4)),(14,sV t1),(34,slV eF 8 d.frames),(35,iV (.ofNat d.frames.length)),(36,iV (.ofNat i0)),(66,.agg [slV eH 3 (flo a0.hyps),slV eH 3 (flo a0.dummies)]),(67,iV (.ofNat i2)),(70,slV eH 3 a2),(71,iV (.ofNat a2.length)),(72,iV (.ofNat i4))],SL,rfl,by have h9 : i0 ≠ 0 := (by simpa using h6); unfold O6; rw [if_neg h9]; exact hO4⟩
      ·rintro L τ ⟨rfl,hO5⟩;obtain ⟨refs,hA5⟩ := id hO5.a;have hn5 := hO5.n
       rcases hq : refs.get t1 with _ | q
       ·refine Ac (Ac (Aa (OM rfl (OM rfl (O1 (Ap4 st9 Acr rfl hA5.m rfl hq) (O1 (Ao4 Cz rfl) (OM rfl ?_)))))));refine Cm 6 true false rfl rfl rfl rfl rfl (Aw rfl) (fun hg => ?_) (fun hg => ?_) ?_
        ·cases hg
        ·refine Of hg (Of hg (Of hg (Of hg (Of hg (Of hg (Ab ?_))))));exact ⟨rfl,sb⟩
        refine Ab ?_
        refine Ah rfl (fun h7 => ?_) (fun h7 => by cases h7)
        refine Ac (Aa (OA rfl (OA rfl (Ab ?_))))
        have hH : Ag3 i0 (a2.take i4) a4 s4 = none := by
         have hAn := hA5.s t1;rw [hq] at hAn;unfold Ag3; rw [htv];cases hx : (O6 i0 a4 s4).2.get t1 with
         | none => rfl
         | some a => rw [hx] at hAn; cases hAn
        have e1 : X2 i0 a2 a2 0 s2 = none := by rw [hf4,hd4,X2,hH]
        have e2 : Oy i0 [flo a0.hyps,flo a0.dummies] s0 = none := by rw [hf2,hd2,Oy,e1]
        have e3 : Nr d d.frames 0 ([],[]) = none := by rw [hf0,hd0,Nr,if_neg (fun hh => Bool.noConfusion (h3'.symm.trans hh)),e2]
        have hO : Eu d = none := Qm hne e3;refine An ?_
        exact ⟨_,rfl,.tup [slV eH 3 [],.bool false],J,ap_ hw ⟨by omega,hO5.g⟩,nl,.tup (.cons Ds (.cons (.same rfl) .nil)),by unfold Nu; rw [hO]; rfl,rfl⟩
       have hqn := hA5.n t1 q hq;have hAq := hA5.s t1;rw [hq] at hAq;obtain ⟨aS,haS⟩ := bp_.1 hAq.symm;have hk5 := hO5.k t1;rw [haS] at hk5;obtain ⟨h1H,h1e⟩ := bp_.1 hk5;refine Ac (Ac (Aa (OM rfl (OM rfl (O1 (Mh (v := q) (enc := fun q => AV.mp q) st9 Acr rfl hA5.m rfl hq) ?_)))))
       refine O1 (Ao3 Cz rfl) (OM rfl ?_);refine Cm 6 _ ?_ rfl rfl rfl rfl rfl (Aw rfl) (fun hg => ?_) (fun hg => ?_) ?_
       rotate_left
       ·refine On hg (Ag rfl) (On hg (Ag rfl) (On hg (Mh (v := h1H) (enc := hV) st9 Qi rfl hO5.o rfl h1e) (On hg (Ae D2 rfl rfl rfl) (B5 rfl rfl rfl (by rw [hg]; rfl) rfl rfl rfl rfl (f114 h1H a4 τ (by rw [htx]; simp)) ?_))))
        refine On hg (Bb rfl) (Ab ?_);refine ⟨rfl,?_,?_⟩
        ·exact sb
        ·exact rfl
       ·cases hg
       refine Ab ?_;refine Ah rfl ?_ ?_ <;> intro h7
       ·refine Ac (Aa (OA rfl (OA rfl (Ab ?_))))
        have hH : Ag3 i0 (a2.take i4) a4 s4 = none := by
         unfold Ag3; rw [htv,haS];simp only [h1e]
         rw [if_neg (by show ¬ All h1H a4 = true; simpa using h7)]
        have e1 : X2 i0 a2 a2 0 s2 = none := by rw [hf4,hd4,X2,hH]
        have e2 : Oy i0 [flo a0.hyps,flo a0.dummies] s0 = none := by rw [hf2,hd2,Oy,e1]
        have e3 : Nr d d.frames 0 ([],[]) = none := by rw [hf0,hd0,Nr,if_neg (fun hh => Bool.noConfusion (h3'.symm.trans hh)),e2]
        have hO : Eu d = none := Qm hne e3;refine An ?_
        exact ⟨_,rfl,.tup [slV eH 3 [],.bool false],J,ap_ hw ⟨by omega,hO5.g⟩,nl,.tup (.cons Ds (.cons (.same rfl) .nil)),by unfold Nu; rw [hO]; rfl,rfl⟩
       ·have hsm : All h1H a4 = true := by simpa using h7
        refine Ai (Ac (Aa (OM rfl (OM rfl (O1 (Ap5 rfl rfl Om) ?_)))));refine O1 (Aq F3 rfl) (OM rfl (Ab (Am ?_)));refine B8 (a2.take i4).length (fun i6 => [(1,.pv [A3 d.consts,A3 d.vars,slV eF 8 d.frames]),(4,.mp (nx J)),(5,.mp (nx J + 1)),(6,iV (.ofNat i0)),(11,slV eH 3 a2),(14,sV t1),(34,slV eF 8 d.frames),(35,iV (.ofNat d.frames.length)),(36,iV (.ofNat i0)),(66,.agg [slV eH 3 (flo a0.hyps),slV eH 3 (flo a0.dummies)]),(67,iV (.ofNat i2)),(70,slV eH 3 a2),(71,iV (.ofNat a2.length)),(72,iV (.ofNat i4)),(106,slV eH 3 (a2.take i4)),(107,iV (.ofNat (a2.take i4).length)),(108,iV (.ofNat i6))]) (fun i6 J6 => E7 J6 q (Ane aS ((a2.take i4).take i6)) /\ nx J6 = nx τ /\ ∀ b,b ≠ q -> J6.get b = τ.get b) SL ⟨hA5.a t1 q aS hq haS,rfl,fun _ _ => rfl⟩ ?_
        rintro i6 J6 hi6 ⟨hs6,hn6,hg6⟩;refine Ac (Aa (O1 (A8 ok3 rfl rfl) (Ab (Ac ?_))));refine Ah rfl ?_ ?_ <;> intro h8
        ·have jb : i6 < (a2.take i4).length := by simpa using h8
         obtain ⟨a6,ha6⟩ := Bt jb;have hd6 := Bh ha6;have ha6m : a6 ∈ a2 := cy_ (af_ ha6);obtain ⟨u0,u1,hux⟩ := ku a6 ha6m;obtain ⟨v6,hv6⟩ := id hs6
         have hlt6' : i6 < a2.length := by have h11 := jb; rw [bl_] at h11; omega
         refine Ai (Ac (Am (Ac (Aa (O1 (Ax Ih (fun _ => rfl) rfl rfl ha6) ?_)))))
         refine O1 (Ae D2 rfl rfl rfl) (Bz Sm D2 rfl (fun _ => rfl) rfl rfl rfl rfl ?_)
         refine Ab ?_;refine Cc (anns := [aP 0 0,aP 0 0,aR 0 0,aP 0 0,aR 0 0,aP 0 0,aR 0 0,aE 0 1]) A1 (As (l := []) trivial) Kr Kr ?_;refine DF (Ag rfl) (DF (Ag rfl) (DF (Mh (v := q) (enc := fun q => AV.mp q) st9 Acr rfl (hA5.m.of_get (hg6 _ Om)) rfl hq) ?_))
         refine DF (Ad C7 rfl rfl) (DF (Ae Ce rfl rfl rfl) (DF (Ax Da (fun _ => rfl) rfl rfl (by rw [hux]; rfl : a6.text[1]? = some u1) (i := 1)) ?_))
         refine DF (Ae ld9 rfl rfl rfl) (DT (E8 (v := true) st9 Cz rfl hv6 rfl rfl (fun te k1 k2 => by first | exact Fq k1 k2 | exact Fs k1 k2 | exact Ge k1 k2 | exact Gf k1 k2 | exact Ft k1 k2 rfl)) ?_)
         refine Bi (Aa (O1 (Ay (q := 1) ok3 rfl rfl Om) ?_));refine OM rfl (Ab ?_)
         refine ⟨jb,SL,by rw [Ci ha6,Anf,Yg hux]; exact dh_,by rw [Ak]; exact hn6,fun b hb => by rw [a_,if_neg Om]; exact hg6 b hb⟩
        ·have ny : (a2.take i4).length <= i6 := by simpa using h8
         rw [at_ ny] at hs6;refine Ba ?_;refine Aa (O1 (Ay (q := 1) ok3 rfl rfl Om) ?_);refine OM rfl (Ab ?_)
         refine ⟨eo,SL,((O6 i0 a4 s4).1,(O6 i0 a4 s4).2.put t1 (Ane aS (a2.take i4))),hO5.turn hA5 hq (by rw [hn6]; exact nl) hs6 hg6,by rw [hf4,hd4,X2,Ag3,htv,haS]; simp only [h1e]; rw [if_pos (show Aln (some h1H) a4 = true from hsm)]⟩
     ·have jc : a2.length <= i4 := by simpa using h5
      have hL4 : X2 i0 a2 a2 0 s2 = some s4 := by rw [hf4,ah_ jc]; rfl
      refine Ba ?_;refine Aa (O1 (Ay (q := 1) ok3 rfl rfl Om) ?_);refine OM rfl (Ab ?_)
      refine ⟨br,SL,s4,hO4,by rw [hf2,hd2,Oy,hL4]⟩
    ·have b8 : 2 <= i2 := by have h9 := of_decide_eq_false h4; simp at h9; omega
     have hLs : Oy i0 [flo a0.hyps,flo a0.dummies] s0 = some s2 := by rw [hf2,ah_ (show [flo a0.hyps,flo a0.dummies].length <= i2 from b8)]; rfl
     refine Ba ?_;refine Aa (O1 (Ay (q := 1) ok3 rfl rfl Om) ?_);refine OM rfl (Ab ?_)
     refine ⟨bf,SL,s2,hO2,by rw [hf0,hd0,Nr,if_neg (fun hh => Bool.noConfusion (h3'.symm.trans hh)),hLs]⟩
  ·have bq : d.frames.length <= i0 := by simpa using h2
   have hF : Nr d d.frames 0 ([],[]) = some s0 := by rw [hf0,ah_ bq]; rfl
   have hcv := i5 hne s0 hF;obtain ⟨refs,hA0⟩ := id hO0.a;have hn0 := hO0.n;refine Dp fun hw0 => ?_
   refine Ba ?_;refine Ac (Aa (OA rfl (Ab (Ac (Aa (O1 (C6 (n := nx J0) Cz rfl) (OA rfl ?_)))))));refine Ab (Ac (Art (Ac (Am ?_))));refine Fi (fun q : AV × SM Bool × List Hp => [(1,.pv [A3 d.consts,A3 d.vars,slV eF 8 d.frames]),(4,.mp (nx J)),(5,.mp (nx J + 1)),(17,q.1),(18,.mp (nx J0))])
    (fun q J8 => Own J8 (nx J0 + 1) eH 3 q.2.2 q.1 /\ E7 J8 (nx J0) q.2.1 /\ nx J0 + 1 <= nx J8 /\ (∀ b,b < nx J0 -> J8.get b = J0.get b) /\ q.2.2.length <= d.vars.length /\ Wh d.vars s0 d.vars.length [] [] = Wh d.vars s0 (d.vars.length - q.2.2.length) q.2.1 q.2.2)
    (fun q => d.vars.length - q.2.2.length) (.nil (.slice none 0 0),[],[]) SL ⟨.nil,⟨0,by rw [ab_,if_pos rfl]; rfl⟩,by rw [Aj]; exact nl,fun b hb => by rw [ab_,if_neg Om],ch_ _,rfl⟩ ?_
   rintro ⟨vo,done,out⟩ J8 ⟨dt,hd8,hn8,hg8,hl8,hf8⟩;simp only at dt hd8 hl8 hf8;refine Ac (Ac (Aa (OM rfl (O1 (Em F3 rfl dt.lenA.1 dt.lenA.2) (O1 (Ad Qe rfl rfl) (O1 (Ae Ce rfl rfl rfl) (O1 (Aq Ee rfl) ?_)))))));refine O1 (A8 ok3 rfl rfl) (Ab ?_);refine Ah rfl ?_ ?_ <;> intro h3
   ·have hlt8 : out.length < d.vars.length := by simpa using h3
    refine Ai (Am (Ac (Ac (Aa (O1 (Ad Qe rfl rfl) (O1 (Ae Ce rfl rfl rfl) (O1 (Aq Ee rfl) ?_)))))));refine OM rfl (Ab (Am ?_));refine B8 d.vars.length (fun i10 => [(1,.pv [A3 d.consts,A3 d.vars,slV eF 8 d.frames]),(4,.mp (nx J)),(5,.mp (nx J + 1)),(17,vo),(18,.mp (nx J0)),(131,A3 d.vars),(132,iV (.ofNat d.vars.length)),(133,iV (.ofNat i10))])
     (fun i10 J10 => Own J10 (nx J0 + 1) eH 3 out vo /\ E7 J10 (nx J0) done /\ nx J0 + 1 <= nx J10 /\ (∀ b,b < nx J0 -> J10.get b = J0.get b) /\ d.vars.find? (rdy s0.2 done) = (d.vars.drop i10).find? (rdy s0.2 done)) SL ⟨dt,hd8,hn8,hg8,rfl⟩ ?_
    rintro i10 J10 hi10 ⟨jd,kh,hn10,bj,jf⟩;refine Dp fun hw10 => ?_
    refine Ac (Aa (O1 (A8 ok3 rfl rfl) (Ab (Ac ?_))));refine Ah rfl ?_ ?_ <;> intro h4
    ·have im : i10 < d.vars.length := by simpa using h4
     obtain ⟨v10,jg⟩ := Bt im;have ip := Bh jg;obtain ⟨h1H,h1e⟩ := bp_.1 (hcv v10 (af_ jg));have hk0 := hO0.k v10;rw [h1e] at hk0;obtain ⟨aS,haS⟩ := bp_.1 hk0.symm;have ke := hA0.s v10;rw [haS] at ke;obtain ⟨q,hq⟩ := bp_.1 ke;have hqs := hA0.a v10 q aS hq haS;have ns : q < nx J0 := hqs.lt hw0;obtain ⟨vq,hvq⟩ := hqs;have f8 : J10.get q = some (.map 9 (Cp bV aS) vq) := (bj q ns).trans hvq;refine Ai (Ac (Am (Ac (Aa (O1 (Ax Da (fun _ => rfl) rfl rfl jg) ?_)))))
     refine O1 (Ae ld9 rfl rfl rfl) (OA rfl (Ab (Ac (Aa (OM rfl (OM rfl (O1 (De st9 Cz rfl kh rfl) ?_)))))));refine O1 (Bb rfl) (OA rfl (Ab (Ac (Ac (Aa (OM rfl (OM rfl ?_)))))));refine O1 (Mh (v := q) (enc := fun q => AV.mp q) st9 Acr rfl (hA0.m.of_get (bj _ Om)) rfl hq) ?_
     refine O1 (Agm Cz rfl f8) (Ab (Am ?_));refine Fi (fun q12 : Bool × SM Bool => [(1,.pv [A3 d.consts,A3 d.vars,slV eF 8 d.frames]),(4,.mp (nx J)),(5,.mp (nx J + 1)),(17,vo),(18,.mp (nx J0)),(20,sV v10),(21,.bool q12.1),(131,A3 d.vars),(132,iV (.ofNat d.vars.length)),(133,iV (.ofNat i10)),(144,.it (nx J10))])
      (fun q12 J12 => (∃ cur,J12.get (nx J10) = some (.iter (some q) vq (Cp bV q12.2) cur)) /\ nx J12 = nx J10 + 1 /\ (∀ b,b < nx J10 -> J12.get b = J10.get b) /\ rdy s0.2 done v10 = (q12.1 && q12.2.all fun p => done.has p.1))
      (fun q12 => q12.2.length) (!done.has v10,aS) SL
      ⟨⟨none,by rw [ab_,if_pos rfl]⟩,Aj _ _,fun b hb => by rw [ab_,if_neg Om],by unfold rdy; rw [haS]; rfl⟩ ?_
     rintro ⟨ready,left⟩ J12 ⟨⟨cur,hit⟩,nu,ew,jj⟩;simp only at hit jj;have ko : E7 J12 (nx J0) done := kh.of_get (ew _ Om);have jk : Own J12 (nx J0 + 1) eH 3 out vo := jd.mono Om fun a tl _ _ h9 _ => ew a h9
     refine Ac ?_
     refine Ao9 rfl rfl rfl hit (by show (match J12.get q with | some (.map _ _ v) => Nat.beq v vq | _ => false) = true; rw [ew q Om,f8]; exact bg_ _) (fun h0 => ?_) (fun p hp => ?_)
     ·have h0' : left = [] := by cases left with
       | nil => rfl
       | cons x l => cases h0
      subst h0'
      have hr : rdy s0.2 done v10 = ready := by rw [jj]; simp
      have ga : E7 (J12.set (nx J10) (.iter (some q) vq [] none)) (nx J0) done := ko.set Om
      have gb : Own (J12.set (nx J10) (.iter (some q) vq [] none)) (nx J0 + 1) eH 3 out vo := jk.mono (by rw [Ak]; exact nl) fun a tl _ _ h9 h10 => by
       rw [a_,if_neg]; intro hh; have hh : a = nx J10 := by omega
       subst hh; rw [hit] at h10; cases h10
      refine O1 (Al rfl rfl) (Ab (Ac ?_))
      refine Ah rfl (fun h5 => by cases h5) (fun h5 => ?_)
      refine Ba ?_;refine Ac (Aa (OM rfl (Ab ?_)));refine Ah rfl ?_ ?_ <;> intro h6
      ·have hr6 : ready = true := h6
       have hfd : d.vars.find? (rdy s0.2 done) = some v10 := by rw [jf,ip,List.find?_cons,hr,hr6]
       obtain ⟨vd,hvd⟩ := id ga
       have jm : Own ((J12.set (nx J10) (.iter (some q) vq [] none)).set (nx J0) (.map 9 (Cp bV (done.put v10 true)) (vd + 1))) (nx J0 + 1) eH 3 out vo := gb.mono (by simp only [Ak]; exact nl) fun a tl _ h8 h9 _ => by rw [a_,if_neg Om]
       have mb : nx J0 + 1 <= nx ((J12.set (nx J10) (.iter (some q) vq [] none)).set (nx J0) (.map 9 (Cp bV (done.put v10 true)) (vd + 1))) := by rw [Ak,Ak]; omega
       have bh : (out.length + [h1H].length) * (48 + 1) <= sizeLim := by simp [sizeLim]; omega
       obtain ⟨v1,τ1,hap,ho1,hb1,_⟩ := jm.app (by' := 48) Qk mb [h1H] bh
       have bk : ∀ b,b < nx J0 -> ((J12.set (nx J10) (.iter (some q) vq [] none)).set (nx J0) (.map 9 (Cp bV (done.put v10 true)) (vd + 1))).get b = J0.get b := fun b hb => by
        rw [a_,if_neg Om,a_,if_neg Om,ew b Om,bj b hb]
       refine Ac (Aa (OM rfl (OM rfl (O1 (E8 (v := true) st9 Cz rfl hvd rfl rfl (fun te k1 k2 => Fq k1 k2)) ?_))))
       refine Ab (Ac (Aa (OM rfl (OM rfl (OM rfl (O1 (Mh (v := h1H) (enc := hV) st9 Qi rfl (hO0.o.of_get (bk _ Om)) rfl h1e) ?_))))));refine E6 (Bn Ih byW rfl rfl rfl) (Gd (len := 1)) rfl rfl (O1 (B0 Ih rfl F3 rfl rfl rfl (new := eH h1H) rfl hap) (OA rfl (Ab ?_)));refine Ba ?_
       refine ⟨(v1,done.put v10 true,out ++ [h1H]),by show d.vars.length - (out ++ [h1H]).length < d.vars.length - out.length; rw [az_]; simp; omega,SL,ho1,⟨vd + 1,?_⟩,ax_ mb hb1.1,fun b hb => (hb1.2 b Om).trans (bk b hb),by show (out ++ [h1H]).length <= _; rw [az_]; simp; omega,?_⟩
       ·rw [hb1.2 (nx J0) Om,a_,if_pos rfl]
       ·rw [hf8]
        show _ = Wh d.vars s0 (d.vars.length - (out ++ [h1H]).length) (done.put v10 true) (out ++ [h1H])
        rw [show d.vars.length - out.length = (d.vars.length - (out ++ [h1H]).length) + 1 by rw [az_]; simp; omega,Wh,hfd]
        simp only [h1e]
      ·have hr6 : ready = false := h6;refine Ai (Aa (O1 (Ay (q := 1) ok3 rfl rfl Om) ?_));refine OM rfl (Ab ?_)
       refine ⟨im,SL,gb,ga,by rw [Ak]; omega,fun b hb => by rw [a_,if_neg Om,ew b Om,bj b hb],?_⟩
       rw [jf,ip,List.find?_cons,hr,hr6]
     ·obtain ⟨pq,hpq,rfl⟩ := Se hp;obtain ⟨_,_,hpl⟩ := Q5 hpq;have ga : E7 (J12.set (nx J10) (.iter (some q) vq (Cp bV pq.2) (some (kS pq.1.1,bV pq.1.2)))) (nx J0) done := ko.set Om;refine O1 (Al rfl rfl) (Ab (Ac ?_))
      refine Ah rfl (fun h5 => ?_) (fun h5 => by cases h5)
      refine Ai (Am (Ac (Aa (O1 (Agn rfl (by rw [a_,if_pos rfl]) (by rw [a_,if_neg Om,ew q Om]; exact f8)) ?_))))
      refine O1 (Al rfl rfl) (OA rfl (Ab (Aa (OM rfl (OM rfl ?_)))));refine Cy 3 _ ?_ rfl rfl rfl rfl rfl (Aw rfl) (fun hg => ?_) (fun hg => ?_) ?_
      rotate_left
      ·refine Zr rfl rfl rfl rfl (by rw [show ready = _ from hg]; rfl) noR rfl rfl (Ag rfl) ?_
       refine Zr rfl rfl rfl rfl (by rw [show ready = _ from hg]; rfl) noR rfl rfl (Ag rfl) ?_
       refine Zr rfl rfl rfl rfl (by rw [show ready = _ from hg]; rfl) noR rfl rfl (De (s := pq.1.1) st9 Cz rfl ga rfl) ?_
       refine Ab ?_;refine ⟨rfl,?_,?_⟩
       ·exact sb
       ·exact rfl
      ·refine R7 rfl rfl rfl rfl (by rw [show ready = _ from hg]; rfl) rfl ?_
       refine R7 rfl rfl rfl rfl (by rw [show ready = _ from hg]; rfl) rfl ?_
       refine R7 rfl rfl rfl rfl (by rw [show ready = _ from hg]; rfl) rfl ?_
       refine Ab ?_;exact ⟨rfl,sb⟩
      refine OA rfl (Ab ?_)
      refine ⟨(ready && done.has pq.1.1,pq.2),by show pq.2.length < left.length; omega,SL,⟨_,by rw [a_,if_pos rfl]⟩,by rw [Ak]; exact nu,fun b hb => by rw [a_,if_neg Om]; exact ew b hb,?_⟩
      rw [jj,Acw hpq];cases ready <;> simp
    ·have mc : d.vars.length <= i10 := by simpa using h4
     have hfd : d.vars.find? (rdy s0.2 done) = none := by rw [jf,ah_ mc]; rfl
     have hO : Eu d = none := by
      unfold Eu; rw [if_neg hne,hF]
      show Wh d.vars s0 d.vars.length [] [] = none
      rw [hf8,show d.vars.length - out.length = (d.vars.length - out.length - 1) + 1 by omega,Wh,hfd]
     refine Ba ?_;refine Ac (Aa (OA rfl (OA rfl (Ab ?_))));refine An ?_
     exact ⟨_,rfl,.tup [slV eH 3 [],.bool false],J,ap_ hw ⟨by omega,fun b hb => (bj b Om).trans (hO0.g b hb)⟩,nl,.tup (.cons Ds (.cons (.same rfl) .nil)),by unfold Nu; rw [hO]; rfl,rfl⟩
   ·have hge8 : d.vars.length <= out.length := by simpa using h3
    have hO : Eu d = some out := by
     unfold Eu; rw [if_neg hne,hF]
     show Wh d.vars s0 d.vars.length [] [] = some out
     rw [hf8,show d.vars.length - out.length = 0 by omega]; rfl
    refine Ba ?_;refine Ac (Aa (OM rfl (OA rfl (OA rfl (Ab ?_)))));refine An ?_
    exact ⟨_,rfl,.tup [slV eH 3 out,.bool true],J,ap_ hw ⟨by omega,fun b hb => (hg8 b Om).trans (hO0.g b hb)⟩,nl,.tup (.cons (dt.fz Qk (fun a ha => hw.none Om) (Co No _)) (.cons (.same rfl) .nil)),by unfold Nu; rw [hO]; rfl,rfl⟩
end
section
open Go Go.Proofs
theorem Qn {α : Type} [BEq α] [LawfulBEq α] : ∀ {L V : List α},L.Nodup -> (∀ x ∈ L,x ∈ V) -> V.length <= L.length -> ∀ x ∈ V,x ∈ L
 | [],V,_,_,h,x,hx => by
  have : V = [] := be_ (by simpa using h)
  rw [this] at hx; cases hx
 | a :: L,V,hn,hs,h,x,hx => by
  have ha : a ∈ V := hs a (bi_ ..);obtain ⟨h1,h2⟩ := eu_.1 hn
  have hl : (V.erase a).length <= L.length := by rw [List.length_erase_of_mem ha]; simp only [aq_] at h; omega
  have ih := Qn (V := V.erase a) h2 (fun y hy => (List.mem_erase_of_ne (fun e => by subst e; exact h1 hy)).2 (hs y (ak_ _ hy))) hl
  by_cases e : x = a
  ·subst e; exact bi_ ..
  ·exact ak_ _ (ih x ((List.mem_erase_of_ne e).2 hx))
theorem Aup {k : Kn} {lab : SM Bool} {ty : SM Str} {h : Hp} {du : Bool} (h0 : Ur k lab ty h du = 0) (hf : h.floating = true) : k.vars.has (txv h) = true /\ ty.get (txv h) = none := by
 unfold Ur at h0
 split at h0
 ·cases h0
 ·split at h0
  ·cases h0
  ·split at h0
   ·cases h0
   ·rename_i h3
    split at h0
    ·cases h0
    ·split at h0
     ·cases h0
     ·rename_i h5
      simp only [bc_,bt_,not_or,Bool.not_eq_false] at h3
      exact ⟨h3.2,by simpa [txv] using h5⟩
abbrev flt (l : List Hp) : List Str := (l.filter (·.floating)).map txv
theorem Ag6 {k : Kn} {nh : Nat} : ∀ {l : List Hp} {i : Nat} {lab : SM Bool} {ty : SM Str},(Ik k nh l i lab ty).1 = 0 ->
  (∀ h ∈ l,h.floating = true -> (∃ a b,h.text = [a,b]) /\ k.vars.has (txv h) = true /\ ty.get (txv h) = none) /\ (flt l).Nodup
 | [],_,_,_,_ => ⟨fun _ h => (by cases h),fd_⟩
 | h :: r,i,lab,ty,h0 => by
  unfold Ik at h0
  split at h0
  ·rename_i hc; simp only at h0; rw [h0] at hc; exact absurd hc (by decide)
  ·rename_i hc
   have hz : Ur k lab ty h (decide (Int.ofNat nh <= Int.ofNat i)) = 0 := by simpa using hc
   obtain ⟨ih1,ih2⟩ := Ag6 h0;cases hf : h.floating with
   | false =>
    rw [hf] at ih1;refine ⟨fun x hx hxf => ?_,?_⟩
    ·rcases aj_.1 hx with rfl | hx
     ·rw [hf] at hxf; cases hxf
     ·exact ih1 x hx hxf
    ·show ((h :: r).filter (·.floating)).map txv |>.Nodup
     rw [List.filter_cons_of_neg (by simp [hf])]; exact ih2
   | true =>
    rw [hf] at ih1;obtain ⟨g1,g2⟩ := Aup hz hf;have g3 := Ag2 hz hf
    have key : ∀ x ∈ r,x.floating = true -> txv x ≠ txv h /\ ty.get (txv x) = none := fun x hx hxf => by
     have := (ih1 x hx hxf).2.2;rw [if_pos rfl,bz_] at this
     split at this
     ·cases this
     ·rename_i e; exact ⟨e,this⟩
    refine ⟨fun x hx hxf => ?_,?_⟩
    ·rcases aj_.1 hx with rfl | hx
     ·exact ⟨g3,g1,g2⟩
     ·exact ⟨(ih1 x hx hxf).1,(ih1 x hx hxf).2.1,(key x hx hxf).2⟩
    ·show ((h :: r).filter (·.floating)).map txv |>.Nodup
     rw [List.filter_cons_of_pos (by simp [hf]),ca_,eu_]
     refine ⟨fun hm => ?_,ih2⟩
     obtain ⟨x,hx,e⟩ := by_.1 hm;have := ds_.1 hx
     exact (key x this.1 (by simpa using this.2)).1 e
theorem Ap8 {pw : Str -> Bool} {k : Kn} {f : Fr} {before : List Hp} (h : Es pw k f before = 0) : (Ik (k.fr f.label) f.hyps.length f.all 0 [] []).1 = 0 := by
 unfold Es at h
 split at h
 ·cases h
 ·split at h
  ·cases h
  ·split at h
   ·cases h
   ·split at h
    ·exact h
    ·rename_i hc; simpa using hc
theorem Sp {pw : Str -> Bool} : ∀ {fs : List Fr} {k : Kn} {be : List Hp},Hi pw fs k be = 0 -> ∀ f ∈ fs,∃ k' be',k'.vars = k.vars /\ Es pw k' f be' = 0
 | [],_,_,_,f,hf => by cases hf
 | g :: r,k,be,h,f,hf => by
  unfold Hi at h
  split at h
  ·rename_i hc; rw [h] at hc; exact absurd hc (by decide)
  ·rename_i hc
   rcases aj_.1 hf with rfl | hf
   ·exact ⟨k,be,rfl,by simpa using hc⟩
   ·obtain ⟨k',be',h1,h2⟩ := Sp h f hf;exact ⟨k',be',h1,h2⟩
theorem Wi : ∀ (l : List Str) (k : Kn),(Nn l k).2.vars = k.vars
 | [],_ => rfl
 | c :: r,k => by unfold Nn; cases O5 c <;> cases k.consts.has c <;> simp [Wi r]
theorem Acx : ∀ (l : List Str) (k : Kn) (v : Str),(Qj l k).2.vars.has v = true -> v ∈ l ∨ k.vars.has v = true
 | [],_,v,h => .inr h
 | c :: r,k,v,h => by
  unfold Qj at h;cases hs : O5 c with
  | false => rw [hs] at h; exact .inr h
  | true =>
   rw [hs] at h;cases hk : k.isSym c with
   | true => rw [hk] at h; exact .inr h
   | false =>
    rw [hk] at h
    rcases Acx r _ v h with h | h
    ·exact .inl (ak_ _ h)
    ·have h : (k.vars.put c true).has v = true := h;rw [SM.has_put] at h;simp only [bc_,decide_eq_true_eq] at h
     rcases h with rfl | h
     ·exact .inl (bi_ ..)
     ·exact .inr h
theorem Ank {d : Db} {v : Str} (h : (Jr d kn0).2.vars.has v = true) : v ∈ d.vars := by
 unfold Jr at h
 split at h
 ·rcases Acx _ _ _ h with h | h
  ·exact h
  ·rw [Wi] at h; cases h
 ·rw [Wi] at h; cases h
theorem Ag7 {pw : Str -> Bool} {d : Db} (h : Et pw d = 0) : Hi pw d.frames (Jr d kn0).2 [] = 0 := by
 unfold Et at h
 split at h
 ·cases h
 ·split at h
  ·rename_i hc; rw [h] at hc; exact absurd hc (by decide)
  ·exact h
theorem Us {pw : Str -> Bool} {d : Db} (h : Et pw d = 0) {f : Fr} (hf : f ∈ d.frames) : (∀ h ∈ f.all,h.floating = true -> (∃ a b,h.text = [a,b]) /\ txv h ∈ d.vars) /\ (flt f.all).Nodup := by
 obtain ⟨k',be',h1,h2⟩ := Sp (Ag7 h) f hf;obtain ⟨g1,g2⟩ := Ag6 (Ap8 h2);refine ⟨fun x hx hxf => ?_,g2⟩
 obtain ⟨a1,a2,_⟩ := g1 x hx hxf
 exact ⟨a1,Ank (by rw [← h1]; exact a2)⟩
theorem Ut (l : List Hp) : flo l = l.filter (·.floating) := by
 unfold flo Dy Un
 congr 1; funext x; simp
theorem Asm (f : Fr) : flt f.all = (flo f.hyps ++ flo f.dummies).map txv := by
 rw [Ut,Ut]; simp [flt,Fr.all]
def Qo (s : Ord) : Prop := ∀ v h,s.1.get v = some h -> txv h = v /\ ∃ a b,h.text = [a,b]
theorem Asn {i : Nat} {pre : List Hp} {h : Hp} {s s' : Ord} (e : Ag3 i pre h s = some s') (h2 : ∃ a b,h.text = [a,b]) (hs : Qo s) :
  Qo s' /\ (∀ v,(s.1.get v).isSome = true -> (s'.1.get v).isSome = true) /\ (i = 0 -> (s'.1.get (txv h)).isSome = true) := by
 have h0 : Qo (O6 i h s) /\ (∀ v,(s.1.get v).isSome = true -> ((O6 i h s).1.get v).isSome = true) /\ (i = 0 -> ((O6 i h s).1.get (txv h)).isSome = true) := by
  unfold O6
  split
  ·refine ⟨fun v x hx => ?_,fun v hv => ?_,fun _ => ?_⟩
   ·simp only [bz_] at hx
    split at hx
    ·rename_i e; cases hx; exact ⟨e.symm,h2⟩
    ·exact hs v x hx
   ·simp only [bz_]; split <;> first | rfl | exact hv
   ·simp [bz_]
  ·rename_i hi; exact ⟨hs,fun _ h => h,fun e => absurd e hi⟩
 unfold Ag3 at e
 split at e
 ·cases e
 ·split at e
  ·cases e; exact h0
  ·cases e
theorem Als {i : Nat} {all : List Hp} : ∀ {l : List Hp} {n : Nat} {s s' : Ord},X2 i all l n s = some s' -> (∀ h ∈ l,∃ a b,h.text = [a,b]) -> Qo s ->
  Qo s' /\ (∀ v,(s.1.get v).isSome = true -> (s'.1.get v).isSome = true) /\ (i = 0 -> ∀ h ∈ l,(s'.1.get (txv h)).isSome = true)
 | [],_,s,s',e,_,hs => by cases e; exact ⟨hs,fun _ h => h,fun _ _ h => by cases h⟩
 | h :: r,n,s,s',e,h2,hs => by
  unfold X2 at e
  split at e
  ·cases e
  ·rename_i s1 e1
   obtain ⟨a1,a2,a3⟩ := Asn e1 (h2 h (bi_ ..)) hs;obtain ⟨b1,b2,b3⟩ := Als e (fun x hx => h2 x (ak_ _ hx)) a1
   refine ⟨b1,fun v hv => b2 v (a2 v hv),fun hi x hx => ?_⟩
   rcases aj_.1 hx with rfl | hx
   ·exact b2 _ (a3 hi)
   ·exact b3 hi x hx
theorem Ag8 {i : Nat} : ∀ {ls : List (List Hp)} {s s' : Ord},Oy i ls s = some s' -> (∀ l ∈ ls,∀ h ∈ l,∃ a b,h.text = [a,b]) -> Qo s ->
  Qo s' /\ (∀ v,(s.1.get v).isSome = true -> (s'.1.get v).isSome = true) /\ (i = 0 -> ∀ l ∈ ls,∀ h ∈ l,(s'.1.get (txv h)).isSome = true)
 | [],s,s',e,_,hs => by cases e; exact ⟨hs,fun _ h => h,fun _ _ h => by cases h⟩
 | l :: r,s,s',e,h2,hs => by
  unfold Oy at e
  split at e
  ·cases e
  ·rename_i s1 e1
   obtain ⟨a1,a2,a3⟩ := Als e1 (h2 l (bi_ ..)) hs;obtain ⟨b1,b2,b3⟩ := Ag8 e (fun x hx => h2 x (ak_ _ hx)) a1
   refine ⟨b1,fun v hv => b2 v (a2 v hv),fun hi x hx => ?_⟩
   rcases aj_.1 hx with rfl | hx
   ·exact fun h hh => b2 _ (a3 hi h hh)
   ·exact b3 hi x hx
theorem Alt {d : Db} : ∀ {fs : List Fr} {i : Nat} {s s' : Ord},Nr d fs i s = some s' -> (∀ f ∈ fs,∀ h ∈ f.all,h.floating = true -> ∃ a b,h.text = [a,b]) -> Qo s ->
  Qo s' /\ (∀ v,(s.1.get v).isSome = true -> (s'.1.get v).isSome = true) /\ (i = 0 -> ∀ f r,fs = f :: r -> Ap1 d f = false /\ ∀ h,h ∈ flo f.hyps ++ flo f.dummies -> (s'.1.get (txv h)).isSome = true)
 | [],_,s,s',e,_,hs => by cases e; exact ⟨hs,fun _ h => h,fun _ _ _ h => by cases h⟩
 | f :: r,i,s,s',e,h2,hs => by
  unfold Nr at e
  split at e
  ·cases e
  ·rename_i hb
   split at e
   ·cases e
   ·rename_i s1 e1
    have hm : ∀ l ∈ [flo f.hyps,flo f.dummies],∀ h ∈ l,∃ a b,h.text = [a,b] := fun l hl h hh => by
     simp only [aj_,ct_,or_false] at hl
     rcases hl with rfl | rfl <;> rw [Ut] at hh <;> (have := ds_.1 hh; exact h2 f (bi_ ..) h (by simp [Fr.all,this.1]) (by simpa using this.2))
    obtain ⟨a1,a2,a3⟩ := Ag8 e1 hm hs;obtain ⟨b1,b2,_⟩ := Alt e (fun x hx => h2 x (ak_ _ hx)) a1
    refine ⟨b1,fun v hv => b2 v (a2 v hv),fun hi f' r' he => ?_⟩
    cases he
    refine ⟨by simpa using hb,fun h hh => b2 _ ?_⟩
    rcases bo_.1 hh with hh | hh
    ·exact a3 hi (flo f.hyps) (by simp) h hh
    ·exact a3 hi (flo f.dummies) (by simp) h hh
theorem Acy {pw : Str -> Bool} {d : Db} (hc : Et pw d = 0) (hn : d.frames ≠ []) {s : Ord} (hs : Nr d d.frames 0 ([],[]) = some s) : Qo s /\ ∀ v ∈ d.vars,(s.1.get v).isSome = true := by
 obtain ⟨a1,_,a3⟩ := Alt hs (fun f hf h hh hff => ((Us hc hf).1 h hh hff).1) (fun v h hv => by cases hv)
 refine ⟨a1,fun v hv => ?_⟩
 cases hfs : d.frames with
 | nil => exact absurd hfs hn
 | cons f r =>
  obtain ⟨b1,b2⟩ := a3 rfl f r hfs
  have hf : f ∈ d.frames := by rw [hfs]; exact bi_ ..
  obtain ⟨c1,c2⟩ := Us hc hf;rw [Asm] at c2
  have bx : d.vars.length <= ((flo f.hyps ++ flo f.dummies).map txv).length := by
   unfold Ap1 at b1;simp only [cp_,ev_,decide_eq_true_eq] at b1;have := Int.ofNat.inj b1.1;simp only [cs_,az_];omega
  have b9 : ∀ x ∈ (flo f.hyps ++ flo f.dummies).map txv,x ∈ d.vars := fun x hx => by
   obtain ⟨h,hh,rfl⟩ := by_.1 hx
   have hm : h ∈ f.all /\ h.floating = true := by
    rw [Ut,Ut] at hh
    rcases bo_.1 hh with hh | hh <;> (have := ds_.1 hh; exact ⟨by simp [Fr.all,this.1],by simpa using this.2⟩)
   exact (c1 h hm.1 hm.2).2
  obtain ⟨h,hh,rfl⟩ := by_.1 (Qn c2 b9 bx v hv);exact b2 h hh
theorem Alu {vars : List Str} {s : Ord} (hs : Qo s) : ∀ {n : Nat} {done : SM Bool} {out l : List Hp},Wh vars s n done out = some l -> (out.map txv).Nodup -> (∀ x ∈ out.map txv,x ∈ vars /\ done.has x = true) -> (∀ h ∈ out,∃ a b,h.text = [a,b]) ->
  l.length = out.length + n /\ (l.map txv).Nodup /\ (∀ x ∈ l.map txv,x ∈ vars) /\ ∀ h ∈ l,∃ a b,h.text = [a,b]
 | 0,done,out,l,e,h1,h2,h3 => by cases e; exact ⟨rfl,h1,fun x hx => (h2 x hx).1,h3⟩
 | n + 1,done,out,l,e,h1,h2,h3 => by
  unfold Wh at e
  split at e
  ·cases e
  ·rename_i v hv
   split at e
   ·cases e
   ·rename_i h hh
    obtain ⟨g1,g2⟩ := hs v h hh;have hm : v ∈ vars := List.mem_of_find?_eq_some hv;have hr := List.find?_some hv
    have hnd : done.has v = false := by
     unfold rdy at hr;simp only [ad_,bt_] at hr;exact hr.1
    obtain ⟨k1,k2,k3,k4⟩ := Alu hs e (by
      rw [cc_,ec_]
      refine ⟨h1,by simp,fun x hx y hy => ?_⟩
      simp only [ca_,ek_,al_] at hy;rw [hy,g1];intro e; subst e;have := (h2 x hx).2; rw [hnd] at this; cases this)
     (fun x hx => by
      rw [cc_,bo_] at hx;rw [SM.has_put]
      rcases hx with hx | hx
      ·exact ⟨(h2 x hx).1,by rw [(h2 x hx).2]; simp⟩
      ·simp only [ca_,ek_,al_] at hx
       rw [hx,g1]; exact ⟨hm,by simp⟩)
     (fun x hx => by
      rcases bo_.1 hx with hx | hx
      ·exact h3 x hx
      ·rw [al_] at hx; subst hx; exact g2)
    exact ⟨by rw [k1,az_]; simp; omega,k2,k3,k4⟩
theorem Ag9 {pw : Str -> Bool} {d : Db} (hc : Et pw d = 0) {l : List Hp} (h : Eu d = some l) : (∀ h ∈ l,∃ a b,h.text = [a,b]) /\ ∀ v ∈ d.vars,∃ h ∈ l,txv h = v := by
 unfold Eu at h
 split at h
 ·split at h
  ·rename_i hv; cases h
   exact ⟨fun _ h => (by cases h),fun v hv' => by rw [be_ hv] at hv'; cases hv'⟩
  ·cases h
 ·rename_i hn
  split at h
  ·cases h
  ·rename_i s hs
   obtain ⟨a1,a2⟩ := Acy hc (fun e => hn (by rw [e]; rfl)) hs
   obtain ⟨k1,k2,k3,k4⟩ := Alu a1 h fd_ (fun _ h => by cases h) (fun _ h => by cases h)
   refine ⟨k4,fun v hv => ?_⟩
   obtain ⟨x,hx,e⟩ := by_.1 (Qn k2 k3 (by rw [cs_,k1]; simp) v hv)
   exact ⟨x,hx,e⟩
end
end Go.AM
