/- A part of the proof; shortened by program. -/
import Derived.Test.YtadnlmhnjfmleaaGreatDoorP17
set_option maxRecDepth 100000
set_option maxHeartbeats 4000000
set_option linter.unusedSimpArgs false
set_option linter.unusedVariables false
namespace Go.AM
open Go Go.Proofs
abbrev eLH (l : List Hp) : List AV := [slV eH 3 l]
theorem Qx {α : Type} {ls : List (List α)} {i : Nat} {a : List α} (ha : ls[i]? = some a) : (ls.take (i + 1)).flatten = (ls.take i).flatten ++ a := by rw [Bb ha,List.flatten_append]; simp
theorem Ul {α : Type} (ls : List (List α)) (i : Nat) : ((ls.take i).flatten).length <= ls.flatten.length := by
 have h : ls.flatten = (ls.take i).flatten ++ (ls.drop i).flatten := by rw [← List.flatten_append,bx_]
 rw [h,aw_]; omega
def G0 : List Hp -> List Hp -> Nat
 | a :: r,b :: s => if a.label = b.label then G0 r s + 1 else 0
 | _,_ => 0
def Lc (a b : List Hp) (n : Nat) : Bool := match a[n]?,b[n]? with
 | some x,some y => decide (x.label = y.label)
 | _,_ => false
theorem Sq {a b : List Hp} {n : Nat} {x y : Hp} (hx : a[n]? = some x) (hy : b[n]? = some y) : Lc a b n = decide (x.label = y.label) := by simp only [Lc,hx,hy]
theorem Na {a b : List Hp} {n : Nat} (h : a.length <= n ∨ b.length <= n) : Lc a b n = false := by
 unfold Lc
 rcases h with h | h
 ·rw [List.getElem?_eq_none h]
 ·rw [List.getElem?_eq_none h]; cases a[n]? <;> rfl
theorem Aai {a b : List Hp} {n : Nat} (h : Lc a b n = true) : n < a.length /\ n < b.length := by
 refine ⟨Nat.lt_of_not_le fun hh => ?_,Nat.lt_of_not_le fun hh => ?_⟩
 ·rw [Na (.inl hh)] at h; cases h
 ·rw [Na (.inr hh)] at h; cases h
theorem Afd {a b : List Hp} {n : Nat} (h : Lc a b n = true) : G0 (a.drop n) (b.drop n) = G0 (a.drop (n + 1)) (b.drop (n + 1)) + 1 := by
 obtain ⟨h1,h2⟩ := Aai h;obtain ⟨x,hx⟩ := A3 h1;obtain ⟨y,hy⟩ := A3 h2;rw [Sq hx hy] at h;rw [Av hx,Av hy,G0,if_pos (of_decide_eq_true h)]
theorem Afe {a b : List Hp} {n : Nat} (h : Lc a b n = false) : G0 (a.drop n) (b.drop n) = 0 := by
 by_cases h1 : n < a.length
 ·by_cases h2 : n < b.length
  ·obtain ⟨x,hx⟩ := A3 h1;obtain ⟨y,hy⟩ := A3 h2;rw [Sq hx hy] at h;rw [Av hx,Av hy,G0,if_neg (of_decide_eq_false h)]
  ·rw [ah_ (show b.length <= n by omega)]; cases a.drop n <;> rfl
 ·rw [ah_ (show a.length <= n by omega)]; rfl
theorem Aaj : ∀ (a b : List Hp),G0 a b <= b.length
 | a :: r,b :: s => by unfold G0; split <;> simp [Aaj r s]
 | [],_ => ca_ _
 | _ :: _,[] => ca_ _
theorem f133 (ls : List (List Hp)) (J : Sto) (hb : ls.length < 1000) (hb2 : ls.flatten.length < 1000000) : Cv 133 [slV eLH 1 ls] J (slV eH 3 ls.flatten) := by
 refine Ak Tryz.func133 rfl rfl fun hw hu0 => ?_
 iterate 16 refine G ?_
 refine Dt (fun q : Nat × AV => [(0,slV eLH 1 ls),(3,q.2),(9,slV eLH 1 ls),(10,iV (.ofNat ls.length)),(11,iV (.ofNat q.1))]) (fun q J0 => q.1 <= ls.length /\ J0 = J /\ ∃ s,q.2 = iV (.ofNat s) /\ s = ((ls.take q.1).flatten).length) (fun q => ls.length - q.1) (0,iV (.ofNat 0)) SL ⟨ca_ _,rfl,0,rfl,rfl⟩ ?_
 rintro ⟨i0,v0⟩ J0 hP0;obtain ⟨hi0,rfl,s,hvs,hs⟩ : i0 <= ls.length /\ J0 = J /\ ∃ s,v0 = iV (.ofNat s) /\ s = ((ls.take i0).flatten).length := hP0;refine G5 ?_;refine Ab rfl ?_ ?_ <;> intro h1
 ·have bc : i0 < ls.length := by simpa using h1
  obtain ⟨a0,ha0⟩ := A3 bc;have hd0 := Av ha0;subst hvs
  have hfl : ((ls.take i0).flatten).length + a0.length <= ls.flatten.length := by have := Ul ls (i0 + 1); rwa [Qx ha0,aw_] at this
  iterate 14 refine G ?_
  refine O1 (Ek (p := s) (q := a0.length) okC rfl rfl Om) ?_;refine G7 ?_;refine Ab rfl ?_ ?_ <;> intro h2
  ·exact absurd h2 (by simp; omega)
  ·refine G5 ?_
   refine ⟨(i0 + 1,iV (.ofNat (s + a0.length))),by show ls.length - (i0 + 1) < ls.length - i0; omega,SL,bc,rfl,_,rfl,by rw [Qx ha0,aw_,hs]⟩
 ·have bm : ls.length <= i0 := by simpa using h1
  subst hvs;rw [ar_ bm] at hs;subst hs;refine G4 ?_;refine Bu rfl rfl rfl rfl (f163 ls.flatten.length _ hb2) fun v τ ⟨br,bh⟩ => ?_
  refine G10 ?_;refine Dt (fun q : Nat × AV => [(6,q.2),(25,slV eLH 1 ls),(26,iV (.ofNat ls.length)),(27,iV (.ofNat q.1))]) (fun q J2 => q.1 <= ls.length /\ Own J2 (nx J0) eH 3 ((ls.take q.1).flatten) q.2 /\ Below (nx J0) J0 J2) (fun q => ls.length - q.1) (0,v) SL ⟨ca_ _,br,bh⟩ ?_
  rintro ⟨i2,v2⟩ J2 hP2;obtain ⟨hi2,b6,ba⟩ : i2 <= ls.length /\ Own J2 (nx J0) eH 3 ((ls.take i2).flatten) v2 /\ Below (nx J0) J0 J2 := hP2;refine G5 ?_;refine Ab rfl ?_ ?_ <;> intro h2
  ·have bz : i2 < ls.length := by simpa using h2
   obtain ⟨a2,ha2⟩ := A3 bz;have hd2 := Av ha2
   have bo : (((ls.take i2).flatten).length + a2.length) * (48 + 1) <= sizeLim := by have := Ul ls (i2 + 1); rw [Qx ha2,aw_] at this; simp only [sizeLim]; omega
   obtain ⟨v,τ3,dh,ga,mg,_⟩ := b6.app (by' := 48) Pp ba.1 a2 bo
   refine G12 ?_;refine O1 (A1 elC rfl slC rfl rfl rfl (Uc Pp _ a2) dh) ?_;refine G6 ?_
   refine ⟨(i2 + 1,v),by show ls.length - (i2 + 1) < ls.length - i2; omega,SL,bz,by rw [Qx ha2]; exact ga,ba.trans mg⟩
  ·have b9 : ls.length <= i2 := by simpa using h2
   refine G6 ?_;rw [ar_ b9] at b6;refine G ?_;exact ⟨_,rfl,slV eH 3 ls.flatten,J0,as_ hw ba,nl,b6.fz Pp (fun a ha => hw.none ha) (Br M9 _),rfl,rfl⟩
theorem f139 (a b : List Hp) (J : Sto) (hb : a.length < 1000000) : Cv 139 [slV eH 3 a,slV eH 3 b] J (iV (.ofNat (G0 a b))) := by
 refine Ak Tryz.func139 rfl rfl fun hw hu0 => ?_
 refine G10 ?_;refine Bh a.length (fun i0 => [(0,slV eH 3 a),(1,slV eH 3 b),(5,iV (.ofNat i0))]) (fun i0 J0 => J0 = J /\ G0 a b = i0 + G0 (a.drop i0) (b.drop i0)) SL ⟨rfl,(be_ _).symm⟩ ?_
 rintro i0 J0 hi0 ⟨rfl,hf0⟩;refine G ?_;refine D3 [(28,.bool (Lc a b i0))] ?_ ?_
 ·rcases al_ (decide (Int.ofNat i0 < Int.ofNat a.length)) with hg4 | hg4
  ·rcases al_ (decide (Int.ofNat i0 < Int.ofNat b.length)) with cn | cn
   ·obtain ⟨x,hx⟩ := A3 (show i0 < a.length by simpa using hg4)
    obtain ⟨y,hy⟩ := A3 (show i0 < b.length by simpa using cn)
    refine X0 ?_
    iterate 24 refine G ?_
    exact ⟨rfl,rfl,⟨⟨congrArg (fun b => some (AV.bool b)) (Sq hx hy).symm,trivial⟩,sb,rfl⟩⟩
   ·refine X0 ?_
    iterate 22 refine G ?_
    refine DF (Am rfl (by first|rfl|simp only [cn,hg4]<;>rfl|simp [cn,hg4]) rfl) ?_
    refine G ?_
    exact ⟨rfl,rfl,⟨⟨congrArg (fun b => some (AV.bool b)) (Na (.inr (by simpa using cn))).symm,trivial⟩,sb,rfl⟩⟩
  ·refine X0 ?_;refine G9 ?_
   refine DF (Am rfl (by first|rfl|simp only [hg4]<;>rfl|simp [hg4]) rfl) ?_
   refine G12 ?_
   refine DF (Am rfl (by first|rfl|simp only [hg4]<;>rfl|simp [hg4]) rfl) ?_
   refine Ii ?_
   exact ⟨rfl,rfl,⟨⟨congrArg (fun b => some (AV.bool b)) (Na (.inl (by simpa using hg4))).symm,trivial⟩,sb,rfl⟩⟩
 refine Ab rfl ?_ ?_ <;> intro h1
 ·have bc : i0 < a.length := (Aai h1).1;refine G7 ?_
  refine ⟨bc,SL,rfl,by rw [hf0,Afd h1]; omega⟩
 ·have hs0 := Afe h1;refine G7 ?_;refine A2 hw rfl ?_
  exact (by rw [hf0,hs0]; rfl)
def zH : List AV := [.str [],.bool false,.nil (.slice none 0 0)]
def hcs (o : Option Hp) : List AV := match o with | some h => eH h | none => zH
theorem It (o : Option Hp) : (hcs o).length = 3 := by cases o <;> rfl
theorem Um {N : Nat} (o : Option Hp) : AV.unds N (hcs o) = true := by cases o with | none => rfl | some h => exact M9 h
theorem Un {ρ : Ad} {J : Sto} {Rr : Rec} {x y : Operand} {m : SM Hp} {s : Str} {r : Nat} (hx : Ai Ew ρ x = some (.mp r)) (hm : A8 hV J r m) (hy : Ai Ew ρ y = some (sV s)) :
  A0 Ew Rr (.lookup 156 x y true) ρ J (.tup [.agg (hcs (m.get s)),.bool (m.get s).isSome]) J := by
 have := Qq (Rr := Rr) st9 Po hx hm hy
 have e : ((m.get s).map hV).getD (.agg [.str [],.bool false,.nil (.slice none 0 0)]) = .agg (hcs (m.get s)) := by cases m.get s <;> rfl
 rwa [e] at this
theorem Ahd {ρ : Ad} {J : Sto} {Rr : Rec} {x y : Operand} {m : SM Str} {s : Str} {r : Nat} (hx : Ai Ew ρ x = some (.mp r)) (hm : A8 sV J r m) (hy : Ai Ew ρ y = some (sV s)) :
  A0 Ew Rr (.lookup 237 x y true) ρ J (.tup [sV ((m.get s).getD []),.bool (m.get s).isSome]) J := by
 have := Qq (Rr := Rr) st9 Ac6 hx hm hy
 have e : ((m.get s).map sV).getD (.str []) = sV ((m.get s).getD []) := by cases m.get s <;> rfl
 rwa [e] at this
theorem f140 (m : Nat) (k : Kn) (h : Hp) (J : Sto) (hk : Gc J m k) : Cv 140 [.agg (eH h),.pv [knV m]] J (.bool (k.hyps.get h.label).isSome) := by
 refine Ak Tryz.func140 rfl rfl fun hw hu0 => ?_
 refine G5 ?_;refine Ed 4 zH (hcs (k.hyps.get h.label)) [(5,.bool (k.hyps.get h.label).isSome)] (Um _) rfl (fun hw => ?_) ?_
 refine XX 1 (l := []) trivial ?_;refine G6 ?_;refine DF (Un rfl hk.h rfl) ?_;refine G3 ?_;refine DT (B6 ziC) (DT (A6 (vs := zH) (vs' := hcs (k.hyps.get h.label)) ldC rfl rfl (Bk (It _)) Bj (Cx (It _))) ?_);refine G2 ?_
 exact ⟨(by intro e he; simp at he; rcases he with rfl | rfl <;> first | exact .refl | exact H1 hw),⟨rfl,trivial⟩,sb,rfl,rfl⟩
 refine G6 ?_;refine A2 hw rfl ?_;exact rfl
def Ala (o : Option Hp) (b : Hp) : Bool := match o with | some a => Ak8 a b | none => false
theorem Ash (o : Option Hp) (b : Hp) (J : Sto) (ho : o.isSome = true) (hb : b.text.length < 4611686018427387904) : Cv 107 [.agg (hcs o),.agg (eH b)] J (.bool (Ala o b)) := by
 cases o with
 | none => cases ho
 | some a => exact f107 a b J hb
def Asi (h : Hp) (du : Bool) : Bool := ((!Kt [2] h.label || (du && !h.floating)) || (h.floating && !decide (Int.ofNat h.text.length = 2))) || (!h.floating && (decide (Int.ofNat h.text.length = 0) || decide ((200 : Int) < Int.ofNat h.text.length)))
def hypT (k : Kn) (h : Hp) : Int := if ((k.hyps.get h.label).isSome && !Ala (k.hyps.get h.label) h) = true then 6 else 0
def hypX (k : Kn) (ty : SM Str) (t0 t1 : Str) : Bool := ((k.types.get t1).isSome && !decide ((k.types.get t1).getD [] = t0)) || ((ty.get t1).isSome && !decide ((ty.get t1).getD [] = t0))
def Xv (k : Kn) (lab : SM Bool) (ty : SM Str) (h : Hp) (du : Bool) : Int :=
 if Asi h du = true then 2 else if ((k.isSym h.label || k.frames.has h.label) || lab.has h.label) = true then 6
 else if h.floating = true then
  if (!k.consts.has (h.text.headD []) || !k.vars.has (h.text.tail.headD [])) = true then 12
  else if hypX k ty (h.text.headD []) (h.text.tail.headD []) = true then 11
  else if (ty.get (h.text.tail.headD [])).isSome = true then 6 else hypT k h
 else if (!decide (k.textF h.text = 0)) = true then k.textF h.text else hypT k h
theorem f134p (m : Nat) (k : Kn) (ra rb : Nat) (lab : SM Bool) (ty : SM Str) (lb : Str) (fl : Bool) (tx : List Str) (du : Bool) (J : Sto) (hk : Gc J m k) (hl : Eo J ra lab) (ht : A8 sV J rb ty) (hb : tx.length < 1000000) : Cv 134 [knV m,.agg [.mp ra,.mp rb],.agg [sV lb,.bool fl,Aj tx],.bool du] J (iV (Xv k lab ty ⟨lb,fl,tx⟩ du)) := by
 refine Ak Tryz.func134 rfl rfl fun hw hu0 => ?_
 refine G11 ?_;refine Af rfl rfl rfl rfl (f132 lb _) ?_;refine G2 ?_;refine TOr 6 ?_ (fun hg => ?_) ?_
 rotate_left
 ·iterate 2 refine Gn hg ?_
  refine Ph 3 _ ?_ rfl rfl rfl rfl rfl (Jq rfl rfl rfl rfl (by rw [hg]; rfl)) (fun hg => ?_) (fun hg => ?_) ?_
  rotate_left
  ·iterate 3 refine Gn hg ?_
   refine G ?_;refine ⟨rfl,?_,?_⟩
   ·exact sb
   ·exact rfl
  ·iterate 3 refine Gn hg ?_
   refine G ?_;exact ⟨rfl,sb⟩
  exact Ez
 refine G ?_;refine TOr 8 ?_ (fun hg => ?_) ?_
 rotate_left
 ·iterate 3 refine Gn hg ?_
  refine Ph 4 _ ?_ rfl rfl rfl rfl rfl (Jq rfl rfl rfl rfl (by rw [hg]; rfl)) (fun hg => ?_) (fun hg => ?_) ?_
  rotate_left
  ·iterate 4 refine Gn hg ?_
   refine G ?_;refine ⟨rfl,?_,?_⟩
   ·exact sb
   ·exact rfl
  ·iterate 4 refine Gn hg ?_
   refine G ?_;exact ⟨rfl,sb⟩
  exact Ez
 refine G ?_;refine TOr 15 ?_ (fun hg => ?_) ?_
 rotate_left
 ·iterate 4 refine Gn hg ?_
  refine Ph 10 _ ?_ rfl rfl rfl rfl rfl (Jq rfl rfl rfl rfl (by rw [hg]; rfl)) (fun hg => ?_) (fun hg => ?_) ?_
  rotate_left
  ·iterate 5 refine Gn hg ?_
   refine Zt 4 _ ?_ rfl rfl rfl rfl rfl (Jq rfl rfl rfl rfl (by rw [hg]; rfl)) (fun hg => ?_) (fun hg => ?_) ?_
   rotate_left
   ·iterate 4 refine Gn hg ?_
    refine G ?_;refine ⟨rfl,?_,?_⟩
    ·exact sb
    ·exact rfl
   ·iterate 4 refine Gn hg ?_
    refine G ?_;exact ⟨rfl,sb⟩
   refine G ?_;refine ⟨rfl,?_,?_⟩
   ·exact sb
   ·exact rfl
  ·iterate 10 refine Gn hg ?_
   refine G ?_;exact ⟨rfl,sb⟩
  exact Ez
 refine G ?_;refine Ab rfl ?_ ?_ <;> intro h1
 ·refine G5 ?_;refine A2 hw rfl ?_;exact congrArg iV (if_pos h1).symm
 ·refine G2 ?_
  refine D3 [(74,.bool ((k.isSym lb || k.frames.has lb) || lab.has lb))] ?_ ?_
  ·rcases al_ ((k.isSym lb)) with hg4 | hg4
   ·refine XS (l := [(131,[knV m,sV lb],J,.bool (k.isSym lb),J)]) ⟨Ahb m k lb J hk,trivial⟩ ?_
    iterate 21 refine G ?_
    exact ⟨⟨Cb,trivial⟩,sb,rfl⟩
   ·rcases al_ ((k.frames.has lb)) with dw | dw
    ·refine XS (l := [(131,[knV m,sV lb],J,.bool (k.isSym lb),J)]) ⟨Ahb m k lb J hk,trivial⟩ ?_;refine G11 ?_;refine Xn (Cr st9 Cd rfl hk.f rfl) ?_
     refine DF (Am rfl (by first|rfl|simp only [dw,hg4]<;>rfl|simp [dw,hg4]) rfl) ?_
     refine G8 ?_;exact ⟨⟨Cb,trivial⟩,sb,rfl⟩
    ·refine XS (l := [(131,[knV m,sV lb],J,.bool (k.isSym lb),J)]) ⟨Ahb m k lb J hk,trivial⟩ ?_;refine G11 ?_;refine Xn (Cr st9 Cd rfl hk.f rfl) ?_
     refine DF (Am rfl (by first|rfl|simp only [dw,hg4]<;>rfl|simp [dw,hg4]) rfl) ?_
     refine G5 ?_
     refine Wn (w := by first|rfl|simp only [dw,hg4]<;>rfl|simp [dw,hg4]) (Cr st9 Cd rfl hl rfl) ?_
     refine DF (Am rfl (by first|rfl|simp only [dw,hg4]<;>rfl|simp [dw,hg4]) rfl) ?_
     refine Ii ?_
     exact ⟨⟨congrArg (fun b => some (AV.bool b)) (by first|rfl|simp only [dw,hg4]<;>rfl|simp [dw,hg4]),trivial⟩,sb,rfl⟩
  refine Ab rfl ?_ ?_ <;> intro h2
  ·refine G5 ?_;refine A2 hw rfl ?_;exact congrArg iV ((if_neg (fun hh => Bool.noConfusion (h1.symm.trans hh))).trans (if_pos h2)).symm
  ·refine G7 ?_;refine Ab rfl ?_ ?_ <;> intro h3
   ·have h3' : fl = true := h3;subst h3'
    obtain ⟨t0,t1,rfl⟩ : ∃ t0 t1,tx = [t0,t1] := by
     have h4 : tx.length = 2 := by simp at h1; omega
     match tx,h4 with
     | [a,b],_ => exact ⟨a,b,rfl⟩
    refine G ?_
    refine D3 [(98,.bool (!k.consts.has t0 || !k.vars.has t1))] ?_ ?_
    ·rcases al_ ((!k.consts.has t0)) with cn | cn
     ·refine X0 ?_;refine G6 ?_;refine DF (Bn elC (fun _ => rfl) rfl rfl rfl (i := 0)) ?_
      refine G ?_;refine DF (Cr st9 Cd rfl hk.c rfl) ?_
      iterate 14 refine G ?_
      exact ⟨rfl,rfl,⟨⟨Cb,trivial⟩,sb,rfl⟩⟩
     ·refine X0 ?_;refine G6 ?_;refine DF (Bn elC (fun _ => rfl) rfl rfl rfl (i := 0)) ?_
      refine G ?_;refine DF (Cr st9 Cd rfl hk.c rfl) ?_;refine G8 ?_;refine Xn (Bn elC (fun _ => rfl) rfl rfl rfl (i := 1)) ?_
      refine G ?_;refine Xn (Cr st9 Cd rfl hk.v rfl) ?_;refine G ?_
      refine DF (Am rfl (by first|rfl|simp only [cn]<;>rfl|simp [cn]) rfl) ?_
      refine G ?_
      exact ⟨rfl,rfl,⟨⟨congrArg (fun b => some (AV.bool b)) (by first|rfl|simp only [cn]<;>rfl|simp [cn]),trivial⟩,sb,rfl⟩⟩
    refine Ab rfl ?_ ?_ <;> intro h4
    ·refine G5 ?_;refine A2 hw rfl ?_;exact congrArg iV ((if_neg (fun hh => Bool.noConfusion (h1.symm.trans hh))).trans ((if_neg (fun hh => Bool.noConfusion (h2.symm.trans hh))).trans ((if_pos h3).trans (if_pos h4)))).symm
    ·refine G2 ?_;refine X0 ?_;refine G4 ?_;refine DF (Bn elC (fun _ => rfl) rfl rfl rfl (i := 1)) ?_
     refine G ?_;refine DF (Ahd rfl ht rfl) ?_;refine G6 ?_;refine ⟨rfl,rfl,?_⟩;refine G2 ?_;refine X0 ?_;refine G6 ?_;refine DF (Bn elC (fun _ => rfl) rfl rfl rfl (i := 1)) ?_
     refine G ?_;refine DF (Ahd rfl hk.t rfl) ?_;refine G6 ?_;refine ⟨rfl,rfl,?_⟩;refine G4 ?_;refine TAn 6 ?_ (fun hg => ?_) ?_
     rotate_left
     ·iterate 3 refine Gn hg ?_
      refine On hg (Bn elC (fun _ => rfl) rfl rfl rfl (i := 0)) ?_
      refine Gn hg ?_;refine On hg (Lr okC rfl rfl) ?_;exact Ez
     refine G ?_;refine TOr 9 ?_ (fun hg => ?_) ?_
     rotate_left
     ·iterate 2 refine Gn hg ?_
      refine Ph 6 _ ?_ rfl rfl rfl rfl rfl (Jq rfl rfl rfl rfl (by rw [hg]; rfl)) (fun hg => ?_) (fun hg => ?_) ?_
      rotate_left
      ·iterate 3 refine Gn hg ?_
       refine On hg (Bn elC (fun _ => rfl) rfl rfl rfl (i := 0)) ?_
       refine Gn hg ?_;refine On hg (Lr okC rfl rfl) ?_;refine G ?_;refine ⟨rfl,?_,?_⟩
       ·exact sb
       ·exact rfl
      ·iterate 6 refine Gn hg ?_
       refine G ?_;exact ⟨rfl,sb⟩
      exact Ez
     refine G ?_;refine Ab rfl ?_ ?_ <;> intro h5
     ·refine G5 ?_;refine A2 hw rfl ?_;exact congrArg iV ((if_neg (fun hh => Bool.noConfusion (h1.symm.trans hh))).trans ((if_neg (fun hh => Bool.noConfusion (h2.symm.trans hh))).trans ((if_pos h3).trans ((if_neg (fun hh => Bool.noConfusion (h4.symm.trans hh))).trans (if_pos h5))))).symm
     ·refine G5 ?_;refine Ab rfl ?_ ?_ <;> intro h6
      ·refine G5 ?_;refine A2 hw rfl ?_;exact congrArg iV ((if_neg (fun hh => Bool.noConfusion (h1.symm.trans hh))).trans ((if_neg (fun hh => Bool.noConfusion (h2.symm.trans hh))).trans ((if_pos h3).trans ((if_neg (fun hh => Bool.noConfusion (h4.symm.trans hh))).trans ((if_neg (fun hh => Bool.noConfusion (h5.symm.trans hh))).trans (if_pos h6)))))).symm
      ·refine G2 ?_;refine Ed 14 zH (hcs (k.hyps.get lb)) [(15,.bool (k.hyps.get lb).isSome)] (Um _) rfl (fun hw => ?_) ?_
       refine XX 1 (l := []) trivial ?_;refine G6 ?_;refine DF (Un rfl hk.h rfl) ?_;refine G3 ?_;refine DT (B6 ziC) (DT (A6 (vs := zH) (vs' := hcs (k.hyps.get lb)) ldC rfl rfl (Bk (It _)) Bj (Cx (It _))) ?_);refine G2 ?_
       exact ⟨(by intro e he; simp at he; rcases he with rfl | rfl <;> first | exact .refl | exact H1 hw),⟨rfl,trivial⟩,sb,rfl,rfl⟩
       refine G4 ?_;refine TAn 4 ?_ (fun hg => ?_) ?_
       rotate_left
       ·refine On hg (Ah (v := .agg (hcs (k.hyps.get lb))) ldC rfl rfl (B0 (It _))) ?_;refine Gn hg ?_
        refine Bg rfl rfl rfl (by rw [hg]; rfl) rfl rfl rfl rfl (Ash _ ⟨lb,true,[t0,t1]⟩ _ hg (by simp)) ?_
        refine Gn hg ?_;exact Ez
       refine G ?_;refine Ab rfl ?_ ?_ <;> intro h7
       ·refine G5 ?_;refine A2 hw rfl ?_;exact congrArg iV ((if_neg (fun hh => Bool.noConfusion (h1.symm.trans hh))).trans ((if_neg (fun hh => Bool.noConfusion (h2.symm.trans hh))).trans ((if_pos h3).trans ((if_neg (fun hh => Bool.noConfusion (h4.symm.trans hh))).trans ((if_neg (fun hh => Bool.noConfusion (h5.symm.trans hh))).trans ((if_neg (fun hh => Bool.noConfusion (h6.symm.trans hh))).trans (if_pos h7))))))).symm
       ·refine G6 ?_;refine A2 hw rfl ?_;exact congrArg iV ((if_neg (fun hh => Bool.noConfusion (h1.symm.trans hh))).trans ((if_neg (fun hh => Bool.noConfusion (h2.symm.trans hh))).trans ((if_pos h3).trans ((if_neg (fun hh => Bool.noConfusion (h4.symm.trans hh))).trans ((if_neg (fun hh => Bool.noConfusion (h5.symm.trans hh))).trans ((if_neg (fun hh => Bool.noConfusion (h6.symm.trans hh))).trans (if_neg (fun hh => Bool.noConfusion (h7.symm.trans hh))))))))).symm
   ·refine G5 ?_;refine Af rfl rfl rfl rfl (f135 m k tx _ hk Om) ?_;refine G7 ?_;refine Ab rfl ?_ ?_ <;> intro h4
    ·refine G6 ?_;refine A2 hw rfl ?_;exact congrArg iV ((if_neg (fun hh => Bool.noConfusion (h1.symm.trans hh))).trans ((if_neg (fun hh => Bool.noConfusion (h2.symm.trans hh))).trans ((if_neg (fun hh => Bool.noConfusion (h3.symm.trans hh))).trans (if_pos h4)))).symm
    ·refine G2 ?_;refine Ed 14 zH (hcs (k.hyps.get lb)) [(15,.bool (k.hyps.get lb).isSome)] (Um _) rfl (fun hw => ?_) ?_
     refine XX 1 (l := []) trivial ?_;refine G6 ?_;refine DF (Un rfl hk.h rfl) ?_;refine G3 ?_;refine DT (B6 ziC) (DT (A6 (vs := zH) (vs' := hcs (k.hyps.get lb)) ldC rfl rfl (Bk (It _)) Bj (Cx (It _))) ?_);refine G2 ?_
     exact ⟨(by intro e he; simp at he; rcases he with rfl | rfl <;> first | exact .refl | exact H1 hw),⟨rfl,trivial⟩,sb,rfl,rfl⟩
     refine G4 ?_;refine TAn 4 ?_ (fun hg => ?_) ?_
     rotate_left
     ·refine On hg (Ah (v := .agg (hcs (k.hyps.get lb))) ldC rfl rfl (B0 (It _))) ?_;refine Gn hg ?_
      refine Bg rfl rfl rfl (by rw [hg]; rfl) rfl rfl rfl rfl (Ash _ ⟨lb,fl,tx⟩ _ hg (by show tx.length < _; omega)) ?_
      refine Gn hg ?_;exact Ez
     refine G ?_;refine Ab rfl ?_ ?_ <;> intro h5
     ·refine G5 ?_;refine A2 hw rfl ?_;exact congrArg iV ((if_neg (fun hh => Bool.noConfusion (h1.symm.trans hh))).trans ((if_neg (fun hh => Bool.noConfusion (h2.symm.trans hh))).trans ((if_neg (fun hh => Bool.noConfusion (h3.symm.trans hh))).trans ((if_neg (fun hh => Bool.noConfusion (h4.symm.trans hh))).trans (if_pos h5))))).symm
     ·refine G6 ?_;refine A2 hw rfl ?_;exact congrArg iV ((if_neg (fun hh => Bool.noConfusion (h1.symm.trans hh))).trans ((if_neg (fun hh => Bool.noConfusion (h2.symm.trans hh))).trans ((if_neg (fun hh => Bool.noConfusion (h3.symm.trans hh))).trans ((if_neg (fun hh => Bool.noConfusion (h4.symm.trans hh))).trans (if_neg (fun hh => Bool.noConfusion (h5.symm.trans hh))))))).symm
theorem f134 (m : Nat) (k : Kn) (ra rb : Nat) (lab : SM Bool) (ty : SM Str) (h : Hp) (du : Bool) (J : Sto) (hk : Gc J m k) (hl : Eo J ra lab) (ht : A8 sV J rb ty) (hb : h.text.length < 1000000) :
  Cv 134 [knV m,.agg [.mp ra,.mp rb],.agg (eH h),.bool du] J (iV (Xv k lab ty h du)) := f134p m k ra rb lab ty h.label h.floating h.text du J hk hl ht hb
theorem Sr {f : Nat} {args : List AV} {J : Sto} {v : AV} (he : Vl Ew.P f) (h : ∀ C w (vs : Array Value),RL C (nx J) w args vs.toList -> ∃ x,Calls Ew.P f vs w (fun e w' => e = .returned x /\ w' = w) /\ R C (nx J) w v x) : Aq Ew f args J fun u τ => u = v /\ τ = J := by
 intro C w vs hs hg ha;obtain ⟨x,h1,h2⟩ := h C w vs ha;refine ⟨he,h1.mono fun e w' hq => ?_⟩
 obtain ⟨rfl,rfl⟩ := hq;exact ⟨v,J,C,⟨rfl,rfl⟩,hs,bz_ _ _ _,h2⟩
theorem Ao7 {C : Ctx} {N : Nat} {w : World} {s : Str} {x : Value} (h : R C N w (sV s) x) : ∃ b : ByteArray,x = .string b /\ b.data.toList = s := by
 unfold sV R at h;obtain ⟨b,h1,h2⟩ := h;exact ⟨b,h1,Ev.1 h2⟩
theorem Ajq {C : Ctx} {N : Nat} {w : World} {a b : AV} {vs : Array Value} (h : RL C N w [a,b] vs.toList) : ∃ x y,vs = #[x,y] /\ R C N w a x /\ R C N w b y := by
 obtain ⟨l⟩ := vs
 match l,h with
 | [],h => unfold RL at h; exact h.elim
 | [_],h => unfold RL at h; have := h.2; unfold RL at this; exact this.elim
 | [x,y],h => unfold RL at h; have := h.2; unfold RL at this; exact ⟨x,y,rfl,h.1,this.1⟩
 | _ :: _ :: _ :: _,h => unfold RL at h; have := h.2; unfold RL at this; have := this.2; unfold RL at this; exact this.elim
theorem f184 (s t : Str) (J : Sto) : Cv 184 [sV s,sV t] J (iV (Lib.compareBytes s t)) := by
 refine Sr ⟨_,Tryz.func184,rfl,rfl⟩ fun C w vs ha => ?_
 obtain ⟨x,y,rfl,hx,hy⟩ := Ajq ha;obtain ⟨a,rfl,rfl⟩ := Ao7 hx;obtain ⟨b,rfl,rfl⟩ := Ao7 hy
 exact ⟨_,Tryz.strings_Compare a b w,by unfold iV R; rfl⟩
theorem Gd {E : Env} {lf n f : Nat} {a₀ : List AV} {L : List Nat} {v₀ : AV} {o₀ : List AO} (dg : Ao E (Dy E lf n)) (hgl : ∀ g cs,E.gl g = some cs -> AV.closeds [.pv cs] = true) (hlp : E.loops = []) (hcl : AV.closeds a₀ = true) (hL : L.Nodup)
  (bl : Sg L (Dy E lf n (.fn f) a₀ ⟨.e,0⟩) = some (v₀,o₀)) : A7 E f (Fx a₀ v₀ o₀) := by
 intro C w J args vs v J' hs hg bg h;unfold Fx at h
 split at h
 ·rename_i hb
  have := AV.beqs_eq _ _ hb;subst this
  split at h
  ·rename_i l hl
   cases h;unfold Sg at bl
   split at bl
   ·rename_i v₁ J₁ c6
    split at bl
    ·rename_i l₀ hl₀
     cases bl
     have hGl : Fo C.iso 0 w E := by
      refine ⟨fun g cs hh => ?_,fun c P hc => by rw [C.iso_own]; exact hg.2.1 c P hc,fun L hL => by rw [hlp] at hL; cases hL⟩
      have h1 : RL C (nx J) w [.pv cs] [.pointer (some ⟨g,0,none⟩)] := by unfold RL; exact ⟨hg.1 g cs hh,by unfold RL; trivial⟩
      have h2 : RL C.iso 0 w [.pv cs] [.pointer (some ⟨g,0,none⟩)] := RL.closed (fun c hc => by rwa [C.iso_own] at hc) _ _ (hgl g cs hh) h1
      unfold RL at h2; exact h2.1
     obtain ⟨gn,hc⟩ := dg.fn f C.iso w ⟨.e,0⟩ args vs v₁ J₁ hs.iso hGl
      (RL.closed (fun c hc => by rwa [C.iso_own] at hc) _ _ hcl bg) c6
     refine ⟨gn,hc.mono fun e w' he => ?_⟩
     cases e with
     | returned x =>
      obtain ⟨C₁,h1,h2,h3⟩ := he;obtain ⟨C₂,k1,k2,k3⟩ := Agz hs.iso h1 (C.iso_own).symm rfl h2 h3 hL hl₀;have bn := W6 hl₀
      have hl2 : H2 (List.range o₀.length) (nx J) (Ff o₀ ⟨.e,0⟩) (List.range o₀.length) = some l := by
       rw [Sf _ o₀ (by simp) fun i a ha => ?_]
       ·exact hl
       ·obtain ⟨g1,g2⟩ := ad_.1 ha
        simp at g1 g2
        subst g2
        rw [Hd,if_neg (by simp [nx])]
        simp only [nx,fa_];rw [ao_ g1]
      exact Agz hs k1 rfl rfl k2 k3 List.nodup_range hl2
     | panicked _ => exact he.elim
     | outgrown => exact he.elim
    ·cases bl
   ·cases bl
  ·cases h
 ·cases h
theorem Do (g : Nat) (cs : List AV) (h : Ew.gl g = some cs) : AV.closeds [.pv cs] = true := by
 have h : glW g = some cs := h;unfold glW at h
 split at h
 ·cases h; rfl
 ·cases h
def Amw (m : SM Bool) : List Str -> SM Bool × Nat -> SM Bool × Nat
 | [],q => q
 | s :: r,q => Amw m r (if m.has s then (q.1.put s true,q.2 + 1) else q)
def Ajr (m : SM Bool) : List (List Str) -> SM Bool × Nat -> SM Bool × Nat
 | [],q => q
 | t :: r,q => Ajr m r (Amw m t q)
def occM (m : SM Bool) (ll : List (List Str)) : SM Bool := (Ajr m ll ([],0)).1
def Ra (m : SM Bool) (ll : List (List Str)) : AO := .map 9 (B1 bV (occM m ll)) (Ajr m ll ([],0)).2
theorem undB {N : Nat} (m : SM Bool) : H9 N (B1 bV m) = true := Acr (fun _ => rfl) m
theorem f165x (r : Nat) (m : SM Bool) (ll : List (List Str)) (J : Sto) (hm : Eo J r m) (hb : ll.length < 2000000) (hb2 : ∀ t ∈ ll,t.length < 1000000) : Aq Ew 165 [.mp r,slV eL 1 ll] J fun v J' => v = .mp (nx J) /\ J' = J.new (Ra m ll) := by
 refine Ak Tryz.func165 rfl rfl fun hw hu0 => ?_
 refine G6 ?_;refine O1 (Kl Cd) ?_;refine G10 ?_
 refine Bh ll.length (fun i0 => [(0,.mp r),(5,.mp (nx J)),(11,slV eL 1 ll),(12,iV (.ofNat ll.length)),(13,iV (.ofNat i0))]) (fun i0 J0 => nx J < nx J0 /\ Below (nx J) J J0 /\ ∃ q,J0.get (nx J) = some (.map 9 (B1 bV q.1) q.2) /\ Ajr m ll ([],0) = Ajr m (ll.drop i0) q) SL ⟨by rw [Ac]; omega,Below.rfl'.new nl _,([],0),by rw [ab_,if_pos rfl]; rfl,rfl⟩ ?_
 rintro i0 J0 hi0 ⟨hn0,cy,q0,ho0,hf0⟩;refine G5 ?_;refine Ab rfl ?_ ?_ <;> intro h1
 ·have bc : i0 < ll.length := by simpa using h1
  obtain ⟨a0,ha0⟩ := A3 bc;have hd0 := Av ha0;have hb3 := hb2 a0 (af_ ha0)
  iterate 16 refine G ?_
  refine Bh a0.length (fun i2 => [(0,.mp r),(5,.mp (nx J)),(11,slV eL 1 ll),(12,iV (.ofNat ll.length)),(13,iV (.ofNat i0)),(17,Aj a0),(18,iV (.ofNat a0.length)),(19,iV (.ofNat i2))]) (fun i2 J2 => nx J < nx J2 /\ Below (nx J) J J2 /\ ∃ q,J2.get (nx J) = some (.map 9 (B1 bV q.1) q.2) /\ Amw m a0 q0 = Amw m (a0.drop i2) q) SL ⟨hn0,cy,q0,ho0,rfl⟩ ?_
  rintro i2 J2 hi2 ⟨hn2,ba,q2,ho2,hf2⟩;refine G5 ?_;refine Ab rfl ?_ ?_ <;> intro h2
  ·have bz : i2 < a0.length := by simpa using h2
   obtain ⟨a2,ha2⟩ := A3 bz;have hd2 := Av ha2;have hr := hm.lt hw;have hm2 : Eo J2 r m := hm.of_get (ba.2 r hr)
   iterate 13 refine G ?_
   refine O1 (Cr st9 Cd rfl hm2 rfl) ?_;refine G ?_;refine Ab rfl ?_ ?_ <;> intro h3
   ·refine G3 ?_
    refine O1 (Ec (v := true) st9 Cd rfl ho2 rfl rfl (fun te k1 k2 => by first | exact Ex k1 k2 | exact Ey k1 k2 | exact Fc k1 k2 | exact Fe k1 k2 | exact E1 k1 k2 rfl)) ?_
    refine G5 ?_
    refine ⟨bz,SL,by rw [Ae]; exact hn2,ba.set nl _,(q2.1.put a2 true,q2.2 + 1),by rw [a_,if_pos rfl],by rw [hf2,hd2,Amw,if_pos h3]⟩
   ·refine G5 ?_
    refine ⟨bz,SL,hn2,ba,q2,ho2,by rw [hf2,hd2,Amw,if_neg (by rw [h3]; simp)]⟩
  ·have b9 : a0.length <= i2 := by simpa using h2
   refine G5 ?_
   refine ⟨bc,SL,hn2,ba,q2,ho2,by rw [hf0,hd0,Ajr,hf2,ah_ b9]; rfl⟩
 ·have bm : ll.length <= i0 := by simpa using h1
  refine G6 ?_
  have hq : Ajr m ll ([],0) = q0 := by rw [hf0,ah_ bm]; rfl
  subst hq;refine G ?_
  exact ⟨_,rfl,_,J.new (Ra m ll),Hl.newMap hw cy ho0 hn0 (undB _),by rw [Ac]; exact fm_ _,.same (C6 (by rw [Ac]; exact bo_ _)),rfl,rfl⟩
def cmpP (p q : Pr) : Int := if (!decide (Lib.compareBytes p.a q.a = 0)) = true then Lib.compareBytes p.a q.a else Lib.compareBytes p.b q.b
theorem f167 (p q : Pr) (J : Sto) : Cv 167 [.agg (eP p),.agg (eP q)] J (iV (cmpP p q)) := by
 refine Ak Tryz.func167 rfl rfl fun hw hu0 => ?_
 iterate 13 refine G ?_
 refine Af rfl rfl rfl rfl (f184 p.a q.a _) ?_;refine G7 ?_;refine Ab rfl ?_ ?_ <;> intro h1
 ·refine G6 ?_;refine A2 hw rfl ?_;exact congrArg iV (if_pos h1).symm
 ·refine G7 ?_;refine Af rfl rfl rfl rfl (f184 p.b q.b _) ?_;refine G3 ?_;refine A2 hw rfl ?_;exact congrArg iV (if_neg (fun hh => Bool.noConfusion (h1.symm.trans hh))).symm
def Pq (mu : SM Bool) : List Hp -> Nat -> Option Nat
 | [],n => some n
 | h :: r,n => if h.floating = true then (if (!mu.has (h.text.tail.headD [])) = true then none else Pq mu r (n + 1)) else Pq mu r n
def Alb (l : List Pr) (i : Nat) (p : Pr) : Bool := match i with
 | 0 => false
 | j + 1 => match l[j]? with | some q => decide ((0 : Int) <= cmpP q p) | none => false
theorem Ao8 {l : List Pr} {i : Nat} {p q : Pr} (h : 1 <= i) (hq : l[i - 1]? = some q) : Alb l i p = decide ((0 : Int) <= cmpP q p) := by
 cases i with
 | zero => omega
 | succ j => simp only [Nat.add_sub_cancel] at hq; simp only [Alb,hq]
theorem Arm {l : List Pr} {i : Nat} {p : Pr} (h : i = 0) : Alb l i p = false := by subst h; rfl
def W9 (k : Kn) (l : List Pr) (i : Nat) (p : Pr) : Bool := ((!ltS p.a p.b || !k.vars.has p.a) || !k.vars.has p.b) || Alb l i p
def Nb (k : Kn) (l : List Pr) : List Pr -> Nat -> Bool
 | [],_ => false
 | p :: r,i => W9 k l i p || Nb k l r (i + 1)
def Jh (k : Kn) (f : Fr) : SM Bool := occM k.vars (f.text :: He f.hyps)
def Qy (mu : SM Bool) (l : List Pr) : List Pr := D0 (fun p => !mu.has p.a || !mu.has p.b) l
def Kv (k : Kn) (f : Fr) : Int := match Pq (Jh k f) f.hyps 0 with
 | none => 70
 | some n => if (!decide (Int.ofNat n = Int.ofNat (Jh k f).length)) = true then 70 else if Nb k f.wide f.wide 0 = true then 70 else if (!decide (f.apart = Qy (Jh k f) f.wide)) = true then 70 else 0
theorem Gc.new {J : Sto} {m : Nat} {k : Kn} {o : AO} (hw : WFS J) (h : Gc J m k) : Gc (J.new o) m k := ⟨h.c.new (h.c.lt hw),h.v.new (h.v.lt hw),h.f.new (h.f.lt hw),h.h.new (h.h.lt hw),h.t.new (h.t.lt hw)⟩
theorem f136 (m : Nat) (k : Kn) (f : Fr) (J : Sto) (hk : Gc J m k) (hb : f.hyps.length < 1000000) (hb2 : ∀ t ∈ f.text :: He f.hyps,t.length < 1000000) (hb3 : f.wide.length < 1000000) (hfl : ∀ h ∈ f.hyps,h.floating = true -> ∃ a b,h.text = [a,b]) : Cv 136 [knV m,.agg (eF f)] J (iV (Kv k f)) := by
 refine Ak Tryz.func136 rfl rfl fun hw hu0 => ?_
 refine G6 ?_
 refine XX 1 (l := [(166,[slV eH 3 f.hyps,Aj f.text],J,slV eL 1 (f.text :: He f.hyps),J),(165,[.mp (m + 1),slV eL 1 (f.text :: He f.hyps)],J,.mp (nx J),(J.new (Ra k.vars (f.text :: He f.hyps))))]) ⟨f166 f.hyps f.text J hb,f165x (m + 1) k.vars (f.text :: He f.hyps) J hk.v (by have := Ak9 (l := f.hyps); simp; omega) hb2,trivial⟩ ?_
 refine G9 ?_
 refine DT (Bo rfl rfl (Cc (by decide) Bx)) ?_
 refine G2 ?_
 refine ⟨(by intro e he; simp at he; subst he; exact .refl),?_⟩
 refine G12 ?_;have hmu : Eo (J.new (Ra k.vars (f.text :: He f.hyps))) (nx J) (Jh k f) := A8.fresh;have hk1 : Gc (J.new (Ra k.vars (f.text :: He f.hyps))) m k := hk.new hw;refine G ?_;refine Dt (fun q : Nat × AV => [(0,knV m),(3,.pv (eF f)),(5,.mp (nx J)),(6,q.2),(22,slV eH 3 f.hyps),(23,iV (.ofNat f.hyps.length)),(24,iV (.ofNat q.1))]) (fun q J0 => q.1 <= f.hyps.length /\ J0 = (J.new (Ra k.vars (f.text :: He f.hyps))) /\ ∃ n,q.2 = iV (.ofNat n) /\ n <= q.1 /\ Pq (Jh k f) f.hyps 0 = Pq (Jh k f) (f.hyps.drop q.1) n) (fun q => f.hyps.length - q.1) (0,iV (.ofNat 0)) SL ⟨ca_ _,rfl,0,rfl,nl,rfl⟩ ?_
 rintro ⟨i0,v0⟩ J0 hP0;obtain ⟨hi0,rfl,n,hvn,hni,hf0⟩ : i0 <= f.hyps.length /\ J0 = (J.new (Ra k.vars (f.text :: He f.hyps))) /\ ∃ n,v0 = iV (.ofNat n) /\ n <= i0 /\ Pq (Jh k f) f.hyps 0 = Pq (Jh k f) (f.hyps.drop i0) n := hP0;refine G5 ?_;refine Ab rfl ?_ ?_ <;> intro h1
 ·have bc : i0 < f.hyps.length := by simpa using h1
  obtain ⟨a0,ha0⟩ := A3 bc;have hd0 := Av ha0;subst hvn
  iterate 14 refine G ?_
  refine Ab rfl ?_ ?_ <;> intro h2
  ·have h2' : a0.floating = true := h2;obtain ⟨ta,tb,htx⟩ := hfl a0 (af_ ha0) h2';refine G6 ?_
   refine O1 (Bn elC (fun _ => rfl) rfl rfl (by rw [htx]; rfl : a0.text[1]? = some tb) (i := 1)) ?_
   refine G ?_;refine O1 (Cr st9 Cd rfl hmu rfl) ?_;refine G2 ?_;refine Ab rfl ?_ ?_ <;> intro h3
   ·refine G4 ?_
    have hS : Kv k f = 70 := by rw [Kv,hf0,hd0,Pq,if_pos h2',if_pos (by rw [htx]; exact h3)]
    refine G ?_;exact ⟨_,rfl,_,J,as_ hw (Below.rfl'.new nl _),nl,.same rfl,congrArg iV hS.symm,rfl⟩
   ·refine G3 ?_;refine O1 (Ek (p := n) (q := 1) okC rfl rfl Om) ?_;refine G6 ?_
    refine ⟨(i0 + 1,iV (.ofNat (n + 1))),by show f.hyps.length - (i0 + 1) < f.hyps.length - i0; omega,SL,bc,rfl,n + 1,rfl,by omega,by rw [hf0,hd0,Pq,if_pos h2',if_neg (by rw [htx]; exact fun hh => Bool.noConfusion (h3.symm.trans hh))]⟩
  ·have h2' : a0.floating = false := h2;refine G5 ?_
   refine ⟨(i0 + 1,iV (.ofNat n)),by show f.hyps.length - (i0 + 1) < f.hyps.length - i0; omega,SL,bc,rfl,n,rfl,by omega,by rw [hf0,hd0,Pq,if_neg (by rw [h2']; simp)]⟩
 ·have bm : f.hyps.length <= i0 := by simpa using h1
  subst hvn
  have hs : Pq (Jh k f) f.hyps 0 = some n := by rw [hf0,ah_ bm]; rfl
  refine G6 ?_;refine O1 (Ae8 Cd rfl hmu) ?_;refine G2 ?_;refine Ab rfl ?_ ?_ <;> intro h2
  ·refine G4 ?_
   have hS : Kv k f = 70 := by rw [Kv,hs]; exact if_pos h2
   refine G ?_;exact ⟨_,rfl,_,J,as_ hw (Below.rfl'.new nl _),nl,.same rfl,congrArg iV hS.symm,rfl⟩
  ·refine G10 ?_;refine Bh f.wide.length (fun i2 => [(0,knV m),(3,.pv (eF f)),(5,.mp (nx J)),(45,slV eP 2 f.wide),(46,iV (.ofNat f.wide.length)),(47,iV (.ofNat i2))]) (fun i2 J2 => J2 = (J.new (Ra k.vars (f.text :: He f.hyps))) /\ Nb k f.wide f.wide 0 = Nb k f.wide (f.wide.drop i2) i2) SL ⟨rfl,rfl⟩ ?_
   rintro i2 J2 hi2 ⟨rfl,hf2⟩;refine G5 ?_;refine Ab rfl ?_ ?_ <;> intro h3
   ·have bz : i2 < f.wide.length := by simpa using h3
    obtain ⟨a2,ha2⟩ := A3 bz;have hd2 := Av ha2;refine G8 ?_;refine Ub ziC ldC rfl rfl (fun _ => rfl) rfl (fun _ => rfl) rfl rfl rfl rfl rfl ?_
    refine G ?_;refine D3 [(91,.bool (W9 k f.wide i2 a2))] ?_ ?_
    ·rcases al_ (!ltS a2.a a2.b) with hg5 | hg5
     ·refine XS (l := []) trivial ?_;refine G4 ?_;refine DF (Z1 okC rfl rfl) ?_
      iterate 31 refine G ?_
      refine X7 (e := true) rfl rfl rfl rfl rfl rfl ?_;refine G4 ?_
      exact ⟨⟨congrArg (fun b => some (AV.bool b)) (by unfold W9; rw [hg5]; rfl),trivial⟩,sb,rfl⟩
     ·rcases al_ (!k.vars.has a2.a) with bd | bd
      ·refine XS (l := []) trivial ?_;refine G4 ?_;refine DF (Z1 okC rfl rfl) ?_;refine G7 ?_;refine Xn (Cr st9 Cd rfl hk1.v rfl) ?_;refine G ?_
       refine DF (Am rfl (by first|rfl|simp only [bd,hg5]<;>rfl|simp [bd,hg5]) rfl) ?_
       iterate 21 refine G ?_
       refine X7 (e := true) rfl rfl rfl rfl rfl rfl ?_;refine G4 ?_
       exact ⟨⟨congrArg (fun b => some (AV.bool b)) (by unfold W9; rw [hg5,bd]; rfl),trivial⟩,sb,rfl⟩
      ·rcases al_ (!k.vars.has a2.b) with bf | bf
       ·refine XS (l := []) trivial ?_;refine G4 ?_;refine DF (Z1 okC rfl rfl) ?_;refine G7 ?_;refine Xn (Cr st9 Cd rfl hk1.v rfl) ?_;refine G ?_
        refine DF (Am rfl (by first|rfl|simp only [bf,bd,hg5]<;>rfl|simp [bf,bd,hg5]) rfl) ?_
        refine G7 ?_
        refine Wn (w := by first|rfl|simp only [bf,bd,hg5]<;>rfl|simp [bf,bd,hg5]) (Cr st9 Cd rfl hk1.v rfl) ?_
        refine Wn (w := by first|rfl|simp only [bf,bd,hg5]<;>rfl|simp [bf,bd,hg5]) (M2 rfl) ?_
        refine DF (Am rfl (by first|rfl|simp only [bf,bd,hg5]<;>rfl|simp [bf,bd,hg5]) rfl) ?_
        refine DF (Cm rfl) ?_
        refine Wx (w := by first|rfl|simp only [bf,bd,hg5]<;>rfl|simp [bf,bd,hg5]) ?_
        refine Wx (w := by first|rfl|simp only [bf,bd,hg5]<;>rfl|simp [bf,bd,hg5]) ?_
        refine Wx (w := by first|rfl|simp only [bf,bd,hg5]<;>rfl|simp [bf,bd,hg5]) ?_
        refine Du (Du (Du (Du (Du (Du (Du (X7 (e := true) rfl rfl rfl rfl rfl rfl ?_)))))));refine Du ?_
        refine Wx (w := by first|rfl|simp only [bf,bd,hg5]<;>rfl|simp [bf,bd,hg5]) ?_
        refine DF (E5 rfl (by first|rfl|simp only [bf,bd,hg5]<;>rfl|simp [bf,bd,hg5]) rfl) ?_
        refine Ii ?_
        exact ⟨⟨congrArg (fun b => some (AV.bool b)) (by unfold W9; rw [hg5,bd,bf]; rfl),trivial⟩,sb,rfl⟩
       ·rcases al_ (decide ((0 : Int) < Int.ofNat i2)) with bj | bj
        ·have h1i : 0 < i2 := by simpa using bj
         obtain ⟨pq,hpq⟩ := A3 (show i2 - 1 < f.wide.length by omega)
         refine XS (l := [(167,[.agg (eP pq),.agg (eP a2)],(J.new (Ra k.vars (f.text :: He f.hyps))),iV (cmpP pq a2),(J.new (Ra k.vars (f.text :: He f.hyps))))]) ⟨f167 pq a2 _,trivial⟩ ?_;refine G4 ?_;refine DF (Z1 okC rfl rfl) ?_;refine G7 ?_;refine Xn (Cr st9 Cd rfl hk1.v rfl) ?_;refine G ?_
         refine DF (Am rfl (by first|rfl|simp only [bj,bf,bd,hg5]<;>rfl|simp [bj,bf,bd,hg5]) rfl) ?_
         refine G7 ?_
         refine Wn (w := by first|rfl|simp only [bj,bf,bd,hg5]<;>rfl|simp [bj,bf,bd,hg5]) (Cr st9 Cd rfl hk1.v rfl) ?_
         refine Wn (w := by first|rfl|simp only [bj,bf,bd,hg5]<;>rfl|simp [bj,bf,bd,hg5]) (M2 rfl) ?_
         refine DF (Am rfl (by first|rfl|simp only [bj,bf,bd,hg5]<;>rfl|simp [bj,bf,bd,hg5]) rfl) ?_
         refine DF (Cm rfl) ?_
         refine Wn (w := by first|rfl|simp only [bj,bf,bd,hg5]<;>rfl|simp [bj,bf,bd,hg5]) (Cm rfl) ?_
         refine Wn (w := by first|rfl|simp only [bj,bf,bd,hg5]<;>rfl|simp [bj,bf,bd,hg5]) (Aev (q := 0) okC rfl rfl) ?_
         refine Wn (w := by first|rfl|simp only [bj,bf,bd,hg5]<;>rfl|simp [bj,bf,bd,hg5]) (Cm rfl) ?_
         refine Wn (w := by first|rfl|simp only [bj,bf,bd,hg5]<;>rfl|simp [bj,bf,bd,hg5]) (B3 fdC rfl rfl) ?_
         refine Wn (w := by first|rfl|simp only [bj,bf,bd,hg5]<;>rfl|simp [bj,bf,bd,hg5]) (Ah ldC rfl rfl rfl) ?_
         refine Wn (w := by first|rfl|simp only [bj,bf,bd,hg5]<;>rfl|simp [bj,bf,bd,hg5]) (Cm rfl) ?_
         refine Wn (w := by first|rfl|simp only [bj,bf,bd,hg5]<;>rfl|simp [bj,bf,bd,hg5]) (Ajc (p := i2) (q := 1) okC rfl rfl Om Om) ?_
         refine Wn (w := by first|rfl|simp only [bj,bf,bd,hg5]<;>rfl|simp [bj,bf,bd,hg5]) (Bn elC (fun _ => rfl) rfl rfl hpq) ?_
         refine Wn (w := by first|rfl|simp only [bj,bf,bd,hg5]<;>rfl|simp [bj,bf,bd,hg5]) (Ah ldC rfl rfl rfl) ?_
         refine Wn (w := by first|rfl|simp only [bj,bf,bd,hg5]<;>rfl|simp [bj,bf,bd,hg5]) (Ah ldC rfl rfl rfl) ?_
         refine Pk (e := true) rfl rfl rfl rfl (by first|rfl|simp only [bj,bf,bd,hg5]<;>rfl|simp [bj,bf,bd,hg5]) rfl rfl (Bo rfl rfl Bx) ?_
         refine Wn (w := by first|rfl|simp only [bj,bf,bd,hg5]<;>rfl|simp [bj,bf,bd,hg5]) (Ai1 (q := 0) okC rfl rfl) ?_
         refine Wn (w := by first|rfl|simp only [bj,bf,bd,hg5]<;>rfl|simp [bj,bf,bd,hg5]) (E5 rfl (by first|rfl|simp only [bj,bf,bd,hg5]<;>rfl|simp [bj,bf,bd,hg5]) rfl) ?_
         refine DF (Am rfl (by first|rfl|simp only [bj,bf,bd,hg5]<;>rfl|simp [bj,bf,bd,hg5]) rfl) ?_
         refine Ii ?_
         exact ⟨⟨congrArg (fun b => some (AV.bool b)) (by unfold W9; rw [hg5,bd,bf,Ao8 h1i hpq]; rfl),trivial⟩,sb,rfl⟩
        ·refine XS (l := []) trivial ?_;refine G4 ?_;refine DF (Z1 okC rfl rfl) ?_;refine G7 ?_;refine Xn (Cr st9 Cd rfl hk1.v rfl) ?_;refine G ?_
         refine DF (Am rfl (by first|rfl|simp only [bj,bf,bd,hg5]<;>rfl|simp [bj,bf,bd,hg5]) rfl) ?_
         refine G7 ?_
         refine Wn (w := by first|rfl|simp only [bj,bf,bd,hg5]<;>rfl|simp [bj,bf,bd,hg5]) (Cr st9 Cd rfl hk1.v rfl) ?_
         refine Wn (w := by first|rfl|simp only [bj,bf,bd,hg5]<;>rfl|simp [bj,bf,bd,hg5]) (M2 rfl) ?_
         refine DF (Am rfl (by first|rfl|simp only [bj,bf,bd,hg5]<;>rfl|simp [bj,bf,bd,hg5]) rfl) ?_
         refine DF (Cm rfl) ?_
         refine Wn (w := by first|rfl|simp only [bj,bf,bd,hg5]<;>rfl|simp [bj,bf,bd,hg5]) (Cm rfl) ?_
         refine Wn (w := by first|rfl|simp only [bj,bf,bd,hg5]<;>rfl|simp [bj,bf,bd,hg5]) (Aev (q := 0) okC rfl rfl) ?_
         refine Wn (w := by first|rfl|simp only [bj,bf,bd,hg5]<;>rfl|simp [bj,bf,bd,hg5]) (Cm rfl) ?_
         refine Wx (w := by first|rfl|simp only [bj,bf,bd,hg5]<;>rfl|simp [bj,bf,bd,hg5]) ?_
         refine Wx (w := by first|rfl|simp only [bj,bf,bd,hg5]<;>rfl|simp [bj,bf,bd,hg5]) ?_
         refine Wx (w := by first|rfl|simp only [bj,bf,bd,hg5]<;>rfl|simp [bj,bf,bd,hg5]) ?_
         refine Wx (w := by first|rfl|simp only [bj,bf,bd,hg5]<;>rfl|simp [bj,bf,bd,hg5]) ?_
         refine Wx (w := by first|rfl|simp only [bj,bf,bd,hg5]<;>rfl|simp [bj,bf,bd,hg5]) ?_
         refine Wx (w := by first|rfl|simp only [bj,bf,bd,hg5]<;>rfl|simp [bj,bf,bd,hg5]) ?_
         refine Wx (w := by first|rfl|simp only [bj,bf,bd,hg5]<;>rfl|simp [bj,bf,bd,hg5]) ?_
         refine Sc (e := true) rfl rfl rfl rfl (by first|rfl|simp only [bj,bf,bd,hg5]<;>rfl|simp [bj,bf,bd,hg5]) rfl rfl ?_
         refine Wx (w := by first|rfl|simp only [bj,bf,bd,hg5]<;>rfl|simp [bj,bf,bd,hg5]) ?_
         refine Wn (w := by first|rfl|simp only [bj,bf,bd,hg5]<;>rfl|simp [bj,bf,bd,hg5]) (Am rfl (by first|rfl|simp only [bj,bf,bd,hg5]<;>rfl|simp [bj,bf,bd,hg5]) rfl) ?_
         refine DF (Am rfl (by first|rfl|simp only [bj,bf,bd,hg5]<;>rfl|simp [bj,bf,bd,hg5]) rfl) ?_
         refine Ii ?_
         exact ⟨⟨congrArg (fun b => some (AV.bool b)) (by unfold W9; rw [hg5,bd,bf,Arm (by simpa using bj)]; rfl),trivial⟩,sb,rfl⟩
    refine Ab rfl ?_ ?_ <;> intro h4
    ·refine G4 ?_
     have hS : Kv k f = 70 := by rw [Kv,hs]; exact (if_neg (fun hh => Bool.noConfusion (h2.symm.trans hh))).trans (if_pos (by rw [hf2,hd2,Nb,h4]; rfl))
     refine G ?_;exact ⟨_,rfl,_,J,as_ hw (Below.rfl'.new nl _),nl,.same rfl,congrArg iV hS.symm,rfl⟩
    ·have hx4 : W9 k f.wide i2 a2 = false := h4;refine G5 ?_
     refine ⟨bz,SL,rfl,by rw [hf2,hd2,Nb,hx4]; rfl⟩
   ·have b9 : f.wide.length <= i2 := by simpa using h3
    have hwb : Nb k f.wide f.wide 0 = false := by rw [hf2,ah_ b9]; rfl
    refine G3 ?_
    refine XX 1 (l := [(169,[.mp (nx J),slV eP 2 f.wide],(J.new (Ra k.vars (f.text :: He f.hyps))),slV eP 2 (Qy (Jh k f) f.wide),(J.new (Ra k.vars (f.text :: He f.hyps)))),(168,[slV eP 2 f.apart,slV eP 2 (Qy (Jh k f) f.wide)],(J.new (Ra k.vars (f.text :: He f.hyps))),.bool (decide (f.apart = Qy (Jh k f) f.wide)),(J.new (Ra k.vars (f.text :: He f.hyps))))]) ⟨f169 (nx J) (Jh k f) f.wide (J.new (Ra k.vars (f.text :: He f.hyps))) hmu hb3,f168 f.apart (Qy (Jh k f) f.wide) (J.new (Ra k.vars (f.text :: He f.hyps))) (by have := Gz (p := fun p : Pr => !(Jh k f).has p.a || !(Jh k f).has p.b) (l := f.wide); unfold Qy; omega),trivial⟩ ?_
    refine G9 ?_
    refine ⟨(by intro e he; simp at he; subst he; exact .refl),?_⟩
    refine Ab rfl ?_ ?_ <;> intro h4
    ·refine G4 ?_
     have hS : Kv k f = 70 := by rw [Kv,hs]; exact (if_neg (fun hh => Bool.noConfusion (h2.symm.trans hh))).trans ((if_neg (fun hh => Bool.noConfusion (hwb.symm.trans hh))).trans (if_pos h4))
     refine G ?_;exact ⟨_,rfl,_,J,as_ hw (Below.rfl'.new nl _),nl,.same rfl,congrArg iV hS.symm,rfl⟩
    ·refine G5 ?_
     have hS : Kv k f = 0 := by rw [Kv,hs]; exact (if_neg (fun hh => Bool.noConfusion (h2.symm.trans hh))).trans ((if_neg (fun hh => Bool.noConfusion (hwb.symm.trans hh))).trans (if_neg (fun hh => Bool.noConfusion (h4.symm.trans hh))))
     refine G ?_;exact ⟨_,rfl,_,J,as_ hw (Below.rfl'.new nl _),nl,.same rfl,congrArg iV hS.symm,rfl⟩
theorem Ahe (k : Nat) (J : Sto) : Cv 202 [.fn (.func k) [] []] J (.fn (.func 203) [] [.pv [.fn (.func k) [] []]]) := by
 refine Ak Tryz.func202 rfl rfl fun hw hu0 => ?_
 refine G11 ?_;refine A2 hw rfl ?_;exact rfl
theorem Ahf (k : Nat) (s : Str) (b : Bool) (J : Sto) (hk : Cv k [sV s] J (.bool b)) : Cv 203 [sV s,.pv [.fn (.func k) [] []]] J (.bool (!b)) := by
 refine Ak Tryz.func203 rfl rfl fun hw hu0 => ?_
 refine G8 ?_;refine Af rfl rfl rfl rfl hk ?_;refine G4 ?_;refine A2 hw rfl ?_;exact rfl
structure Stm where
 kind : Int
 label : Str
 text : List Str
 proof : List Str
def eSt (s : Stm) : List AV := [iV s.kind,sV s.label,Aj s.text,Aj s.proof]
theorem f201 (p : Stm -> Bool) (l : List Stm) (k : Nat) (cap : List AV) (J : Sto) (hb : l.length < 1000000) (hk : ∀ a ∈ l,Aq Ew k ([.agg (eSt a)] ++ cap) J fun v J' => v = .bool (p a) /\ J' = J) : Cv 201 [slV eSt 4 l,.fn (.func k) [] cap] J (iV (Ap p l 0)) := by
 refine Ak Tryz.func201 rfl rfl fun hw hu0 => ?_
 refine G12 ?_;refine Bh l.length (fun i0 => [(0,slV eSt 4 l),(1,.fn (.func k) [] cap),(7,iV (.ofNat l.length)),(8,iV (.ofNat i0))]) (fun i0 J0 => J0 = J /\ Ap p l 0 = Ap p (l.drop i0) i0) SL ⟨rfl,rfl⟩ ?_
 rintro i0 J0 hi0 ⟨rfl,hf0⟩;refine G5 ?_;refine Ab rfl ?_ ?_ <;> intro h1
 ·have bc : i0 < l.length := by simpa using h1
  obtain ⟨a0,ha0⟩ := A3 bc;have hd0 := Av ha0
  iterate 15 refine G ?_
  refine Af rfl rfl rfl rfl (hk a0 (af_ ha0)) ?_;refine G ?_;refine Ab rfl ?_ ?_ <;> intro h2
  ·refine G6 ?_;refine A2 hw rfl ?_
   exact (by rw [hf0,hd0]; simp only [Ap,h2,cond_true]; rfl)
  ·refine G5 ?_
   refine ⟨bc,SL,rfl,by rw [hf0,hd0]; simp only [Ap,h2,cond_false]⟩
 ·have bm : l.length <= i0 := by simpa using h1
  refine G6 ?_;refine A2 hw rfl ?_
  exact (by rw [hf0,ah_ bm]; rfl)
theorem f188 (p : Stm -> Bool) (l : List Stm) (k : Nat) (cap : List AV) (J : Sto) (hb : l.length < 1000000) (hk : ∀ a ∈ l,Aq Ew k ([.agg (eSt a)] ++ cap) J fun v J' => v = .bool (p a) /\ J' = J) : Cv 188 [slV eSt 4 l,.fn (.func k) [] cap] J (.bool (l.any p)) := by
 refine Ak Tryz.func188 rfl rfl fun hw hu0 => ?_
 refine G8 ?_;refine Af rfl rfl rfl rfl (f201 p l k cap J hb hk) ?_;refine G4 ?_;refine A2 hw rfl ?_;exact congrArg AV.bool (D2 l)
theorem labX : Kt [2] [120] = true := Kr
theorem symX : Kt [2,3] [120] = true := Kr
theorem Me {f f' : Nat} {a a' : List AV} {s s' t : Sto} {v : AV} {r : List (Nat × List AV × Sto × AV × Sto)} {o : Option (AV × Sto)} (h : a' ≠ a) (k : Eq r (.fn f') a' t = o) : Eq ((f,a,s,v,s') :: r) (.fn f') a' t = o := by
 simp only [Eq]; rw [if_neg (fun hh => h hh.2.1)]; exact k
def stX (s : Str) : List AV := [iV 7,sV [120],Aj [[120]],Aj [s]]
theorem f190 (s : Str) (b : Bool) (J : Sto) (hp : Cv 204 [sV s] J (.bool b)) : Cv 190 [.agg (stX s)] J (.bool b) := by
 refine Ak Tryz.func190 rfl rfl fun hw hu0 => ?_
 refine G12 ?_;refine TOr 3 ?_ (fun hg => ?_) ?_
 rotate_left
 ·iterate 3 refine Gn hg ?_
  exact Ez
 refine G ?_;refine Ab rfl ?_ ?_ <;> intro h1
 ·exact absurd h1 (by decide)
 ·refine G5 ?_
  refine O1 (I0 Asg rfl rfl (by decide) (n := 7) rfl) ?_
  refine G9 ?_;refine Ph 4 _ ?_ rfl rfl rfl rfl rfl (L9 rfl) (fun hg => ?_) (fun hg => ?_) ?_
  rotate_left
  ·iterate 2 refine Gn hg ?_
   refine Bg rfl rfl rfl (by rw [hg]; rfl) rfl rfl rfl rfl (f132 [120] _) ?_
   refine Gn hg ?_;refine G ?_;refine ⟨rfl,?_,?_⟩
   ·exact sb
   ·exact rfl
  ·exact absurd hg (by decide)
  refine G ?_;refine TOr 8 ?_ (fun hg => ?_) ?_
  rotate_left
  ·iterate 4 refine Gn hg ?_
   refine Ph 3 _ ?_ rfl rfl rfl rfl rfl (Jq rfl rfl rfl rfl (by rw [hg]; rfl)) (fun hg => ?_) (fun hg => ?_) ?_
   rotate_left
   ·iterate 2 refine Gn hg ?_
    refine On hg (Lr (q := []) okC rfl rfl) ?_;refine G ?_;refine ⟨rfl,?_,?_⟩
    ·exact sb
    ·exact rfl
   ·iterate 3 refine Gn hg ?_
    refine G ?_;exact ⟨rfl,sb⟩
   exact Ez
  refine G ?_;refine TOr 6 ?_ (fun hg => ?_) ?_
  rotate_left
  ·iterate 6 refine Gn hg ?_
   exact Ez
  refine G ?_;refine TOr 6 ?_ (fun hg => ?_) ?_
  rotate_left
  ·iterate 6 refine Gn hg ?_
   exact Ez
  refine G ?_;refine Ab rfl ?_ ?_ <;> intro h2
  ·exact absurd h2 (by rw [labX]; decide)
  ·refine G5 ?_;refine Ami [(2,.bool b)] J ?_ ?_
   ·rcases al_ (true) with hg6 | hg6
    ·rcases al_ (b) with bk | bk
     ·rcases al_ (true) with bi | bi
      ·refine XI (l := [(202,[.fn (.func 130) [] []],J,.fn (.func 203) [] [.pv [.fn (.func 130) [] []]],J),(19,[Aj [[120]],.fn (.func 203) [] [.pv [.fn (.func 130) [] []]]],J,.bool false,J),(202,[.fn (.func 204) [] []],J,.fn (.func 203) [] [.pv [.fn (.func 204) [] []]],J),(19,[Aj [s],.fn (.func 203) [] [.pv [.fn (.func 204) [] []]]],J,.bool (!b),J)]) ⟨Ahe 130 J,(by have := f19 (fun w => !Kt [2,3] w) [[120]] 203 [.pv [.fn (.func 130) [] []]] J (by simp) (fun a _ => Ahf 130 a _ J (Amv a J)); simpa [symX] using this),Ahe 204 J,(by have := f19 (fun _ => !b) [s] 203 [.pv [.fn (.func 204) [] []]] J (by simp) (fun a ha => by simp at ha; subst ha; exact Ahf 204 a b J hp); simpa using this),trivial⟩ ?_
       refine G4 ?_
       refine DT (Bo rfl rfl (Cc (by decide) Bx)) ?_
       refine G5 ?_
       refine Pk (e := true) rfl rfl rfl rfl (by first|rfl|simp only [bi,bk,hg6]<;>rfl|simp [bi,bk,hg6]) rfl rfl (Bo rfl rfl (Me (by intro h; simp at h) (Cc (by decide) Bx))) ?_
       refine Pk (e := true) rfl rfl rfl rfl (by first|rfl|simp only [bi,bk,hg6]<;>rfl|simp [bi,bk,hg6]) rfl rfl (Bo rfl rfl (Cc (by decide) (Me (by intro h; simp at h) (Cc (by decide) Bx)))) ?_
       iterate 15 refine G ?_
       exact ⟨rfl,by simp,⟨⟨congrArg (fun b => some (AV.bool b)) (by first | exact absurd hg6 (by decide) | exact absurd bi (by decide) | exact bk.symm | rfl | (simp [bk]; done)),trivial⟩,rfl⟩⟩
      ·refine XI (l := [(202,[.fn (.func 130) [] []],J,.fn (.func 203) [] [.pv [.fn (.func 130) [] []]],J),(19,[Aj [[120]],.fn (.func 203) [] [.pv [.fn (.func 130) [] []]]],J,.bool false,J),(202,[.fn (.func 204) [] []],J,.fn (.func 203) [] [.pv [.fn (.func 204) [] []]],J),(19,[Aj [s],.fn (.func 203) [] [.pv [.fn (.func 204) [] []]]],J,.bool (!b),J)]) ⟨Ahe 130 J,(by have := f19 (fun w => !Kt [2,3] w) [[120]] 203 [.pv [.fn (.func 130) [] []]] J (by simp) (fun a _ => Ahf 130 a _ J (Amv a J)); simpa [symX] using this),Ahe 204 J,(by have := f19 (fun _ => !b) [s] 203 [.pv [.fn (.func 204) [] []]] J (by simp) (fun a ha => by simp at ha; subst ha; exact Ahf 204 a b J hp); simpa using this),trivial⟩ ?_
       refine G4 ?_
       refine DT (Bo rfl rfl (Cc (by decide) Bx)) ?_
       refine G2 ?_
       refine Wn (w := by first|rfl|simp only [bi,bk,hg6]<;>rfl|simp [bi,bk,hg6]) (B3 fdC rfl rfl) ?_
       refine Wn (w := by first|rfl|simp only [bi,bk,hg6]<;>rfl|simp [bi,bk,hg6]) (Ah ldC rfl rfl rfl) ?_
       refine Wn (w := by first|rfl|simp only [bi,bk,hg6]<;>rfl|simp [bi,bk,hg6]) (Cm rfl) ?_
       refine Pk (e := true) rfl rfl rfl rfl (by first|rfl|simp only [bi,bk,hg6]<;>rfl|simp [bi,bk,hg6]) rfl rfl (Bo rfl rfl (Me (by intro h; simp at h) (Cc (by decide) Bx))) ?_
       refine Pk (e := true) rfl rfl rfl rfl (by first|rfl|simp only [bi,bk,hg6]<;>rfl|simp [bi,bk,hg6]) rfl rfl (Bo rfl rfl (Cc (by decide) (Me (by intro h; simp at h) (Cc (by decide) Bx)))) ?_
       refine Wn (w := by first|rfl|simp only [bi,bk,hg6]<;>rfl|simp [bi,bk,hg6]) (M2 rfl) ?_
       refine G2 ?_
       refine Wn (w := by first|rfl|simp only [bi,bk,hg6]<;>rfl|simp [bi,bk,hg6]) (B3 fdC rfl rfl) ?_
       refine Wn (w := by first|rfl|simp only [bi,bk,hg6]<;>rfl|simp [bi,bk,hg6]) (Ah ldC rfl rfl rfl) ?_
       refine Wn (w := by first|rfl|simp only [bi,bk,hg6]<;>rfl|simp [bi,bk,hg6]) (Lp (q := 7) okC rfl rfl) ?_
       refine Wn (w := by first|rfl|simp only [bi,bk,hg6]<;>rfl|simp [bi,bk,hg6]) (Cm rfl) ?_
       refine Wn (w := by first|rfl|simp only [bi,bk,hg6]<;>rfl|simp [bi,bk,hg6]) (B3 fdC rfl rfl) ?_
       refine Wn (w := by first|rfl|simp only [bi,bk,hg6]<;>rfl|simp [bi,bk,hg6]) (Ah ldC rfl rfl rfl) ?_
       refine Wn (w := by first|rfl|simp only [bi,bk,hg6]<;>rfl|simp [bi,bk,hg6]) (Aof slC rfl) ?_
       refine Wn (w := by first|rfl|simp only [bi,bk,hg6]<;>rfl|simp [bi,bk,hg6]) (Lp (q := 0) okC rfl rfl) ?_
       refine Wn (w := by first|rfl|simp only [bi,bk,hg6]<;>rfl|simp [bi,bk,hg6]) (Am rfl (by first|rfl|simp only [bi,bk,hg6]<;>rfl|simp [bi,bk,hg6]) rfl) ?_
       refine G3 ?_
       exact ⟨rfl,by simp,⟨⟨congrArg (fun b => some (AV.bool b)) (by first | exact absurd hg6 (by decide) | exact absurd bi (by decide) | exact bk.symm | rfl | (simp [bk]; done)),trivial⟩,rfl⟩⟩
     ·refine XI (l := [(202,[.fn (.func 130) [] []],J,.fn (.func 203) [] [.pv [.fn (.func 130) [] []]],J),(19,[Aj [[120]],.fn (.func 203) [] [.pv [.fn (.func 130) [] []]]],J,.bool false,J),(202,[.fn (.func 204) [] []],J,.fn (.func 203) [] [.pv [.fn (.func 204) [] []]],J),(19,[Aj [s],.fn (.func 203) [] [.pv [.fn (.func 204) [] []]]],J,.bool (!b),J)]) ⟨Ahe 130 J,(by have := f19 (fun w => !Kt [2,3] w) [[120]] 203 [.pv [.fn (.func 130) [] []]] J (by simp) (fun a _ => Ahf 130 a _ J (Amv a J)); simpa [symX] using this),Ahe 204 J,(by have := f19 (fun _ => !b) [s] 203 [.pv [.fn (.func 204) [] []]] J (by simp) (fun a ha => by simp at ha; subst ha; exact Ahf 204 a b J hp); simpa using this),trivial⟩ ?_
      refine G4 ?_
      refine DT (Bo rfl rfl (Cc (by decide) Bx)) ?_
      refine G5 ?_
      refine Pk (e := true) rfl rfl rfl rfl (by first|rfl|simp only [bk,hg6]<;>rfl|simp [bk,hg6]) rfl rfl (Bo rfl rfl (Me (by intro h; simp at h) (Cc (by decide) Bx))) ?_
      refine Pk (e := true) rfl rfl rfl rfl (by first|rfl|simp only [bk,hg6]<;>rfl|simp [bk,hg6]) rfl rfl (Bo rfl rfl (Cc (by decide) (Me (by intro h; simp at h) (Cc (by decide) Bx)))) ?_
      refine G12 ?_
      refine DF (Am rfl (by first|rfl|simp only [bk,hg6]<;>rfl|simp [bk,hg6]) rfl) ?_
      refine G2 ?_
      exact ⟨rfl,by simp,⟨⟨congrArg (fun b => some (AV.bool b)) (by first | exact absurd hg6 (by decide) | exact absurd bi (by decide) | exact bk.symm | rfl | (simp [bk]; done)),trivial⟩,rfl⟩⟩
    ·refine XI (l := [(202,[.fn (.func 130) [] []],J,.fn (.func 203) [] [.pv [.fn (.func 130) [] []]],J),(19,[Aj [[120]],.fn (.func 203) [] [.pv [.fn (.func 130) [] []]]],J,.bool false,J),(202,[.fn (.func 204) [] []],J,.fn (.func 203) [] [.pv [.fn (.func 204) [] []]],J),(19,[Aj [s],.fn (.func 203) [] [.pv [.fn (.func 204) [] []]]],J,.bool (!b),J)]) ⟨Ahe 130 J,(by have := f19 (fun w => !Kt [2,3] w) [[120]] 203 [.pv [.fn (.func 130) [] []]] J (by simp) (fun a _ => Ahf 130 a _ J (Amv a J)); simpa [symX] using this),Ahe 204 J,(by have := f19 (fun _ => !b) [s] 203 [.pv [.fn (.func 204) [] []]] J (by simp) (fun a ha => by simp at ha; subst ha; exact Ahf 204 a b J hp); simpa using this),trivial⟩ ?_
     refine G4 ?_
     refine DT (Bo rfl rfl (Cc (by decide) Bx)) ?_
     refine G5 ?_
     refine Sc (e := true) rfl rfl rfl rfl (by first|rfl|simp only [hg6]<;>rfl|simp [hg6]) rfl rfl ?_
     refine Sc (e := true) rfl rfl rfl rfl (by first|rfl|simp only [hg6]<;>rfl|simp [hg6]) rfl rfl ?_
     refine G ?_
     refine DF (Am rfl (by first|rfl|simp only [hg6]<;>rfl|simp [hg6]) rfl) ?_
     refine DF (Cm rfl) ?_
     refine Wx (w := by first|rfl|simp only [hg6]<;>rfl|simp [hg6]) ?_
     refine Wx (w := by first|rfl|simp only [hg6]<;>rfl|simp [hg6]) ?_
     refine Wx (w := by first|rfl|simp only [hg6]<;>rfl|simp [hg6]) ?_
     refine Wx (w := by first|rfl|simp only [hg6]<;>rfl|simp [hg6]) ?_
     refine Du (Du (Du (Du ?_)))
     refine Wx (w := by first|rfl|simp only [hg6]<;>rfl|simp [hg6]) ?_
     refine DF (Am rfl (by first|rfl|simp only [hg6]<;>rfl|simp [hg6]) rfl) ?_
     refine DF (L6 rfl) (Ii ?_)
     exact ⟨rfl,by simp,⟨⟨congrArg (fun b => some (AV.bool b)) (by first | exact absurd hg6 (by decide) | exact absurd bi (by decide) | exact bk.symm | rfl | (simp [bk]; done)),trivial⟩,rfl⟩⟩
   refine G ?_;refine A2 hw rfl ?_;exact rfl
theorem f189 (s : Str) (b : Bool) (J : Sto) (hp : Cv 204 [sV s] J (.bool b)) : Cv 189 [.agg (stX s)] J (.bool (!b)) := by
 refine Ak Tryz.func189 rfl rfl fun hw hu0 => ?_
 refine G8 ?_;refine Af rfl rfl rfl rfl (f190 s b J hp) ?_;refine G4 ?_;refine A2 hw rfl ?_;exact rfl
end Go.AM
