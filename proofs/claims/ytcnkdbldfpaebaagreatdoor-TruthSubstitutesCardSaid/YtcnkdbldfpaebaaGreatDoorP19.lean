/- A part of the proof; shortened by program. -/
import Derived.Test.YtcnkdbldfpaebaaGreatDoorP18
set_option maxRecDepth 100000
set_option maxHeartbeats 4000000
set_option linter.unusedSimpArgs false
set_option linter.unusedVariables false
namespace Go.AM
open Go Go.Proofs
def zH : List AV := [.str [],.bool false,.nil (.slice none 0 0)]
def hcs (o : Option Hp) : List AV := match o with | some h => eH h | none => zH
theorem Ja (o : Option Hp) : (hcs o).length = 3 := by cases o <;> rfl
theorem Up {N : Nat} (o : Option Hp) : AV.unds N (hcs o) = true := by cases o with | none => rfl | some h => exact No h
theorem Uq {ρ : Ao} {J : Sto} {Rr : Rec} {x y : Operand} {m : SM Hp} {s : Str} {r : Nat} (hx : A4 Ew ρ x = some (.mp r)) (hm : Bx hV J r m) (hy : A4 Ew ρ y = some (sV s)) :
  Bo Ew Rr (.lookup 154 x y true) ρ J (.tup [.agg (hcs (m.get s)),.bool (m.get s).isSome]) J := by
 have := Kf (Rr := Rr) st9 Qi hx hm hy
 have e : ((m.get s).map hV).getD (.agg [.str [],.bool false,.nil (.slice none 0 0)]) = .agg (hcs (m.get s)) := by cases m.get s <;> rfl
 rwa [e] at this
theorem Agz {ρ : Ao} {J : Sto} {Rr : Rec} {x y : Operand} {m : SM Str} {s : Str} {r : Nat} (hx : A4 Ew ρ x = some (.mp r)) (hm : Bx sV J r m) (hy : A4 Ew ρ y = some (sV s)) :
  Bo Ew Rr (.lookup 233 x y true) ρ J (.tup [sV ((m.get s).getD []),.bool (m.get s).isSome]) J := by
 have := Kf (Rr := Rr) st9 Acq hx hm hy
 have e : ((m.get s).map sV).getD (.str []) = sV ((m.get s).getD []) := by cases m.get s <;> rfl
 rwa [e] at this
theorem f141 (m : Nat) (k : Kn) (h : Hp) (J : Sto) (hk : Gs J m k) : Cv 141 [.agg (eH h),.pv [knV m]] J (.bool (k.hyps.get h.label).isSome) := by
 refine Az Tryz.func141 rfl rfl fun hw hu0 => ?_
 refine Ac (Aa (Ar D2 rfl rfl rfl (OA rfl (Ab ?_))));refine Ni 4 zH (hcs (k.hyps.get h.label)) [(5,.bool (k.hyps.get h.label).isSome)] (Up _) rfl (fun hw => ?_) ?_
 refine Ig 1 (anns := [aR 0 1,aP 0 1,aP 0 1,aR 0 1,aP 0 1,aR 0 1,aR 0 1,aP 0 1,aP 0 1,aP 0 2,aE 0 1,aE 1 2,aP 2 2]) A1 (As (l := []) trivial) Kr Kr ?_;refine DF (Ae Jw rfl rfl rfl) (DF (Bp rfl) (DF (Ad Uk rfl rfl) (DF (Ae Agv rfl rfl rfl) (DF (Ad Fu rfl rfl) (DF (Ae ld9 rfl rfl rfl) (DF (Uq rfl hk.h rfl) (DF (Ag rfl) ?_)))))));refine DF (Al rfl rfl) (DF (Al rfl rfl) (DT (Cw Sm) (DT (B9 (vs := zH) (vs' := hcs (k.hyps.get h.label)) D2 rfl rfl (Bj (Ja _)) Ed (E4 (Ja _))) (DF (Bk rfl) (Bi ?_)))))
 exact ⟨(by intro e he; simp at he; rcases he with rfl | rfl <;> first | exact .refl | exact Uf hw),⟨rfl,trivial⟩,sb,rfl,rfl⟩
 refine Ac (Aa (OM rfl (OA rfl (Ab ?_))));refine An (Bq hw rfl ?_);exact rfl
def Aln (o : Option Hp) (b : Hp) : Bool := match o with | some a => All a b | none => false
theorem Atk (o : Option Hp) (b : Hp) (J : Sto) (ho : o.isSome = true) (hb : b.text.length < 4611686018427387904) : Cv 114 [.agg (hcs o),.agg (eH b)] J (.bool (Aln o b)) := by
 cases o with
 | none => cases ho
 | some a => exact f114 a b J hb
def Atl (h : Hp) (du : Bool) : Bool := ((!K8 [2] h.label || (du && !h.floating)) || (h.floating && !decide (Int.ofNat h.text.length = 2))) || (!h.floating && (decide (Int.ofNat h.text.length = 0) || decide ((200 : Int) < Int.ofNat h.text.length)))
def hypT (k : Kn) (h : Hp) : Int := if ((k.hyps.get h.label).isSome && !Aln (k.hyps.get h.label) h) = true then 6 else 0
def hypX (k : Kn) (ty : SM Str) (t0 t1 : Str) : Bool := ((k.types.get t1).isSome && !decide ((k.types.get t1).getD [] = t0)) || ((ty.get t1).isSome && !decide ((ty.get t1).getD [] = t0))
def Ur (k : Kn) (lab : SM Bool) (ty : SM Str) (h : Hp) (du : Bool) : Int :=
 if Atl h du = true then 2 else if ((k.isSym h.label || k.frames.has h.label) || lab.has h.label) = true then 6
 else if h.floating = true then
  if (!k.consts.has (h.text.headD []) || !k.vars.has (h.text.tail.headD [])) = true then 12
  else if hypX k ty (h.text.headD []) (h.text.tail.headD []) = true then 11
  else if (ty.get (h.text.tail.headD [])).isSome = true then 6 else hypT k h
 else if (!decide (k.textF h.text = 0)) = true then k.textF h.text else hypT k h
theorem f135p (m : Nat) (k : Kn) (ra rb : Nat) (lab : SM Bool) (ty : SM Str) (lb : Str) (fl : Bool) (tx : List Str) (du : Bool) (J : Sto) (hk : Gs J m k) (hl : E7 J ra lab) (ht : Bx sV J rb ty) (hb : tx.length < 1000000) : Cv 135 [knV m,.agg [.mp ra,.mp rb],.agg [sV lb,.bool fl,A3 tx],.bool du] J (iV (Ur k lab ty ⟨lb,fl,tx⟩ du)) := by
 refine Az Tryz.func135 rfl rfl fun hw hu0 => ?_
 refine Ac (Aa (Ar App rfl rfl rfl (Ar D2 rfl rfl rfl (OA rfl (Ab (Ac (Ac ?_)))))));refine Aa (O1 (Ad Fu rfl rfl) (O1 (Ae ld9 rfl rfl rfl) (Ap rfl rfl rfl rfl (f133 lb _) (O1 (Bb rfl) (OM rfl ?_)))));refine Cm 6 _ ?_ rfl rfl rfl rfl rfl (Aw rfl) (fun hg => ?_) (fun hg => ?_) ?_
 rotate_left
 ·refine On hg (Ag rfl) (On hg (Ag rfl) ?_)
  refine Cy 3 _ ?_ rfl rfl rfl rfl rfl (Ke rfl rfl rfl rfl (by rw [hg]; rfl)) (fun hg => ?_) (fun hg => ?_) ?_
  rotate_left
  ·refine On hg (Ad I2 rfl rfl) (On hg (Ae ld4 rfl rfl rfl) (On hg (Bb rfl) (Ab ?_)));refine ⟨rfl,?_,?_⟩
   ·exact sb
   ·exact rfl
  ·refine Of hg (Of hg (Of hg (Ab ?_)));exact ⟨rfl,sb⟩
  refine Ab ?_;refine ⟨rfl,?_,?_⟩
  ·exact sb
  ·exact rfl
 ·refine Of hg (Of hg (Ou (Ou (Ou (Of hg (Ab ?_))))));exact ⟨rfl,sb⟩
 refine OM rfl ?_;refine Cm 8 _ ?_ rfl rfl rfl rfl rfl (Aw rfl) (fun hg => ?_) (fun hg => ?_) ?_
 rotate_left
 ·refine On hg (Ad I2 rfl rfl) (On hg (Ae ld4 rfl rfl rfl) (On hg (Ag rfl) ?_))
  refine Cy 4 _ ?_ rfl rfl rfl rfl rfl (Ke rfl rfl rfl rfl (by rw [hg]; rfl)) (fun hg => ?_) (fun hg => ?_) ?_
  rotate_left
  ·refine On hg (Ad C7 rfl rfl) (On hg (Ae Ce rfl rfl rfl) (On hg (Aq Ee rfl) (On hg (Cx (q := 2) ok3 rfl rfl) (Ab ?_))));refine ⟨rfl,?_,?_⟩
   ·exact sb
   ·exact rfl
  ·refine Of hg (Of hg (Of hg (Of hg (Ab ?_))));exact ⟨rfl,sb⟩
  refine Ab ?_;refine ⟨rfl,?_,?_⟩
  ·exact sb
  ·exact rfl
 ·refine Of hg (Of hg (Of hg (Ou (Ou (Ou (Ou (Of hg ?_)))))));refine Ab ?_;exact ⟨rfl,sb⟩
 refine OM rfl ?_;refine Cm 15 _ ?_ rfl rfl rfl rfl rfl (Aw rfl) (fun hg => ?_) (fun hg => ?_) ?_
 rotate_left
 ·refine On hg (Ad I2 rfl rfl) (On hg (Ae ld4 rfl rfl rfl) (On hg (Bb rfl) (On hg (Ag rfl) ?_)))
  refine Cy 10 _ ?_ rfl rfl rfl rfl rfl (Ke rfl rfl rfl rfl (by rw [hg]; rfl)) (fun hg => ?_) (fun hg => ?_) ?_
  rotate_left
  ·refine On hg (Ad C7 rfl rfl) (On hg (Ae Ce rfl rfl rfl) (On hg (Aq Ee rfl) (On hg (Do (q := 0) ok3 rfl rfl) (On hg (Ag rfl) ?_))))
   refine Cm 4 _ ?_ rfl rfl rfl rfl rfl (Ke rfl rfl rfl rfl (by rw [hg]; rfl)) (fun hg => ?_) (fun hg => ?_) ?_
   rotate_left
   ·refine On hg (Ad C7 rfl rfl) (On hg (Ae Ce rfl rfl rfl) (On hg (Aq Ee rfl) (On hg (Ca (q := 200) ok3 rfl rfl) (Ab ?_))));refine ⟨rfl,?_,?_⟩
    ·exact sb
    ·exact rfl
   ·refine Of hg (Of hg (Of hg (Of hg (Ab ?_))));exact ⟨rfl,sb⟩
   refine Ab ?_;refine ⟨rfl,?_,?_⟩
   ·exact sb
   ·exact rfl
  ·refine Of hg (Of hg (Of hg (Of hg (Of hg (Ou (Ou (Ou ?_)))))));refine Ou (Of hg (Ab ?_));exact ⟨rfl,sb⟩
  refine Ab ?_;refine ⟨rfl,?_,?_⟩
  ·exact sb
  ·exact rfl
 ·refine Of hg (Of hg (Of hg (Of hg (Ou (Ou (Ou (Ou ?_)))))));refine Ou (Ou (Ou (Ou (Ou (Ou (Of hg (Ab ?_)))))));exact ⟨rfl,sb⟩
 refine Ab ?_;refine Ah rfl ?_ ?_ <;> intro h1
 ·refine Ac (Aa (OA rfl (Ab ?_)));refine An (Bq hw rfl ?_);exact congrArg iV (if_pos h1).symm
 ·refine Ai (Ac ?_)
  refine Hu [(74,.bool ((k.isSym lb || k.frames.has lb) || lab.has lb))] ?_ ?_
  ·rcases au_ ((k.isSym lb)) with hg4 | hg4
   ·refine Cc (anns := [aP 0 0,aP 0 0,aR 0 0,aE 0 1,aP 1 1,aP 1 1,aP 1 1,aP 1 1,aR 1 1,aP 1 1,aR 1 1,aR 1 1,aP 1 1,aP 1 1,aP 1 1,aR 1 1,aP 1 1,aR 1 1,aR 1 1,aP 1 1]) A1 (As (l := [(132,[knV m,sV lb],J,.bool (k.isSym lb),J)]) ⟨Agx m k lb J hk,trivial⟩) Kr Kr ?_;refine DF (Ag rfl) (DF (Ad Fu rfl rfl) (DF (Ae ld9 rfl rfl rfl) (DT (Bl rfl rfl Bm) (DF (Ag rfl) ?_))))
    refine Wx (w := by first|rfl|simp only [hg4]<;>rfl|simp [hg4]) ?_
    refine Wx (w := by first|rfl|simp only [hg4]<;>rfl|simp [hg4]) ?_
    refine Wx (w := by first|rfl|simp only [hg4]<;>rfl|simp [hg4]) ?_
    refine Wx (w := by first|rfl|simp only [hg4]<;>rfl|simp [hg4]) ?_
    refine Wx (w := by first|rfl|simp only [hg4]<;>rfl|simp [hg4]) ?_
    refine Wx (w := by first|rfl|simp only [hg4]<;>rfl|simp [hg4]) ?_
    refine Wx (w := by first|rfl|simp only [hg4]<;>rfl|simp [hg4]) ?_
    refine DF (Bu rfl (by first|rfl|simp only [hg4]<;>rfl|simp [hg4]) rfl) ?_
    refine DF (Ag rfl) ?_
    refine Wx (w := by first|rfl|simp only [hg4]<;>rfl|simp [hg4]) ?_
    refine Wx (w := by first|rfl|simp only [hg4]<;>rfl|simp [hg4]) ?_
    refine Wx (w := by first|rfl|simp only [hg4]<;>rfl|simp [hg4]) ?_
    refine Wx (w := by first|rfl|simp only [hg4]<;>rfl|simp [hg4]) ?_
    refine Wx (w := by first|rfl|simp only [hg4]<;>rfl|simp [hg4]) ?_
    refine DF (Bu rfl (by first|rfl|simp only [hg4]<;>rfl|simp [hg4]) rfl) ?_
    refine Bi ?_
    exact ⟨⟨congrArg (fun b => some (AV.bool b)) (by first|rfl|simp only [hg4]<;>rfl|simp [hg4]),trivial⟩,sb,rfl⟩
   ·rcases au_ ((k.frames.has lb)) with bv | bv
    ·refine Cc (anns := [aP 0 0,aP 0 0,aR 0 0,aE 0 1,aP 1 1,aP 1 1,aP 1 1,aP 1 1,aR 1 1,aP 1 1,aR 1 1,aR 1 1,aP 1 1,aP 1 1,aP 1 1,aR 1 1,aP 1 1,aR 1 1,aR 1 1,aP 1 1]) A1 (As (l := [(132,[knV m,sV lb],J,.bool (k.isSym lb),J)]) ⟨Agx m k lb J hk,trivial⟩) Kr Kr ?_;refine DF (Ag rfl) (DF (Ad Fu rfl rfl) (DF (Ae ld9 rfl rfl rfl) (DT (Bl rfl rfl Bm) (DF (Ag rfl) ?_))))
     refine Wn (w := by first|rfl|simp only [bv,hg4]<;>rfl|simp [bv,hg4]) (Ag rfl) ?_
     refine Wn (w := by first|rfl|simp only [bv,hg4]<;>rfl|simp [bv,hg4]) (Bp rfl) ?_
     refine Wn (w := by first|rfl|simp only [bv,hg4]<;>rfl|simp [bv,hg4]) (Ad Yf rfl rfl) ?_
     refine Wn (w := by first|rfl|simp only [bv,hg4]<;>rfl|simp [bv,hg4]) (Ae E9 rfl rfl rfl) ?_
     refine Wn (w := by first|rfl|simp only [bv,hg4]<;>rfl|simp [bv,hg4]) (Ad Fu rfl rfl) ?_
     refine Wn (w := by first|rfl|simp only [bv,hg4]<;>rfl|simp [bv,hg4]) (Ae ld9 rfl rfl rfl) ?_
     refine Wn (w := by first|rfl|simp only [bv,hg4]<;>rfl|simp [bv,hg4]) (De st9 Cz rfl hk.f rfl) ?_
     refine DF (Br rfl (by first|rfl|simp only [bv,hg4]<;>rfl|simp [bv,hg4]) rfl) ?_
     refine DF (Ag rfl) ?_
     refine Wx (w := by first|rfl|simp only [bv,hg4]<;>rfl|simp [bv,hg4]) ?_
     refine Wx (w := by first|rfl|simp only [bv,hg4]<;>rfl|simp [bv,hg4]) ?_
     refine Wx (w := by first|rfl|simp only [bv,hg4]<;>rfl|simp [bv,hg4]) ?_
     refine Wx (w := by first|rfl|simp only [bv,hg4]<;>rfl|simp [bv,hg4]) ?_
     refine Wx (w := by first|rfl|simp only [bv,hg4]<;>rfl|simp [bv,hg4]) ?_
     refine DF (Bu rfl (by first|rfl|simp only [bv,hg4]<;>rfl|simp [bv,hg4]) rfl) ?_
     refine Bi ?_
     exact ⟨⟨congrArg (fun b => some (AV.bool b)) (by first|rfl|simp only [bv,hg4]<;>rfl|simp [bv,hg4]),trivial⟩,sb,rfl⟩
    ·refine Cc (anns := [aP 0 0,aP 0 0,aR 0 0,aE 0 1,aP 1 1,aP 1 1,aP 1 1,aP 1 1,aR 1 1,aP 1 1,aR 1 1,aR 1 1,aP 1 1,aP 1 1,aP 1 1,aR 1 1,aP 1 1,aR 1 1,aR 1 1,aP 1 1]) A1 (As (l := [(132,[knV m,sV lb],J,.bool (k.isSym lb),J)]) ⟨Agx m k lb J hk,trivial⟩) Kr Kr ?_;refine DF (Ag rfl) (DF (Ad Fu rfl rfl) (DF (Ae ld9 rfl rfl rfl) (DT (Bl rfl rfl Bm) (DF (Ag rfl) ?_))))
     refine Wn (w := by first|rfl|simp only [bv,hg4]<;>rfl|simp [bv,hg4]) (Ag rfl) ?_
     refine Wn (w := by first|rfl|simp only [bv,hg4]<;>rfl|simp [bv,hg4]) (Bp rfl) ?_
     refine Wn (w := by first|rfl|simp only [bv,hg4]<;>rfl|simp [bv,hg4]) (Ad Yf rfl rfl) ?_
     refine Wn (w := by first|rfl|simp only [bv,hg4]<;>rfl|simp [bv,hg4]) (Ae E9 rfl rfl rfl) ?_
     refine Wn (w := by first|rfl|simp only [bv,hg4]<;>rfl|simp [bv,hg4]) (Ad Fu rfl rfl) ?_
     refine Wn (w := by first|rfl|simp only [bv,hg4]<;>rfl|simp [bv,hg4]) (Ae ld9 rfl rfl rfl) ?_
     refine Wn (w := by first|rfl|simp only [bv,hg4]<;>rfl|simp [bv,hg4]) (De st9 Cz rfl hk.f rfl) ?_
     refine DF (Br rfl (by first|rfl|simp only [bv,hg4]<;>rfl|simp [bv,hg4]) rfl) ?_
     refine DF (Ag rfl) ?_
     refine Wn (w := by first|rfl|simp only [bv,hg4]<;>rfl|simp [bv,hg4]) (Ad Ale rfl rfl) ?_
     refine Wn (w := by first|rfl|simp only [bv,hg4]<;>rfl|simp [bv,hg4]) (Ae E9 rfl rfl rfl) ?_
     refine Wn (w := by first|rfl|simp only [bv,hg4]<;>rfl|simp [bv,hg4]) (Ad Fu rfl rfl) ?_
     refine Wn (w := by first|rfl|simp only [bv,hg4]<;>rfl|simp [bv,hg4]) (Ae ld9 rfl rfl rfl) ?_
     refine Wn (w := by first|rfl|simp only [bv,hg4]<;>rfl|simp [bv,hg4]) (De st9 Cz rfl hl rfl) ?_
     refine DF (Br rfl (by first|rfl|simp only [bv,hg4]<;>rfl|simp [bv,hg4]) rfl) ?_
     refine Bi ?_
     exact ⟨⟨congrArg (fun b => some (AV.bool b)) (by first|rfl|simp only [bv,hg4]<;>rfl|simp [bv,hg4]),trivial⟩,sb,rfl⟩
  refine Ah rfl ?_ ?_ <;> intro h2
  ·refine Ac (Aa (OA rfl (Ab ?_)));refine An (Bq hw rfl ?_);exact congrArg iV ((if_neg (fun hh => Bool.noConfusion (h1.symm.trans hh))).trans (if_pos h2)).symm
  ·refine Ai (Ac (Ac (Aa (O1 (Ad I2 rfl rfl) (O1 (Ae ld4 rfl rfl rfl) (Ab ?_))))));refine Ah rfl ?_ ?_ <;> intro h3
   ·have h3' : fl = true := h3;subst h3'
    obtain ⟨t0,t1,rfl⟩ : ∃ t0 t1,tx = [t0,t1] := by
     have h4 : tx.length = 2 := by simp at h1; omega
     match tx,h4 with
     | [a,b],_ => exact ⟨a,b,rfl⟩
    refine Ac ?_
    refine Hu [(98,.bool (!k.consts.has t0 || !k.vars.has t1))] ?_ ?_
    ·rcases au_ ((!k.consts.has t0)) with bj | bj
     ·refine Fx (anns := [aP 0 0,aP 0 0,aP 0 0,aR 0 0,aP 0 0,aR 0 0,aP 0 0,aR 0 0,aR 0 0,aP 0 0,aP 0 0,aP 0 0,aP 0 0,aP 0 0,aR 0 0,aP 0 0,aR 0 0,aP 0 0,aR 0 0,aR 0 0,aP 0 0,aP 0 0]) A1 Kr Kr ?_;refine DF (Ag rfl) (DF (Bp rfl) (DF (Ad Nk rfl rfl) (DF (Ae E9 rfl rfl rfl) (DF (Ad C7 rfl rfl) (DF (Ae Ce rfl rfl rfl) (DF (Ax Da (fun _ => rfl) rfl rfl rfl (i := 0)) ?_))))))
      refine DF (Ae ld9 rfl rfl rfl) (DF (De st9 Cz rfl hk.c rfl) (DF (Bb rfl) (DF (Ag rfl) ?_)))
      refine Wx (w := by first|rfl|simp only [bj]<;>rfl|simp [bj]) ?_
      refine Wx (w := by first|rfl|simp only [bj]<;>rfl|simp [bj]) ?_
      refine Wx (w := by first|rfl|simp only [bj]<;>rfl|simp [bj]) ?_
      refine Wx (w := by first|rfl|simp only [bj]<;>rfl|simp [bj]) ?_
      refine Wx (w := by first|rfl|simp only [bj]<;>rfl|simp [bj]) ?_
      refine Wx (w := by first|rfl|simp only [bj]<;>rfl|simp [bj]) ?_
      refine Wx (w := by first|rfl|simp only [bj]<;>rfl|simp [bj]) ?_
      refine Wx (w := by first|rfl|simp only [bj]<;>rfl|simp [bj]) ?_
      refine Wx (w := by first|rfl|simp only [bj]<;>rfl|simp [bj]) ?_
      refine Wx (w := by first|rfl|simp only [bj]<;>rfl|simp [bj]) ?_
      refine DF (Bu rfl (by first|rfl|simp only [bj]<;>rfl|simp [bj]) rfl) ?_
      refine Bi ?_
      exact ⟨rfl,rfl,⟨⟨congrArg (fun b => some (AV.bool b)) (by first|rfl|simp only [bj]<;>rfl|simp [bj]),trivial⟩,sb,rfl⟩⟩
     ·refine Fx (anns := [aP 0 0,aP 0 0,aP 0 0,aR 0 0,aP 0 0,aR 0 0,aP 0 0,aR 0 0,aR 0 0,aP 0 0,aP 0 0,aP 0 0,aP 0 0,aP 0 0,aR 0 0,aP 0 0,aR 0 0,aP 0 0,aR 0 0,aR 0 0,aP 0 0,aP 0 0]) A1 Kr Kr ?_;refine DF (Ag rfl) (DF (Bp rfl) (DF (Ad Nk rfl rfl) (DF (Ae E9 rfl rfl rfl) (DF (Ad C7 rfl rfl) (DF (Ae Ce rfl rfl rfl) (DF (Ax Da (fun _ => rfl) rfl rfl rfl (i := 0)) ?_))))))
      refine DF (Ae ld9 rfl rfl rfl) (DF (De st9 Cz rfl hk.c rfl) (DF (Bb rfl) (DF (Ag rfl) ?_)))
      refine Wn (w := by first|rfl|simp only [bj]<;>rfl|simp [bj]) (Ag rfl) ?_
      refine Wn (w := by first|rfl|simp only [bj]<;>rfl|simp [bj]) (Bp rfl) ?_
      refine Wn (w := by first|rfl|simp only [bj]<;>rfl|simp [bj]) (Ad Ii rfl rfl) ?_
      refine Wn (w := by first|rfl|simp only [bj]<;>rfl|simp [bj]) (Ae E9 rfl rfl rfl) ?_
      refine Wn (w := by first|rfl|simp only [bj]<;>rfl|simp [bj]) (Ad C7 rfl rfl) ?_
      refine Wn (w := by first|rfl|simp only [bj]<;>rfl|simp [bj]) (Ae Ce rfl rfl rfl) ?_
      refine Wn (w := by first|rfl|simp only [bj]<;>rfl|simp [bj]) (Ax Da (fun _ => rfl) rfl rfl rfl (i := 1)) ?_
      refine Wn (w := by first|rfl|simp only [bj]<;>rfl|simp [bj]) (Ae ld9 rfl rfl rfl) ?_
      refine Wn (w := by first|rfl|simp only [bj]<;>rfl|simp [bj]) (De st9 Cz rfl hk.v rfl) ?_
      refine Wn (w := by first|rfl|simp only [bj]<;>rfl|simp [bj]) (Bb rfl) ?_
      refine DF (Br rfl (by first|rfl|simp only [bj]<;>rfl|simp [bj]) rfl) ?_
      refine Bi ?_
      exact ⟨rfl,rfl,⟨⟨congrArg (fun b => some (AV.bool b)) (by first|rfl|simp only [bj]<;>rfl|simp [bj]),trivial⟩,sb,rfl⟩⟩
    refine Ah rfl ?_ ?_ <;> intro h4
    ·refine Ac (Aa (OA rfl (Ab ?_)));refine An (Bq hw rfl ?_);exact congrArg iV ((if_neg (fun hh => Bool.noConfusion (h1.symm.trans hh))).trans ((if_neg (fun hh => Bool.noConfusion (h2.symm.trans hh))).trans ((if_pos h3).trans (if_pos h4)))).symm
    ·refine Ai (Ac ?_);refine Fx (anns := [aP 0 0,aR 0 0,aP 0 0,aR 0 0,aP 0 0,aR 0 0,aR 0 0,aP 0 0,aP 0 0,aP 0 0,aP 0 0,aP 0 0]) A1 Kr Kr ?_;refine DF (Ad Aew rfl rfl) (DF (Ae Agw rfl rfl rfl) (DF (Ad C7 rfl rfl) (DF (Ae Ce rfl rfl rfl) (DF (Ax Da (fun _ => rfl) rfl rfl rfl (i := 1)) ?_))))
     refine DF (Ae ld9 rfl rfl rfl) (DF (Agz rfl ht rfl) (DF (Ag rfl) (DF (Al rfl rfl) (DF (Al rfl rfl) (DF (Bk rfl) (DF (Bk rfl) (Bi ?_)))))));refine ⟨rfl,rfl,?_⟩;refine Ac (Ac ?_);refine Fx (anns := [aP 0 0,aP 0 0,aP 0 0,aR 0 0,aP 0 0,aR 0 0,aP 0 0,aR 0 0,aR 0 0,aP 0 0,aP 0 0,aP 0 0,aP 0 0,aP 0 0]) A1 Kr Kr ?_;refine DF (Ag rfl) (DF (Bp rfl) (DF (Ad Ald rfl rfl) (DF (Ae Agw rfl rfl rfl) (DF (Ad C7 rfl rfl) (DF (Ae Ce rfl rfl rfl) (DF (Ax Da (fun _ => rfl) rfl rfl rfl (i := 1)) ?_))))))
     refine DF (Ae ld9 rfl rfl rfl) (DF (Agz rfl hk.t rfl) (DF (Ag rfl) (DF (Al rfl rfl) (DF (Al rfl rfl) (DF (Bk rfl) (DF (Bk rfl) (Bi ?_)))))));refine ⟨rfl,rfl,?_⟩;refine Ac (Aa (OM rfl (OM rfl ?_)));refine Cy 6 _ ?_ rfl rfl rfl rfl rfl (Aw rfl) (fun hg => ?_) (fun hg => ?_) ?_
     rotate_left
     ·refine On hg (Ag rfl) (On hg (Ad C7 rfl rfl) (On hg (Ae Ce rfl rfl rfl) (On hg (Ax Da (fun _ => rfl) rfl rfl rfl (i := 0)) ?_)))
      refine On hg (Ae ld9 rfl rfl rfl) (On hg (Lx ok9 rfl rfl) (Ab ?_));refine ⟨rfl,?_,?_⟩
      ·exact sb
      ·exact rfl
     ·refine Of hg (Of hg (Of hg (Of hg (Of hg (Of hg (Ab ?_))))));exact ⟨rfl,sb⟩
     refine OM rfl ?_;refine Cm 9 _ ?_ rfl rfl rfl rfl rfl (Aw rfl) (fun hg => ?_) (fun hg => ?_) ?_
     rotate_left
     ·refine On hg (Ag rfl) (On hg (Ag rfl) ?_)
      refine Cy 6 _ ?_ rfl rfl rfl rfl rfl (Ke rfl rfl rfl rfl (by rw [hg]; rfl)) (fun hg => ?_) (fun hg => ?_) ?_
      rotate_left
      ·refine On hg (Ag rfl) (On hg (Ad C7 rfl rfl) (On hg (Ae Ce rfl rfl rfl) (On hg (Ax Da (fun _ => rfl) rfl rfl rfl (i := 0)) ?_)))
       refine On hg (Ae ld9 rfl rfl rfl) (On hg (Lx ok9 rfl rfl) (Ab ?_));refine ⟨rfl,?_,?_⟩
       ·exact sb
       ·exact rfl
      ·refine Of hg (Of hg (Of hg (Of hg (Of hg (Of hg (Ab ?_))))));exact ⟨rfl,sb⟩
      refine Ab ?_;refine ⟨rfl,?_,?_⟩
      ·exact sb
      ·exact rfl
     ·refine Of hg (Of hg (Ou (Ou (Ou (Ou (Ou (Ou ?_)))))));refine Of hg (Ab ?_);exact ⟨rfl,sb⟩
     refine Ab ?_;refine Ah rfl ?_ ?_ <;> intro h5
     ·refine Ac (Aa (OA rfl (Ab ?_)));refine An (Bq hw rfl ?_);exact congrArg iV ((if_neg (fun hh => Bool.noConfusion (h1.symm.trans hh))).trans ((if_neg (fun hh => Bool.noConfusion (h2.symm.trans hh))).trans ((if_pos h3).trans ((if_neg (fun hh => Bool.noConfusion (h4.symm.trans hh))).trans (if_pos h5))))).symm
     ·refine Ai (Ac (Aa (OM rfl (Ab ?_))));refine Ah rfl ?_ ?_ <;> intro h6
      ·refine Ac (Aa (OA rfl (Ab ?_)));refine An (Bq hw rfl ?_);exact congrArg iV ((if_neg (fun hh => Bool.noConfusion (h1.symm.trans hh))).trans ((if_neg (fun hh => Bool.noConfusion (h2.symm.trans hh))).trans ((if_pos h3).trans ((if_neg (fun hh => Bool.noConfusion (h4.symm.trans hh))).trans ((if_neg (fun hh => Bool.noConfusion (h5.symm.trans hh))).trans (if_pos h6)))))).symm
      ·refine Ai (Ac ?_);refine Ni 14 zH (hcs (k.hyps.get lb)) [(15,.bool (k.hyps.get lb).isSome)] (Up _) rfl (fun hw => ?_) ?_
       refine Ig 1 (anns := [aP 0 1,aP 0 1,aP 0 1,aR 0 1,aP 0 1,aR 0 1,aR 0 1,aP 0 1,aP 0 1,aP 0 2,aE 0 1,aE 1 2,aP 2 2]) A1 (As (l := []) trivial) Kr Kr ?_;refine DF (Ag rfl) (DF (Bp rfl) (DF (Ad Uk rfl rfl) (DF (Ae Agv rfl rfl rfl) (DF (Ad Fu rfl rfl) (DF (Ae ld9 rfl rfl rfl) (DF (Uq rfl hk.h rfl) (DF (Ag rfl) ?_)))))));refine DF (Al rfl rfl) (DF (Al rfl rfl) (DT (Cw Sm) (DT (B9 (vs := zH) (vs' := hcs (k.hyps.get lb)) D2 rfl rfl (Bj (Ja _)) Ed (E4 (Ja _))) (DF (Bk rfl) (Bi ?_)))))
       exact ⟨(by intro e he; simp at he; rcases he with rfl | rfl <;> first | exact .refl | exact Uf hw),⟨rfl,trivial⟩,sb,rfl,rfl⟩
       refine Ac (Aa (OM rfl (OM rfl ?_)));refine Cy 4 _ ?_ rfl rfl rfl rfl rfl (Aw rfl) (fun hg => ?_) (fun hg => ?_) ?_
       rotate_left
       ·refine On hg (Ae (v := .agg (hcs (k.hyps.get lb))) D2 rfl rfl (A9 (Ja _))) (On hg (Ae D2 rfl rfl rfl) (B5 rfl rfl rfl (by rw [hg]; rfl) rfl rfl rfl rfl (Atk _ ⟨lb,true,[t0,t1]⟩ _ hg (by simp)) ?_))
        refine On hg (Bb rfl) (Ab ?_);refine ⟨rfl,?_,?_⟩
        ·exact sb
        ·exact rfl
       ·refine Of hg (Of hg (Of hg (Of hg (Ab ?_))));exact ⟨rfl,sb⟩
       refine Ab ?_;refine Ah rfl ?_ ?_ <;> intro h7
       ·refine Ac (Aa (OA rfl (Ab ?_)));refine An (Bq hw rfl ?_);exact congrArg iV ((if_neg (fun hh => Bool.noConfusion (h1.symm.trans hh))).trans ((if_neg (fun hh => Bool.noConfusion (h2.symm.trans hh))).trans ((if_pos h3).trans ((if_neg (fun hh => Bool.noConfusion (h4.symm.trans hh))).trans ((if_neg (fun hh => Bool.noConfusion (h5.symm.trans hh))).trans ((if_neg (fun hh => Bool.noConfusion (h6.symm.trans hh))).trans (if_pos h7))))))).symm
       ·refine Ai (Ac (Aa (OA rfl (Ab ?_))));refine An (Bq hw rfl ?_);exact congrArg iV ((if_neg (fun hh => Bool.noConfusion (h1.symm.trans hh))).trans ((if_neg (fun hh => Bool.noConfusion (h2.symm.trans hh))).trans ((if_pos h3).trans ((if_neg (fun hh => Bool.noConfusion (h4.symm.trans hh))).trans ((if_neg (fun hh => Bool.noConfusion (h5.symm.trans hh))).trans ((if_neg (fun hh => Bool.noConfusion (h6.symm.trans hh))).trans (if_neg (fun hh => Bool.noConfusion (h7.symm.trans hh))))))))).symm
   ·refine Ac (Aa (OM rfl (O1 (Ad C7 rfl rfl) (O1 (Ae Ce rfl rfl rfl) (Ap rfl rfl rfl rfl (f136 m k tx _ hk Om) ?_)))));refine OA rfl (Ab (Ac (Aa (OM rfl (O1 (Cx (q := 0) Jj rfl rfl) (Ab ?_))))));refine Ah rfl ?_ ?_ <;> intro h4
    ·refine Ac (Aa (OM rfl (OA rfl (Ab ?_))));refine An (Bq hw rfl ?_);exact congrArg iV ((if_neg (fun hh => Bool.noConfusion (h1.symm.trans hh))).trans ((if_neg (fun hh => Bool.noConfusion (h2.symm.trans hh))).trans ((if_neg (fun hh => Bool.noConfusion (h3.symm.trans hh))).trans (if_pos h4)))).symm
    ·refine Ai (Ac ?_);refine Ni 14 zH (hcs (k.hyps.get lb)) [(15,.bool (k.hyps.get lb).isSome)] (Up _) rfl (fun hw => ?_) ?_
     refine Ig 1 (anns := [aP 0 1,aP 0 1,aP 0 1,aR 0 1,aP 0 1,aR 0 1,aR 0 1,aP 0 1,aP 0 1,aP 0 2,aE 0 1,aE 1 2,aP 2 2]) A1 (As (l := []) trivial) Kr Kr ?_;refine DF (Ag rfl) (DF (Bp rfl) (DF (Ad Uk rfl rfl) (DF (Ae Agv rfl rfl rfl) (DF (Ad Fu rfl rfl) (DF (Ae ld9 rfl rfl rfl) (DF (Uq rfl hk.h rfl) (DF (Ag rfl) ?_)))))));refine DF (Al rfl rfl) (DF (Al rfl rfl) (DT (Cw Sm) (DT (B9 (vs := zH) (vs' := hcs (k.hyps.get lb)) D2 rfl rfl (Bj (Ja _)) Ed (E4 (Ja _))) (DF (Bk rfl) (Bi ?_)))))
     exact ⟨(by intro e he; simp at he; rcases he with rfl | rfl <;> first | exact .refl | exact Uf hw),⟨rfl,trivial⟩,sb,rfl,rfl⟩
     refine Ac (Aa (OM rfl (OM rfl ?_)));refine Cy 4 _ ?_ rfl rfl rfl rfl rfl (Aw rfl) (fun hg => ?_) (fun hg => ?_) ?_
     rotate_left
     ·refine On hg (Ae (v := .agg (hcs (k.hyps.get lb))) D2 rfl rfl (A9 (Ja _))) (On hg (Ae D2 rfl rfl rfl) (B5 rfl rfl rfl (by rw [hg]; rfl) rfl rfl rfl rfl (Atk _ ⟨lb,fl,tx⟩ _ hg (by show tx.length < _; omega)) ?_))
      refine On hg (Bb rfl) (Ab ?_);refine ⟨rfl,?_,?_⟩
      ·exact sb
      ·exact rfl
     ·refine Of hg (Of hg (Of hg (Of hg (Ab ?_))));exact ⟨rfl,sb⟩
     refine Ab ?_;refine Ah rfl ?_ ?_ <;> intro h5
     ·refine Ac (Aa (OA rfl (Ab ?_)));refine An (Bq hw rfl ?_);exact congrArg iV ((if_neg (fun hh => Bool.noConfusion (h1.symm.trans hh))).trans ((if_neg (fun hh => Bool.noConfusion (h2.symm.trans hh))).trans ((if_neg (fun hh => Bool.noConfusion (h3.symm.trans hh))).trans ((if_neg (fun hh => Bool.noConfusion (h4.symm.trans hh))).trans (if_pos h5))))).symm
     ·refine Ai (Ac (Aa (OA rfl (Ab ?_))));refine An (Bq hw rfl ?_);exact congrArg iV ((if_neg (fun hh => Bool.noConfusion (h1.symm.trans hh))).trans ((if_neg (fun hh => Bool.noConfusion (h2.symm.trans hh))).trans ((if_neg (fun hh => Bool.noConfusion (h3.symm.trans hh))).trans ((if_neg (fun hh => Bool.noConfusion (h4.symm.trans hh))).trans (if_neg (fun hh => Bool.noConfusion (h5.symm.trans hh))))))).symm
theorem f135 (m : Nat) (k : Kn) (ra rb : Nat) (lab : SM Bool) (ty : SM Str) (h : Hp) (du : Bool) (J : Sto) (hk : Gs J m k) (hl : E7 J ra lab) (ht : Bx sV J rb ty) (hb : h.text.length < 1000000) :
  Cv 135 [knV m,.agg [.mp ra,.mp rb],.agg (eH h),.bool du] J (iV (Ur k lab ty h du)) := f135p m k ra rb lab ty h.label h.floating h.text du J hk hl ht hb
theorem Aas {f : Nat} {args : List AV} {J : Sto} {v : AV} (he : Zf Ew.P f) (h : ∀ C w (vs : Array Value),RL C (nx J) w args vs.toList -> ∃ x,Calls Ew.P f vs w (fun e w' => e = .returned x /\ w' = w) /\ R C (nx J) w v x) : A6 Ew f args J fun u τ => u = v /\ τ = J := by
 intro C w vs hs hg ha;obtain ⟨x,h1,h2⟩ := h C w vs ha;refine ⟨he,h1.mono fun e w' hq => ?_⟩
 obtain ⟨rfl,rfl⟩ := hq;exact ⟨v,J,C,⟨rfl,rfl⟩,hs,bv_ _ _ _,h2⟩
theorem Apx {C : Ctx} {N : Nat} {w : World} {s : Str} {x : Value} (h : R C N w (sV s) x) : ∃ b : ByteArray,x = .string b /\ b.data.toList = s := by
 unfold sV R at h;obtain ⟨b,h1,h2⟩ := h;exact ⟨b,h1,Fj.1 h2⟩
theorem Apy {C : Ctx} {N : Nat} {w : World} {a b : AV} {vs : Array Value} (h : RL C N w [a,b] vs.toList) : ∃ x y,vs = #[x,y] /\ R C N w a x /\ R C N w b y := by
 obtain ⟨l⟩ := vs
 match l,h with
 | [],h => unfold RL at h; exact h.elim
 | [_],h => unfold RL at h; have := h.2; unfold RL at this; exact this.elim
 | [x,y],h => unfold RL at h; have := h.2; unfold RL at this; exact ⟨x,y,rfl,h.1,this.1⟩
 | _ :: _ :: _ :: _,h => unfold RL at h; have := h.2; unfold RL at this; have := this.2; unfold RL at this; exact this.elim
theorem f182 (s t : Str) (J : Sto) : Cv 182 [sV s,sV t] J (iV (Lib.compareBytes s t)) := by
 refine Aas ⟨_,Tryz.func182,rfl,rfl⟩ fun C w vs ha => ?_
 obtain ⟨x,y,rfl,hx,hy⟩ := Apy ha;obtain ⟨a,rfl,rfl⟩ := Apx hx;obtain ⟨b,rfl,rfl⟩ := Apx hy
 exact ⟨_,Tryz.strings_Compare a b w,by unfold iV R; rfl⟩
theorem Km {E : Env} {lf n f : Nat} {a₀ : List AV} {L : List Nat} {v₀ : AV} {o₀ : List AO} (db : Bc E (H5 E lf n)) (hgl : ∀ g cs,E.gl g = some cs -> AV.closeds [.pv cs] = true) (hlp : E.loops = []) (hcl : AV.closeds a₀ = true) (hL : L.Nodup)
  (bz : Xz L (H5 E lf n (.fn f) a₀ ⟨.e,0⟩) = some (v₀,o₀)) : Ck E f (Ji a₀ v₀ o₀) := by
 intro C w J args vs v J' hs hg bm h;unfold Ji at h
 split at h
 ·rename_i hb
  have := AV.beqs_eq _ _ hb;subst this
  split at h
  ·rename_i l hl
   cases h;unfold Xz at bz
   split at bz
   ·rename_i v₁ J₁ ca
    split at bz
    ·rename_i l₀ hl₀
     cases bz
     have hGl : Fh C.iso 0 w E := by
      refine ⟨fun g cs hh => ?_,fun c P hc => by rw [C.iso_own]; exact hg.2.1 c P hc,fun L hL => by rw [hlp] at hL; cases hL⟩
      have h1 : RL C (nx J) w [.pv cs] [.pointer (some ⟨g,0,none⟩)] := by unfold RL; exact ⟨hg.1 g cs hh,by unfold RL; trivial⟩
      have h2 : RL C.iso 0 w [.pv cs] [.pointer (some ⟨g,0,none⟩)] := RL.closed (fun c hc => by rwa [C.iso_own] at hc) _ _ (hgl g cs hh) h1
      unfold RL at h2; exact h2.1
     obtain ⟨ii,hc⟩ := db.fn f C.iso w ⟨.e,0⟩ args vs v₁ J₁ hs.iso hGl
      (RL.closed (fun c hc => by rwa [C.iso_own] at hc) _ _ hcl bm) ca
     refine ⟨ii,hc.mono fun e w' he => ?_⟩
     cases e with
     | returned x =>
      obtain ⟨C₁,h1,h2,h3⟩ := he;obtain ⟨C₂,k1,k2,k3⟩ := Aks hs.iso h1 (C.iso_own).symm rfl h2 h3 hL hl₀;have bx := Xd hl₀
      have hl2 : Ic (List.range o₀.length) (nx J) (Hd o₀ ⟨.e,0⟩) (List.range o₀.length) = some l := by
       rw [R9 _ o₀ (by simp) fun i a ha => ?_]
       ·exact hl
       ·obtain ⟨g1,g2⟩ := ae_.1 ha
        simp at g1 g2
        subst g2
        rw [He,if_neg (by simp [nx])]
        simp only [nx,el_];rw [ao_ g1]
      exact Aks hs k1 rfl rfl k2 k3 List.nodup_range hl2
     | panicked _ => exact he.elim
     | outgrown => exact he.elim
    ·cases bz
   ·cases bz
  ·cases h
 ·cases h
theorem Ko (g : Nat) (cs : List AV) (h : Ew.gl g = some cs) : AV.closeds [.pv cs] = true := by
 have h : glW g = some cs := h;unfold glW at h
 split at h
 ·cases h; rfl
 ·cases h
def Anb (m : SM Bool) : List Str -> SM Bool × Nat -> SM Bool × Nat
 | [],q => q
 | s :: r,q => Anb m r (if m.has s then (q.1.put s true,q.2 + 1) else q)
def Ajs (m : SM Bool) : List (List Str) -> SM Bool × Nat -> SM Bool × Nat
 | [],q => q
 | t :: r,q => Ajs m r (Anb m t q)
def occM (m : SM Bool) (ll : List (List Str)) : SM Bool := (Ajs m ll ([],0)).1
def Rj (m : SM Bool) (ll : List (List Str)) : AO := .map 9 (Cp bV (occM m ll)) (Ajs m ll ([],0)).2
theorem undB {N : Nat} (m : SM Bool) : Is N (Cp bV m) = true := Ack (fun _ => rfl) m
theorem f163x (r : Nat) (m : SM Bool) (ll : List (List Str)) (J : Sto) (hm : E7 J r m) (hb : ll.length < 2000000) (hb2 : ∀ t ∈ ll,t.length < 1000000) : A6 Ew 163 [.mp r,slV eL 1 ll] J fun v J' => v = .mp (nx J) /\ J' = J.new (Rj m ll) := by
 refine Az Tryz.func163 rfl rfl fun hw hu0 => ?_
 refine Ac (Aa (OA rfl (Ab (Ac (Aa (O1 (Ga Cz) (OA rfl ?_)))))));refine Ab (Ac (Ac (Aa (OM rfl (O1 (Aq Atg rfl) (OM rfl (Ab ?_)))))));refine Am ?_
 refine B8 ll.length (fun i0 => [(0,.mp r),(5,.mp (nx J)),(11,slV eL 1 ll),(12,iV (.ofNat ll.length)),(13,iV (.ofNat i0))]) (fun i0 J0 => nx J < nx J0 /\ Below (nx J) J J0 /\ ∃ q,J0.get (nx J) = some (.map 9 (Cp bV q.1) q.2) /\ Ajs m ll ([],0) = Ajs m (ll.drop i0) q) SL ⟨by rw [Aj]; omega,Below.rfl'.new nl _,([],0),by rw [ab_,if_pos rfl]; rfl,rfl⟩ ?_
 rintro i0 J0 hi0 ⟨hn0,cp,q0,ho0,hf0⟩;refine Ac (Aa (O1 (A8 ok3 rfl rfl) (Ab (Ac ?_))));refine Ah rfl ?_ ?_ <;> intro h1
 ·have bf : i0 < ll.length := by simpa using h1
  obtain ⟨a0,ha0⟩ := Bt bf;have hd0 := Bh ha0;have hb3 := hb2 a0 (af_ ha0);refine Ai (Ac (Am (Ac (Aa (O1 (Ax Alg (fun _ => rfl) rfl rfl ha0) ?_)))))
  refine O1 (Ae Ce rfl rfl rfl) (OA rfl (Ab (Ac (Aa (OM rfl (O1 (Aq Ee rfl) (OM rfl ?_)))))));refine Ab (Am ?_);refine B8 a0.length (fun i2 => [(0,.mp r),(5,.mp (nx J)),(11,slV eL 1 ll),(12,iV (.ofNat ll.length)),(13,iV (.ofNat i0)),(17,A3 a0),(18,iV (.ofNat a0.length)),(19,iV (.ofNat i2))]) (fun i2 J2 => nx J < nx J2 /\ Below (nx J) J J2 /\ ∃ q,J2.get (nx J) = some (.map 9 (Cp bV q.1) q.2) /\ Anb m a0 q0 = Anb m (a0.drop i2) q) SL ⟨hn0,cp,q0,ho0,rfl⟩ ?_
  rintro i2 J2 hi2 ⟨hn2,bo,q2,ho2,hf2⟩;refine Ac (Aa (O1 (A8 ok3 rfl rfl) (Ab (Ac ?_))));refine Ah rfl ?_ ?_ <;> intro h2
  ·have br : i2 < a0.length := by simpa using h2
   obtain ⟨a2,ha2⟩ := Bt br;have hd2 := Bh ha2;have hr := hm.lt hw;have hm2 : E7 J2 r m := hm.of_get (bo.2 r hr);refine Ai (Ac (Am (Ac (Aa (O1 (Ax Da (fun _ => rfl) rfl rfl ha2) ?_)))))
   refine O1 (Ae ld9 rfl rfl rfl) (OA rfl (Ab (Ac (Aa (OM rfl (OM rfl (O1 (De st9 Cz rfl hm2 rfl) ?_)))))));refine Ab ?_;refine Ah rfl ?_ ?_ <;> intro h3
   ·refine Aa (OM rfl (OM rfl (O1 (E8 (v := true) st9 Cz rfl ho2 rfl rfl (fun te k1 k2 => by first | exact Fq k1 k2 | exact Fs k1 k2 | exact Ge k1 k2 | exact Gf k1 k2 | exact Ft k1 k2 rfl)) ?_)))
    refine Ab (Aa (O1 (Ay (q := 1) ok3 rfl rfl Om) ?_));refine OM rfl (Ab ?_)
    refine ⟨br,SL,by rw [Ak]; exact hn2,bo.set nl _,(q2.1.put a2 true,q2.2 + 1),by rw [a_,if_pos rfl],by rw [hf2,hd2,Anb,if_pos h3]⟩
   ·refine Ai (Aa (O1 (Ay (q := 1) ok3 rfl rfl Om) ?_));refine OM rfl (Ab ?_)
    refine ⟨br,SL,hn2,bo,q2,ho2,by rw [hf2,hd2,Anb,if_neg (by rw [h3]; simp)]⟩
  ·have b8 : a0.length <= i2 := by simpa using h2
   refine Ba ?_;refine Aa (O1 (Ay (q := 1) ok3 rfl rfl Om) ?_);refine OM rfl (Ab ?_)
   refine ⟨bf,SL,hn2,bo,q2,ho2,by rw [hf0,hd0,Ajs,hf2,ah_ b8]; rfl⟩
 ·have bq : ll.length <= i0 := by simpa using h1
  refine Ba ?_;refine Ac (Aa (OM rfl (OA rfl (Ab ?_))))
  have hq : Ajs m ll ([],0) = q0 := by rw [hf0,ah_ bq]; rfl
  subst hq;refine An ?_
  exact ⟨_,rfl,_,J.new (Rj m ll),H9.newMap hw cp ho0 hn0 (undB _),by rw [Aj]; exact fa_ _,.same (Dk (by rw [Aj]; exact bk_ _)),rfl,rfl⟩
def cmpP (p q : Pr) : Int := if (!decide (Lib.compareBytes p.a q.a = 0)) = true then Lib.compareBytes p.a q.a else Lib.compareBytes p.b q.b
theorem f165 (p q : Pr) (J : Sto) : Cv 165 [.agg (eP p),.agg (eP q)] J (iV (cmpP p q)) := by
 refine Az Tryz.func165 rfl rfl fun hw hu0 => ?_
 refine Ac (Aa (Ar Jx rfl rfl rfl (Ar Jx rfl rfl rfl (OA rfl (Ab (Ac (Ac ?_)))))));refine Aa (O1 (Ad G8 rfl rfl) (O1 (Ae ld9 rfl rfl rfl) (O1 (Ad G8 rfl rfl) (O1 (Ae ld9 rfl rfl rfl) (Ap rfl rfl rfl rfl (f182 p.a q.a _) (OA rfl (Ab ?_)))))));refine Ac (Aa (OM rfl (O1 (Cx (q := 0) ok3 rfl rfl) (Ab ?_))));refine Ah rfl ?_ ?_ <;> intro h1
 ·refine Ac (Aa (OM rfl (OA rfl (Ab ?_))));refine An (Bq hw rfl ?_);exact congrArg iV (if_pos h1).symm
 ·refine Ai (Ac (Aa (O1 (Ad Ij rfl rfl) (O1 (Ae ld9 rfl rfl rfl) (O1 (Ad Ij rfl rfl) (O1 (Ae ld9 rfl rfl rfl) (Ap rfl rfl rfl rfl (f182 p.b q.b _) ?_)))))));refine OA rfl (Ab ?_);refine An (Bq hw rfl ?_);exact congrArg iV (if_neg (fun hh => Bool.noConfusion (h1.symm.trans hh))).symm
end Go.AM
