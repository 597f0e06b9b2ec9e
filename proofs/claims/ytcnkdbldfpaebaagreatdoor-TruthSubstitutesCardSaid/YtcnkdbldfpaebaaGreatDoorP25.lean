/- A part of the proof; shortened by program. -/
import Derived.Test.YtcnkdbldfpaebaaGreatDoorP24
set_option maxRecDepth 100000
set_option maxHeartbeats 4000000
set_option linter.unusedSimpArgs false
set_option linter.unusedVariables false
namespace Go.AM
open Go Go.Proofs
theorem Aus (o : Option Rl) : axV o = .tup [.agg (eR (o.getD ⟨[],[],[],false⟩)),.bool o.isSome] := by cases o <;> rfl
theorem Aqn {N : Nat} (g : Gr) (i : Int) : AV.und N (.tup [grV g,iV i]) = true := by
 show ((AV.und N (A3 g.sorts) && (AV.und N (slV eR 4 g.rules) && true)) && (true && true)) = true
 rw [show AV.und N (A3 g.sorts) = true from Ez Nt _,Ez Nv]; rfl
theorem Aqo {J : Sto} (hw : WFS J) : WFS (J.new (.cells Ip)) := hw.new rfl trivial
theorem f70g (f : Fr) (J : Sto) (t0 : Str) (hB : FrB f) (htx : ∃ tl,f.text = t0 :: tl) (hh : ∀ h ∈ f.hyps,∃ a b,h.text = [a,b]) : Cv 70 [.agg (eF f)] J (.tup [.agg (eR ((Im f).getD ⟨[],[],[],false⟩)),.bool (Im f).isSome]) := by
 rw [← Aus]; exact f70 f J t0 hB htx hh
theorem f47 (d : Db) (J : Sto) (hB : DbB d) (hvf : d.vars.length + d.frames.length < 1000000) : Cv 47 [dbV d] J (.tup [grV (ofF d).1,iV (ofF d).2]) := by
 refine Az Tryz.func47 rfl rfl fun hw hu0 => ?_
 refine Ac (Aa (Ar Hy rfl rfl rfl (O1 (Cw Ajp) (OA rfl (Ab (Ac (Aa ?_)))))));refine O1 (Ae Hy rfl rfl rfl) (Ap rfl rfl rfl rfl (f68 d _ hB) (OM rfl (O1 (Al rfl rfl) (O1 (Al rfl rfl) (OA rfl (OA rfl (Ab ?_)))))));refine Ac (Ac (Aa (OM rfl (O1 (Cx (q := 0) Jj rfl rfl) (Ab ?_)))));refine Ah rfl ?_ ?_ <;> intro h1
 ·refine Ac (Aa (O1 (B1 Apn rfl rfl) (OM rfl (O1 (B9 (ad := nx J) (off := 0) (vs := Ip) (vs' := Ip) (cs := Ip) D3 rfl rfl rfl (by simp only [Sto.cells]; rw [ab_,if_pos rfl]; rfl) rfl) ?_))))
  refine OA rfl (Ab ?_);have hF : ofF d = (zG,Dt d) := if_pos h1;refine An ?_
  exact ⟨[.agg Ip,iV (Dt d)],B6 D3 rfl (by simp only [Sto.cells]; rw [a_,if_pos rfl]) rfl (Dj rfl rfl),.tup [grV zG,iV (Dt d)],J,ap_ hw ⟨by rw [Ak,Aj]; omega,fun b hb => by rw [a_,if_neg Om,ab_,if_neg Om]⟩,nl,.tup (.cons (.agg (.cons Ds (.cons Ds .nil))) (.cons (.same rfl) .nil)),by rw [hF],rfl⟩
 ·have he0 : Dt d = 0 := by simpa using h1
  obtain ⟨hok,bt,i5⟩ := Anp he0;have hfl := Ahl d;have hbv := hB.v;have hbn := hB.n;refine Ai (Ac (Aa (O1 (C6 (n := nx J + 1) Qi (nx1 rfl)) (OA rfl (Ab (Ac (Ac ?_)))))));refine Aa (OM rfl (O1 (Aq F3 rfl) (OM rfl (Ab (Am ?_)))))
  refine B8 (B2 d).length (fun i0 => [(1,.pv [A3 d.consts,A3 d.vars,slV eF 8 d.frames]),(2,.pr (nx J) 0),(6,.mp (nx J + 1)),(28,slV eH 3 (B2 d)),(29,iV (.ofNat (B2 d).length)),(30,iV (.ofNat i0))]) (fun i0 J0 => nx J0 = nx J + 2 /\ J0.get (nx J) = some (.cells Ip) /\ (∀ b,b < nx J -> J0.get b = J.get b) /\ ∃ m,Bx hV J0 (nx J + 1) m /\ (Hx (B2 d) []) = Hx ((B2 d).drop i0) m) SL ⟨by rw [Aj,Aj],by rw [ab_,if_neg (by rw [Aj]; omega),ab_,if_pos rfl]; rfl,fun b hb => by rw [ab_,if_neg (by rw [Aj]; omega),ab_,if_neg Om],[],⟨0,by rw [ab_,if_pos (by rw [Aj])]; rfl⟩,rfl⟩ ?_
  rintro i0 J0 hi0 ⟨hn0,h20,hg0,m,hm0,hf0⟩;refine Ac (Aa (O1 (A8 ok3 rfl rfl) (Ab (Ac ?_))));refine Ah rfl ?_ ?_ <;> intro h2
  ·have bf : i0 < (B2 d).length := by simpa using h2
   obtain ⟨a0,ha0⟩ := Bt bf;have hd0 := Bh ha0;obtain ⟨u0,u1,hux⟩ := bt a0 (af_ ha0);obtain ⟨vm,hvm⟩ := id hm0;refine Ai (Ac (Am (Ac (Aa (O1 (Ax Ih (fun _ => rfl) rfl rfl ha0) ?_)))))
   refine O1 (Ae D2 rfl rfl rfl) (Bz Sm D2 rfl (fun _ => rfl) rfl rfl rfl rfl ?_)
   refine Ab ?_;refine Cc (anns := [aP 0 0,aP 0 0,aR 0 0,aP 0 0,aR 0 0,aR 0 0,aE 0 1]) A1 (As (l := []) trivial) Kr Kr ?_
   refine DF (Ag rfl) (DF (Ad C7 rfl rfl) (DF (Ae Ce rfl rfl rfl) (DF (Ax Da (fun _ => rfl) rfl rfl (by rw [hux]; rfl : a0.text[1]? = some u1) (i := 1)) ?_)))
   refine DF (Ae ld9 rfl rfl rfl) (DF (Ae D2 rfl rfl rfl) (DT (E8 (v := a0) st9 Qi rfl hvm rfl rfl (fun te k1 k2 => by first | exact Fq k1 k2 | exact Fs k1 k2 | exact Ge k1 k2 | exact Gf k1 k2 | exact Ft k1 k2 rfl)) ?_))
   refine Bi (Aa (O1 (Ay (q := 1) ok3 rfl rfl Om) ?_));refine OM rfl (Ab ?_)
   refine ⟨bf,SL,by rw [Ak]; exact hn0,by rw [a_,if_neg Om]; exact h20,fun b hb => by rw [a_,if_neg Om]; exact hg0 b hb,m.put u1 a0,dh_,by rw [hf0,hd0]; show Hx _ (m.put (txv a0) a0) = _; rw [Yg hux]⟩
  ·have bq : (B2 d).length <= i0 := by simpa using h2
   have bm : (Hx (B2 d) []) = m := by rw [hf0,ah_ bq]; rfl
   rw [← bm] at hm0;refine Ba ?_
   refine Ac (Aa (O1 (B1 Apn rfl rfl) (O1 (I5 (n := nx J + 2) Ajp hn0) (O1 (B9 (ad := nx J + 2) (off := 0) (vs := Ip) (vs' := Ip) (cs := Ip) D3 rfl rfl rfl (by simp only [Sto.cells]; rw [ab_,if_pos hn0.symm]; rfl) rfl) ?_))))
   refine Ab (Ac (Ac (Aa (O1 (Ad Qe rfl rfl) (O1 (Ae Ce rfl rfl rfl) (O1 (Aq Ee rfl) (OM rfl ?_)))))));refine Ab ?_
   have ez : ∃ g vS vR,GSt J ((J0.new (.cells Ip)).set (nx J + 2) (.cells Ip)) (Hx (B2 d) []) g vS vR /\ g.sorts.length <= 0 /\ g.rules.length <= 0 /\ (∀ r ∈ g.rules,r.parts.length < 1000000) /\ O2 (Hx (B2 d) []) d.vars zG = O2 (Hx (B2 d) []) (d.vars.drop 0) g := by
    have hlo : ∀ b,b < nx J + 2 -> ((J0.new (.cells Ip)).set (nx J + 2) (.cells Ip)).get b = J0.get b := fun b hb => by rw [a_,if_neg Om,ab_,if_neg Om]
    exact ⟨zG,.nil (.slice none 0 0),.nil (.slice none 0 0),⟨by rw [Ak,Aj,hn0]; exact nl,fun b hb => (hlo b Om).trans (hg0 b hb),(hlo _ Om).trans h20,hm0.of_get (hlo _ Om),by rw [a_,if_pos rfl]; rfl,.nil,.nil,fun a b x y e1 _ => by cases e1⟩,nl,nl,fun r hr => (by cases hr),rfl⟩
   refine Am ?_;refine B8 d.vars.length (fun i2 => [(1,.pv [A3 d.consts,A3 d.vars,slV eF 8 d.frames]),(2,.pr (nx J) 0),(6,.mp (nx J + 1)),(9,.pr (nx J + 2) 0),(43,A3 d.vars),(44,iV (.ofNat d.vars.length)),(45,iV (.ofNat i2))]) (fun i2 J2 => ∃ g vS vR,GSt J J2 (Hx (B2 d) []) g vS vR /\ g.sorts.length <= i2 /\ g.rules.length <= i2 /\ (∀ r ∈ g.rules,r.parts.length < 1000000) /\ O2 (Hx (B2 d) []) d.vars zG = O2 (Hx (B2 d) []) (d.vars.drop i2) g) SL ez ?_
   rintro i2 J2 hi2 ⟨g,vS,vR,hG2,hsl,hrl,hpl,hf2⟩;refine Ac (Aa (O1 (A8 ok3 rfl rfl) (Ab (Ac ?_))));refine Ah rfl ?_ ?_ <;> intro h3
   ·have br : i2 < d.vars.length := by simpa using h3
    obtain ⟨a2,ha2⟩ := Bt br;have hd2 := Bh ha2;obtain ⟨x2,hx2,hxv⟩ := i5 a2 (af_ ha2);obtain ⟨hh,hhm,hhg,hhv⟩ := Ac7 (m := []) ⟨x2,hx2,hxv⟩;obtain ⟨u0,u1,hux⟩ := bt hh hhm
    have hu : hh.text.headD [] = u0 := by rw [hux]; rfl
    refine Ai (Ac (Am (Ac (Aa (O1 (Ax Da (fun _ => rfl) rfl rfl ha2) ?_)))))
    refine O1 (Ae ld9 rfl rfl rfl) (OA rfl (Ab (Ac (Aa (OM rfl (OM rfl (O1 (Mh st9 Qi rfl hG2.m rfl hhg) ?_)))))));refine Bz Sm D2 rfl (fun _ => rfl) rfl rfl rfl rfl ?_
    refine Ab (Ac (Ac (Aa (O1 (Ad C7 rfl rfl) (O1 (Ae Ce rfl rfl rfl) (O1 (Ax Da (fun _ => rfl) rfl rfl (by rw [hux]; rfl : hh.text[0]? = some u0) (i := 0)) ?_))))))
    refine O1 (Ae ld9 rfl rfl rfl) (O1 (I0 (q := [124,45]) ok9 rfl rfl) (Ab ?_));refine Ah rfl ?_ ?_ <;> intro h4
    ·refine Ac (Aa (O1 (B1 Apn rfl rfl) (O1 (B9 (ad := nx J) (off := 0) (vs := Ip) (vs' := Ip) (cs := Ip) D3 rfl rfl rfl (by simp only [Sto.cells,hG2.t]) rfl) ?_)))
     refine OA rfl (Ab ?_)
     have hv0 : O2 (Hx (B2 d) []) d.vars zG = none := by rw [hf2,hd2,O2,hhg]; simp only [hu]; exact if_pos h4
     have hF : ofF d = (zG,11) := (if_neg (fun hc => Bool.noConfusion (h1.symm.trans hc))).trans (by rw [hv0])
     refine An ?_
     exact ⟨[.agg Ip,iV (11)],B6 D3 rfl (by simp only [Sto.cells]; rw [a_,if_pos rfl]) rfl (Dj rfl rfl),.tup [grV zG,iV (11)],J,ap_ hw ⟨by rw [Ak]; have := hG2.n; omega,fun b hb => by rw [a_,if_neg Om]; exact hG2.g0 b hb⟩,nl,.tup (.cons (.agg (.cons Ds (.cons Ds .nil))) (.cons (.same rfl) .nil)),by rw [hF],rfl⟩
    ·refine Ai (Ac (Ac ?_));refine Cc (anns := [aP 0 0,aR 0 0,aP 0 0,aR 0 0,aP 0 0,aR 0 0,aE 0 1,aP 1 1]) A1 (As (l := [(61,[vS,sV u0],J2,.bool (g.sorts.any fun x => decide (u0 = x)),J2)]) ⟨Aqm g.sorts u0 vS J2 hG2.s Om,trivial⟩) Kr Kr ?_
     refine DF (Ad Qh rfl rfl) (DF (Ae (u := .pr (nx J + 2) 0) (cs := [vS,vR]) Ce rfl (by simp only [Dq,Sto.cells,hG2.c]; rfl) rfl) ?_)
     refine DF (Ad C7 rfl rfl) (DF (Ae Ce rfl rfl rfl) (DF (Ax Da (fun _ => rfl) rfl rfl (by rw [hux]; rfl : hh.text[0]? = some u0) (i := 0)) ?_))
     refine DF (Ae ld9 rfl rfl rfl) (DT (Bl rfl rfl Bm) (DF (Bb rfl) (Bi ?_)));refine Ah rfl ?_ ?_ <;> intro h5
     ·obtain ⟨J3,v1,hap,hc1,hcS,hG3⟩ := hG2.addS u0 (by simp [sizeLim]; omega)
      obtain ⟨J5,v2,jq,hc2,hcR,hG2''⟩ := hG3.addR (⟨hh.label,u0,[⟨a2,[],0⟩],true⟩ : Rl) (by simp [sizeLim]; omega)
      have gp : ∀ r ∈ g.rules ++ [(⟨hh.label,u0,[⟨a2,[],0⟩],true⟩ : Rl)],r.parts.length < 1000000 := fun r hr => by
       rcases bo_.1 hr with hr | hr
       ·exact hpl r hr
       ·rw [al_.1 hr]; show 1 < 1000000; omega
      refine Cc (anns := [aP 0 0,aR 0 0,aP 0 0,aR 0 0,aP 0 0,aR 0 0,aP 0 0,aE 0 1,aP 1 1,aE 1 2]) A1 (As (l := []) trivial) Kr Kr ?_
      refine DF (Ad Qh rfl rfl) (DF (Ae (u := .pr (nx J + 2) 0) (cs := [vS,vR]) Ce rfl (by simp only [Dq,Sto.cells,hG2.c]; rfl) rfl) ?_)
      refine DF (Ad C7 rfl rfl) (DF (Ae Ce rfl rfl rfl) (DF (Ax Da (fun _ => rfl) rfl rfl (by rw [hux]; rfl : hh.text[0]? = some u0) (i := 0)) ?_))
      refine DF (Ae ld9 rfl rfl rfl) (DF (Bn Da byW rfl rfl rfl) (DT (B0 Da rfl Ee rfl rfl rfl (new := e1 u0) rfl hap) (DF (Ad Qh rfl rfl) (DT (B9 (ad := nx J + 2) (off := 0) (vs := [vS,vR]) (vs' := [v1,vR]) (cs := [v1]) Ce rfl rfl hc1 (by simp only [Sto.cells,hcS]) rfl) ?_))))
      refine Bi ?_;refine Cc (anns := [aP 0 0,aR 0 0,aP 0 0,aR 0 0,aP 0 0,aR 0 0,aP 0 0,aR 0 0,aP 0 0,aP 0 0,aP 0 0,aP 0 0,aP 0 0,aE 0 1,aP 1 1,aE 1 2]) A1 (As (l := []) trivial) Kr Kr ?_
      refine DF (Ad Gh rfl rfl) (DF (Ae (u := .pr (nx J + 2) 1) (cs := [vR]) Qg rfl (by simp only [Dq,Sto.cells,hG3.c]; rfl) rfl) ?_)
      refine DF (Ad Fu rfl rfl) (DF (Ae ld9 rfl rfl rfl) (DF (Ad C7 rfl rfl) (DF (Ae Ce rfl rfl rfl) (DF (Ax Da (fun _ => rfl) rfl rfl (by rw [hux]; rfl : hh.text[0]? = some u0) (i := 0)) ?_))))
      refine DF (Ae ld9 rfl rfl rfl) (DF (Ag rfl) (DF (B1 Alb rfl rfl) (DF (Bn Abp byW rfl rfl rfl) (DF (B1 Am8 rfl rfl) (DF (Bn La byW rfl rfl rfl) (DT (B0 La rfl X0 rfl rfl rfl (new := eRg (⟨hh.label,u0,[⟨a2,[],0⟩],true⟩ : Rl)) rfl jq) (DF (Ad Gh rfl rfl) ?_)))))))
      refine DT (B9 (ad := nx J + 2) (off := 1) (vs := [v1,vR]) (vs' := [v1,v2]) (cs := [v2]) Qg rfl rfl hc2 (by simp only [Sto.cells,hcR]) rfl) ?_
      refine Bi (Aa (O1 (Ay (q := 1) ok3 rfl rfl Om) ?_));refine OM rfl (Ab ?_)
      refine ⟨br,SL,⟨g.sorts ++ [u0],g.rules ++ [(⟨hh.label,u0,[⟨a2,[],0⟩],true⟩ : Rl)]⟩,v1,v2,hG2'',by simp; omega,by simp; omega,gp,by rw [hf2,hd2,O2,hhg]; simp only [hu]; rw [if_neg (by rw [h4]; simp)]; unfold varG Ae7; rw [hu,if_pos h5]⟩
     ·obtain ⟨J5,v2,jq,hc2,hcR,hG2''⟩ := hG2.addR (⟨hh.label,u0,[⟨a2,[],0⟩],true⟩ : Rl) (by simp [sizeLim]; omega)
      have gp : ∀ r ∈ g.rules ++ [(⟨hh.label,u0,[⟨a2,[],0⟩],true⟩ : Rl)],r.parts.length < 1000000 := fun r hr => by
       rcases bo_.1 hr with hr | hr
       ·exact hpl r hr
       ·rw [al_.1 hr]; show 1 < 1000000; omega
      refine Ai ?_;refine Cc (anns := [aP 0 0,aR 0 0,aP 0 0,aR 0 0,aP 0 0,aR 0 0,aP 0 0,aR 0 0,aP 0 0,aP 0 0,aP 0 0,aP 0 0,aP 0 0,aE 0 1,aP 1 1,aE 1 2]) A1 (As (l := []) trivial) Kr Kr ?_
      refine DF (Ad Gh rfl rfl) (DF (Ae (u := .pr (nx J + 2) 1) (cs := [vR]) Qg rfl (by simp only [Dq,Sto.cells,hG2.c]; rfl) rfl) ?_)
      refine DF (Ad Fu rfl rfl) (DF (Ae ld9 rfl rfl rfl) (DF (Ad C7 rfl rfl) (DF (Ae Ce rfl rfl rfl) (DF (Ax Da (fun _ => rfl) rfl rfl (by rw [hux]; rfl : hh.text[0]? = some u0) (i := 0)) ?_))))
      refine DF (Ae ld9 rfl rfl rfl) (DF (Ag rfl) (DF (B1 Alb rfl rfl) (DF (Bn Abp byW rfl rfl rfl) (DF (B1 Am8 rfl rfl) (DF (Bn La byW rfl rfl rfl) (DT (B0 La rfl X0 rfl rfl rfl (new := eRg (⟨hh.label,u0,[⟨a2,[],0⟩],true⟩ : Rl)) rfl jq) (DF (Ad Gh rfl rfl) ?_)))))))
      refine DT (B9 (ad := nx J + 2) (off := 1) (vs := [vS,vR]) (vs' := [vS,v2]) (cs := [v2]) Qg rfl rfl hc2 (by simp only [Sto.cells,hcR]) rfl) ?_
      refine Bi (Aa (O1 (Ay (q := 1) ok3 rfl rfl Om) ?_));refine OM rfl (Ab ?_)
      refine ⟨br,SL,⟨g.sorts,g.rules ++ [(⟨hh.label,u0,[⟨a2,[],0⟩],true⟩ : Rl)]⟩,vS,v2,hG2'',by simp; omega,by simp; omega,gp,by rw [hf2,hd2,O2,hhg]; simp only [hu]; rw [if_neg (by rw [h4]; simp)]; unfold varG Ae7; rw [hu,if_neg (by rw [h5]; simp)]⟩
   ·have b8 : d.vars.length <= i2 := by simpa using h3
    have hv2 : O2 (Hx (B2 d) []) d.vars zG = some g := by rw [hf2,ah_ b8]; rfl
    obtain ⟨gv,hgv⟩ : ∃ x,x = g := ⟨_,rfl⟩;rw [← hgv] at hv2
    have jv : ∃ g4 vS vR,GSt J J2 (Hx (B2 d) []) g4 vS vR /\ g4.sorts.length <= d.vars.length /\ g4.rules.length <= d.vars.length + 0 /\ (∀ r ∈ g4.rules,r.parts.length < 1000000) /\ Gt d.frames gv = Gt (d.frames.drop 0) g4 := ⟨g,vS,vR,hG2,by omega,by omega,hpl,by rw [hgv]; rfl⟩
    refine Ba ?_;refine Ac (Aa (OA rfl (Ab (Ac (Ac (Aa (O1 (Ad Sj rfl rfl) ?_)))))));refine O1 (Ae Ajh rfl rfl rfl) (O1 (Aq Aji rfl) (OM rfl (Ab (Am ?_))));refine B8 d.frames.length (fun i4 => [(2,.pr (nx J) 0),(9,.pr (nx J + 2) 0),(13,.fn (.func 69) [] []),(92,slV eF 8 d.frames),(93,iV (.ofNat d.frames.length)),(94,iV (.ofNat i4))]) (fun i4 J4 => ∃ g vS vR,GSt J J4 (Hx (B2 d) []) g vS vR /\ g.sorts.length <= d.vars.length /\ g.rules.length <= d.vars.length + i4 /\ (∀ r ∈ g.rules,r.parts.length < 1000000) /\ Gt d.frames gv = Gt (d.frames.drop i4) g) SL jv ?_
    rintro i4 J4 hi4 ⟨g,vS,vR,hG4,hsl,hrl,hpl,hf4⟩;refine Ac (Aa (O1 (A8 ok3 rfl rfl) (Ab (Ac ?_))));refine Ah rfl ?_ ?_ <;> intro h4
    ·have eo : i4 < d.frames.length := by simpa using h4
     obtain ⟨a4,ha4⟩ := Bt eo;have hd4 := Bh ha4;have hFa := hB.f a4 (af_ ha4);obtain ⟨t0,tl,htx⟩ := Aj2 hok (af_ ha4)
     have htd : a4.text.headD [] = t0 := by rw [htx]; rfl
     refine Ai (Ac (Am (Ac (Aa (O1 (Ax el23 (fun _ => rfl) rfl rfl ha4) ?_)))))
     refine O1 (Ae Qf rfl rfl rfl) (Bz zi59 Qf rfl (fun _ => rfl) rfl rfl rfl rfl ?_)
     refine Ab (Ac ?_)
     refine Hu [(115,.bool ((a4.thm || a4.hyps.any (fun h => !h.floating)) || !(g.sorts.any fun x => decide (t0 = x))))] ?_ ?_
     ·rcases au_ (a4.thm) with hg2 | hg2
      ·refine Cc (anns := [aP 0 0,aR 0 0,aP 0 0,aP 0 0,aR 0 0,aP 0 0,aE 0 1,aP 1 1,aP 1 1,aP 1 1,aR 1 1,aP 1 1,aR 1 1,aP 1 1,aR 1 1,aE 1 2,aP 2 2,aP 2 2]) A1 (As (l := [(14,[slV eH 3 a4.hyps,.fn (.func 69) [] []],J4,.bool (a4.hyps.any fun h => !h.floating),J4),(61,[vS,sV t0],J4,.bool (g.sorts.any fun x => decide (t0 = x)),J4)]) ⟨f14 (fun h => !h.floating) a4.hyps 69 [] J4 (by have := hFa.h; omega) (fun a _ => f69 a J4),Aqm g.sorts t0 vS J4 hG4.s Om,trivial⟩) Kr Kr ?_
       refine DF (Ad Aet rfl rfl) (DF (Ae ld4 rfl rfl rfl) (DF (Ag rfl) ?_))
       refine Wx (w := by first|rfl|simp only [hg2]<;>rfl|simp [hg2]) ?_
       refine Wx (w := by first|rfl|simp only [hg2]<;>rfl|simp [hg2]) ?_
       refine Wx (w := by first|rfl|simp only [hg2]<;>rfl|simp [hg2]) ?_
       refine Yc rfl rfl rfl rfl (by first|rfl|simp only [hg2]<;>rfl|simp [hg2]) rfl rfl ?_
       refine DF (Bu rfl (by first|rfl|simp only [hg2]<;>rfl|simp [hg2]) rfl) ?_
       refine DF (Ag rfl) ?_
       refine Wx (w := by first|rfl|simp only [hg2]<;>rfl|simp [hg2]) ?_
       refine Wx (w := by first|rfl|simp only [hg2]<;>rfl|simp [hg2]) ?_
       refine Wx (w := by first|rfl|simp only [hg2]<;>rfl|simp [hg2]) ?_
       refine Wx (w := by first|rfl|simp only [hg2]<;>rfl|simp [hg2]) ?_
       refine Wx (w := by first|rfl|simp only [hg2]<;>rfl|simp [hg2]) ?_
       refine Wx (w := by first|rfl|simp only [hg2]<;>rfl|simp [hg2]) ?_
       refine Yc rfl rfl rfl rfl (by first|rfl|simp only [hg2]<;>rfl|simp [hg2]) rfl rfl ?_
       refine Wx (w := by first|rfl|simp only [hg2]<;>rfl|simp [hg2]) ?_
       refine DF (Bu rfl (by first|rfl|simp only [hg2]<;>rfl|simp [hg2]) rfl) ?_
       refine Bi ?_
       exact ⟨⟨congrArg (fun b => some (AV.bool b)) (by first|rfl|simp only [hg2]<;>rfl|simp [hg2]),trivial⟩,sb,rfl⟩
      ·rcases au_ ((a4.hyps.any fun h => !h.floating)) with hg8 | hg8
       ·refine Cc (anns := [aP 0 0,aR 0 0,aP 0 0,aP 0 0,aR 0 0,aP 0 0,aE 0 1,aP 1 1,aP 1 1,aP 1 1,aR 1 1,aP 1 1,aR 1 1,aP 1 1,aR 1 1,aE 1 2,aP 2 2,aP 2 2]) A1 (As (l := [(14,[slV eH 3 a4.hyps,.fn (.func 69) [] []],J4,.bool (a4.hyps.any fun h => !h.floating),J4),(61,[vS,sV t0],J4,.bool (g.sorts.any fun x => decide (t0 = x)),J4)]) ⟨f14 (fun h => !h.floating) a4.hyps 69 [] J4 (by have := hFa.h; omega) (fun a _ => f69 a J4),Aqm g.sorts t0 vS J4 hG4.s Om,trivial⟩) Kr Kr ?_
        refine DF (Ad Aet rfl rfl) (DF (Ae ld4 rfl rfl rfl) (DF (Ag rfl) ?_))
        refine Wn (w := by first|rfl|simp only [hg8,hg2]<;>rfl|simp [hg8,hg2]) (Ad Hf rfl rfl) ?_
        refine Wn (w := by first|rfl|simp only [hg8,hg2]<;>rfl|simp [hg8,hg2]) (Ae K7 rfl rfl rfl) ?_
        refine Wn (w := by first|rfl|simp only [hg8,hg2]<;>rfl|simp [hg8,hg2]) (Ag rfl) ?_
        refine Aae rfl rfl rfl rfl (by first|rfl|simp only [hg8,hg2]<;>rfl|simp [hg8,hg2]) rfl rfl (Bl rfl rfl Bm) ?_
        refine DF (Br rfl (by first|rfl|simp only [hg8,hg2]<;>rfl|simp [hg8,hg2]) rfl) ?_
        refine DF (Ag rfl) ?_
        refine Wx (w := by first|rfl|simp only [hg8,hg2]<;>rfl|simp [hg8,hg2]) ?_
        refine Wx (w := by first|rfl|simp only [hg8,hg2]<;>rfl|simp [hg8,hg2]) ?_
        refine Wx (w := by first|rfl|simp only [hg8,hg2]<;>rfl|simp [hg8,hg2]) ?_
        refine Wx (w := by first|rfl|simp only [hg8,hg2]<;>rfl|simp [hg8,hg2]) ?_
        refine Wx (w := by first|rfl|simp only [hg8,hg2]<;>rfl|simp [hg8,hg2]) ?_
        refine Wx (w := by first|rfl|simp only [hg8,hg2]<;>rfl|simp [hg8,hg2]) ?_
        refine Yc rfl rfl rfl rfl (by first|rfl|simp only [hg8,hg2]<;>rfl|simp [hg8,hg2]) rfl rfl ?_
        refine Wx (w := by first|rfl|simp only [hg8,hg2]<;>rfl|simp [hg8,hg2]) ?_
        refine DF (Bu rfl (by first|rfl|simp only [hg8,hg2]<;>rfl|simp [hg8,hg2]) rfl) ?_
        refine Bi ?_
        exact ⟨⟨congrArg (fun b => some (AV.bool b)) (by first|rfl|simp only [hg8,hg2]<;>rfl|simp [hg8,hg2]),trivial⟩,sb,rfl⟩
       ·refine Cc (anns := [aP 0 0,aR 0 0,aP 0 0,aP 0 0,aR 0 0,aP 0 0,aE 0 1,aP 1 1,aP 1 1,aP 1 1,aR 1 1,aP 1 1,aR 1 1,aP 1 1,aR 1 1,aE 1 2,aP 2 2,aP 2 2]) A1 (As (l := [(14,[slV eH 3 a4.hyps,.fn (.func 69) [] []],J4,.bool (a4.hyps.any fun h => !h.floating),J4),(61,[vS,sV t0],J4,.bool (g.sorts.any fun x => decide (t0 = x)),J4)]) ⟨f14 (fun h => !h.floating) a4.hyps 69 [] J4 (by have := hFa.h; omega) (fun a _ => f69 a J4),Aqm g.sorts t0 vS J4 hG4.s Om,trivial⟩) Kr Kr ?_
        refine DF (Ad Aet rfl rfl) (DF (Ae ld4 rfl rfl rfl) (DF (Ag rfl) ?_))
        refine Wn (w := by first|rfl|simp only [hg8,hg2]<;>rfl|simp [hg8,hg2]) (Ad Hf rfl rfl) ?_
        refine Wn (w := by first|rfl|simp only [hg8,hg2]<;>rfl|simp [hg8,hg2]) (Ae K7 rfl rfl rfl) ?_
        refine Wn (w := by first|rfl|simp only [hg8,hg2]<;>rfl|simp [hg8,hg2]) (Ag rfl) ?_
        refine Aae rfl rfl rfl rfl (by first|rfl|simp only [hg8,hg2]<;>rfl|simp [hg8,hg2]) rfl rfl (Bl rfl rfl Bm) ?_
        refine DF (Br rfl (by first|rfl|simp only [hg8,hg2]<;>rfl|simp [hg8,hg2]) rfl) ?_
        refine DF (Ag rfl) ?_
        refine Wn (w := by first|rfl|simp only [hg8,hg2]<;>rfl|simp [hg8,hg2]) (Ad Qh rfl rfl) ?_
        refine Wn (w := by first|rfl|simp only [hg8,hg2]<;>rfl|simp [hg8,hg2]) (Ae (u := .pr (nx J + 2) 0) (cs := [vS,vR]) Ce rfl (by simp only [Dq,Sto.cells,hG4.c]; rfl) rfl) ?_
        refine Wn (w := by first|rfl|simp only [hg8,hg2]<;>rfl|simp [hg8,hg2]) (Ad Wf rfl rfl) ?_
        refine Wn (w := by first|rfl|simp only [hg8,hg2]<;>rfl|simp [hg8,hg2]) (Ae Ce rfl rfl rfl) ?_
        refine Wn (w := by first|rfl|simp only [hg8,hg2]<;>rfl|simp [hg8,hg2]) (Ax Da (fun _ => rfl) rfl rfl (by rw [htx]; rfl : a4.text[0]? = some t0) (i := 0)) ?_
        refine Wn (w := by first|rfl|simp only [hg8,hg2]<;>rfl|simp [hg8,hg2]) (Ae ld9 rfl rfl rfl) ?_
        refine Aae rfl rfl rfl rfl (by first|rfl|simp only [hg8,hg2]<;>rfl|simp [hg8,hg2]) rfl rfl (Bl rfl rfl (D1 (by decide) Bm)) ?_
        refine Wn (w := by first|rfl|simp only [hg8,hg2]<;>rfl|simp [hg8,hg2]) (Bb rfl) ?_
        refine DF (Br rfl (by first|rfl|simp only [hg8,hg2]<;>rfl|simp [hg8,hg2]) rfl) ?_
        refine Bi ?_
        exact ⟨⟨congrArg (fun b => some (AV.bool b)) (by first|rfl|simp only [hg8,hg2]<;>rfl|simp [hg8,hg2]),trivial⟩,sb,rfl⟩
     refine Ah rfl ?_ ?_ <;> intro h5
     ·replace h5 : Ac8 a4 g = true := by unfold Ac8; rw [htd]; exact h5
      refine Ba ?_;refine Aa (O1 (Ay (q := 1) ok3 rfl rfl Om) ?_);refine OM rfl (Ab ?_)
      refine ⟨eo,SL,g,vS,vR,hG4,hsl,by omega,hpl,by rw [hf4,hd4,Gt,if_pos h5]⟩
     ·replace h5 : Ac8 a4 g = false := by unfold Ac8; rw [htd]; exact h5
      have hfl : ∀ x ∈ a4.hyps,∃ a b,x.text = [a,b] := Abr hok (af_ ha4) (by unfold Ac8 at h5; cases hh : (a4.hyps.any fun h => !h.floating) with | false => rfl | true => rw [hh] at h5; simp at h5)
      refine Ai (Ac (Aa (O1 (Ae Qf rfl rfl rfl) (Ap rfl rfl rfl rfl (f70g a4 J4 t0 hFa ⟨tl,htx⟩ hfl) (OM rfl (O1 (Al rfl rfl) (O1 (Al rfl rfl) ?_)))))));refine Bz X1 Ey rfl (fun _ => rfl) rfl rfl rfl rfl ?_
      refine OA rfl (Ab (Ac (Ac (Aa (OM rfl (O1 (Bb rfl) (Ab ?_)))))));refine Ah rfl ?_ ?_ <;> intro h6
      ·have hax : Im a4 = none := by simpa using h6
       refine Ac (Aa (O1 (B1 Apn rfl rfl) (O1 (B9 (ad := nx J) (off := 0) (vs := Ip) (vs' := Ip) (cs := Ip) D3 rfl rfl rfl (by simp only [Sto.cells,hG4.t]) rfl) ?_)))
       refine OA rfl (Ab ?_)
       have hfr : Gt d.frames gv = none := by rw [hf4,hd4,Gt,if_neg (by rw [h5]; simp),hax]
       have hF : ofF d = (zG,150) := (if_neg (fun hc => Bool.noConfusion (h1.symm.trans hc))).trans (by rw [hv2]; simp only []; rw [hfr])
       refine An ?_
       exact ⟨[.agg Ip,iV (150)],B6 D3 rfl (by simp only [Sto.cells]; rw [a_,if_pos rfl]) rfl (Dj rfl rfl),.tup [grV zG,iV (150)],J,ap_ hw ⟨by rw [Ak]; have := hG4.n; omega,fun b hb => by rw [a_,if_neg Om]; exact hG4.g0 b hb⟩,nl,.tup (.cons (.agg (.cons Ds (.cons Ds .nil))) (.cons (.same rfl) .nil)),by rw [hF],rfl⟩
      ·obtain ⟨rl,hax⟩ : ∃ rl,Im a4 = some rl := bp_.1 (by simpa using h6)
       obtain ⟨J5,v1,hap,hc1,hcR,hG5⟩ := hG4.addR rl (by simp [sizeLim]; omega)
       have gp : ∀ r ∈ g.rules ++ [rl],r.parts.length < 1000000 := fun r hr => by
        rcases bo_.1 hr with hr | hr
        ·exact hpl r hr
        ·rw [al_.1 hr]; exact fs_ (Aj1 hax) hFa.t
       refine Ai (Aa (O1 (Ad Gh rfl rfl) (O1 (Ae (u := .pr (nx J + 2) 1) (cs := [vR]) Qg rfl (by simp only [Dq,Sto.cells,hG4.c]; rfl) rfl) ?_)))
       refine O1 (Ae Ey rfl rfl rfl) (E6 (Bn La byW rfl rfl rfl) (Gd (len := 1)) rfl rfl (O1 (B0 La rfl X0 rfl rfl rfl (new := eRg rl) (by rw [hax,Aur (Aj0 hax)]; rfl) hap) ?_))
       refine O1 (Ad Gh rfl rfl) (O1 (B9 (ad := nx J + 2) (off := 1) (vs := [vS,vR]) (vs' := [vS,v1]) (cs := [v1]) Qg rfl rfl hc1 (by simp only [Sto.cells,hcR]) rfl) ?_)
       refine Ab (Aa (O1 (Ay (q := 1) ok3 rfl rfl Om) ?_));refine OM rfl (Ab ?_)
       refine ⟨eo,SL,⟨g.sorts,g.rules ++ [rl]⟩,vS,v1,hG5,hsl,by simp; omega,gp,by rw [hf4,hd4,Gt,if_neg (by rw [h5]; simp),hax]⟩
    ·have jc : d.frames.length <= i4 := by simpa using h4
     have hfr : Gt d.frames gv = some g := by rw [hf4,ah_ jc]; rfl
     refine Ba ?_
     have hGB : GrB g := ⟨by omega,by omega,hpl⟩
     have hn4 := hG4.n
     refine As9 (J.new (.cells Ip)) [(2,.pr (nx J) 0),(9,.pv [A3 g.sorts,slV eR 4 g.rules])] (ag_ (Aqo hw) (by rw [Aj]; omega) fun b hb => ?_) (by rw [Aj]; omega) ⟨⟨_,rfl,.same ?_⟩,⟨_,rfl,.pr hG4.c (by rw [ab_,if_neg Om]; exact hw.none Om) (.cons (hG4.s.fz (fun _ => rfl) (fun a ha => by rw [ab_,if_neg Om]; exact hw.none Om) (Co Nt _)) (.cons (hG4.r.fzE (fun _ => rfl) (fun a ha => by rw [ab_,if_neg Om]; exact hw.none Om) Auq) .nil))⟩,trivial⟩ ?_
     ·rw [Aj] at hb;rw [ab_]
      split
      ·rename_i e; rw [e]; exact hG4.t
      ·exact hG4.g0 b Om
     ·unfold AV.und; rw [Aj]; simp
     refine Ac (Ac (Aa (O1 (Ae D3 rfl rfl rfl) (Ap rfl rfl rfl rfl (f71 g _ hGB) (O1 (Cx (q := 0) Jj rfl rfl) (Ab ?_))))));refine Ah rfl ?_ ?_ <;> intro h5
     ·refine Ac (Aa (O1 (B1 Apn rfl rfl) (O1 (B9 (ad := nx J) (off := 0) (vs := Ip) (vs' := Ip) (cs := Ip) D3 rfl rfl rfl (by simp only [Sto.cells]; rw [ab_,if_pos rfl]) rfl) ?_)))
      refine OA rfl (Ab ?_)
      have hF : ofF d = (zG,4) := (if_neg (fun hc => Bool.noConfusion (h1.symm.trans hc))).trans (by rw [hv2]; simp only []; rw [hfr]; exact if_pos h5)
      refine An ?_
      exact ⟨[.agg Ip,iV (4)],B6 D3 rfl (by simp only [Sto.cells]; rw [a_,if_pos rfl]) rfl (Dj rfl rfl),.tup [grV zG,iV (4)],J,ap_ hw ⟨by rw [Ak,Aj]; omega,fun b hb => by rw [a_,if_neg Om,ab_,if_neg Om]⟩,nl,.tup (.cons (.agg (.cons Ds (.cons Ds .nil))) (.cons (.same rfl) .nil)),by rw [hF],rfl⟩
     ·refine Ai (Ac (Aa (O1 (Ae D3 rfl rfl rfl) (O1 (B9 (ad := nx J) (off := 0) (vs := Ip) (vs' := [A3 g.sorts,slV eR 4 g.rules]) (cs := [A3 g.sorts,slV eR 4 g.rules]) D3 rfl rfl rfl (by simp only [Sto.cells]; rw [ab_,if_pos rfl]) rfl) ?_))))
      refine OA rfl (Ab ?_)
      have hF : ofF d = (g,0) := (if_neg (fun hc => Bool.noConfusion (h1.symm.trans hc))).trans (by rw [hv2]; simp only []; rw [hfr]; exact if_neg (by rw [h5]; simp))
      refine An ?_
      exact ⟨[grV g,iV 0],B6 D3 rfl (by simp only [Sto.cells]; rw [a_,if_pos rfl]) rfl (Dj rfl rfl),.tup [grV g,iV 0],J,ap_ hw ⟨by rw [Ak,Aj]; omega,fun b hb => by rw [a_,if_neg Om,ab_,if_neg Om]⟩,nl,.same (Aqn _ _),by rw [hF],rfl⟩
mutual
def Bw : Au -> Nat
 | .node _ ks => 1 + Dh ks
def Dh : List Au -> Nat
 | [] => 0
 | t :: r => Bw t + Dh r
end
mutual
def dpT : Au -> Nat -> Nat
 | .node _ ks,lv => dpL ks (lv + 1) lv
def dpL : List Au -> Nat -> Nat -> Nat
 | [],_,d => d
 | t :: r,lv,d => dpL r lv (max d (dpT t lv))
end
theorem Ahm (t : Au) : 1 <= Bw t := by cases t; unfold Bw; omega
theorem Mm : ∀ (l m : List Au),Dh (l ++ m) = Dh l + Dh m
 | [],m => by simp [Dh]
 | t :: r,m => by simp only [av_,Dh,Mm r m]; omega
theorem Al1 : ∀ (l m : List Au) (lv d : Nat),dpL (l ++ m) lv d = dpL m lv (dpL l lv d)
 | [],m,lv,d => by simp [dpL]
 | t :: r,m,lv,d => by simp only [av_,dpL,Al1 r m]
theorem Aqp {α : Type} {l : List α} {i : Nat} {a : α} (h : l[i]? = some a) : l.take (i + 1) = l.take i ++ [a] := by
 rw [List.take_add_one,h]; rfl
theorem Mn {l : List Au} {i : Nat} {a : Au} (h : l[i]? = some a) : Dh (l.take i) + Bw a <= Dh l := by
 have e : Dh l = Dh (l.take (i + 1)) + Dh (l.drop (i + 1)) := by rw [← Mm,ck_]
 rw [e,Aqp h,Mm]; simp only [Dh]; omega
theorem Mo : ∀ {l : List Au} {a : Au},a ∈ l -> Bw a <= Dh l
 | x :: r,a,h => by
  unfold Dh
  rcases aj_.1 h with rfl | h
  ·omega
  ·have := Mo h; omega
theorem Jl : ∀ l : List Au,l.length <= Dh l
 | [] => nl
 | t :: r => by have := Jl r; have := Ahm t; simp only [aq_,Dh]; omega
theorem Gi (l : Str) (ks : List Au) : Bg (.node l ks) = .agg [sV l,slV eT 2 ks] := by rw [Bg,Ne]
mutual
theorem Al2 : ∀ (t : Au) (n : Int),0 <= Ly t n -> Int.ofNat (Bw t) = n - Ly t n
 | .node _ ks,n,h => by
  unfold Ly at h ⊢;unfold Bw;have := Ahn ks (n - 1) h;simp only [am_] at *; omega
theorem Ahn : ∀ (l : List Au) (n : Int),0 <= Nh l n -> Int.ofNat (Dh l) = n - Nh l n
 | [],n,h => by unfold Nh Dh; simp
 | t :: r,n,h => by
  unfold Nh at h ⊢;unfold Dh
  split at h
  ·rename_i h0
   rw [if_pos h0];have h2 := Ahn r (Ly t n) h
   have h3 : 0 <= Ly t n := by
    by_cases hh : 0 <= Ly t n
    ·exact hh
    ·rw [Agg Om] at h; omega
   have h1 := Al2 t n h3;simp only [am_] at *; omega
  ·omega
end
theorem Aqq {t : Au} {n : Nat} (h : Apv t (Int.ofNat n) = true) : Bw t <= n := by
 have h1 : 0 <= Ly t (Int.ofNat n) := by simpa [Apv] using h
 have h2 := Al2 t _ h1;simp only [am_] at *; omega
def Atp (s : Str) (ks : List Au) : AV := cond ks.isEmpty (.ifc 252 (sV s)) (.ifc 254 (.agg [sV s,slV eT 2 ks]))
theorem f120 (s : Str) (ks : List Au) (J : Sto) (hb : ks.length < 1000000) : Cv 120 [Bg (.node s ks)] J (Atp s ks) := by
 rw [Gi];refine Az Tryz.func120 rfl rfl fun hw hu0 => ?_
 refine Ac (Aa (Ar Bv rfl rfl rfl (OA rfl (Ab (Ac (Ac (Aa ?_)))))));refine O1 (Ad Gg rfl rfl) (O1 (Ae Mf rfl rfl rfl) (O1 (Aq Wd rfl) (O1 (Do (q := 0) ok3 rfl rfl) (Ab ?_))));refine Ah rfl ?_ ?_ <;> intro h1
 ·have e : ks = [] := dj_.1 (by simpa using h1)
  refine Ac (Aa (O1 (Ad I1 rfl rfl) (O1 (Ae ld9 rfl rfl rfl) (O1 (Aqi Ato rfl) (OA rfl (Ab ?_))))));refine An (Bq hw rfl ?_);subst e; rfl
 ·have e : ks ≠ [] := fun e => by subst e; simp at h1
  refine Ai (Ac (Aa (O1 (Ad I1 rfl rfl) (O1 (Ae ld9 rfl rfl rfl) (O1 (Ad Gg rfl rfl) (O1 (Ae Mf rfl rfl rfl) (O1 (B1 bd254 rfl rfl) ?_)))))));refine O1 (Aqi Aqj rfl) (OA rfl (Ab ?_));refine An ?_
  refine ⟨_,rfl,_,_,ag_ hw nl (fun _ _ => rfl),nl,.same (by show (true && ((AV.und (nx J) (slV eT 2 ks)) && true)) = true; rw [Ez Me]; rfl),?_,rfl⟩
  unfold Atp; rw [show ks.isEmpty = false by cases ks with | nil => exact absurd rfl e | cons => rfl]; rfl
theorem f96a (s : Str) (J : Sto) : Cv 96 [Bg (.node s [])] J (slV eT 2 []) := by
 refine Az Tryz.func96 rfl rfl fun hw hu0 => ?_
 refine Ac (Aa (Ar Bv rfl rfl rfl (OA rfl (Ab (Ac (Ac (Aa ?_)))))))
 refine O1 (Ae Bv rfl rfl (A9 (A2 _))) (Ap rfl rfl rfl rfl (f120 s [] _ (by decide)) ?_)
 refine Ab (Am (Ac (Aa (O1 (Ano Aqj (t' := 252) (v := sV s) rfl rfl) (O1 (Al rfl rfl) (O1 (Al rfl rfl) (Ab ?_)))))));refine Ah rfl ?_ ?_ <;> intro h1
 ·exact absurd h1 (by simp)
 ·skip
  refine Ac (Aa (O1 (Ahh Ato rfl) (O1 (Al rfl rfl) (O1 (Al rfl rfl) (Ab ?_)))));refine Ah rfl ?_ ?_ <;> intro h2
  ·skip
   refine Aa (OA rfl (Ab (Ac (Aa (OA rfl (Ab ?_))))));refine An ?_;exact ⟨_,rfl,_,_,ag_ hw nl (fun _ _ => rfl),nl,Ds,rfl,rfl⟩
  ·exact absurd h2 (by simp)
theorem f96b (s : Str) (k : Au) (ks : List Au) (J : Sto) (hb : (k :: ks).length < 1000000) : Cv 96 [Bg (.node s (k :: ks))] J (slV eT 2 (k :: ks)) := by
 refine Az Tryz.func96 rfl rfl fun hw hu0 => ?_
 refine Ac (Aa (Ar Bv rfl rfl rfl (OA rfl (Ab (Ac (Ac (Aa ?_)))))));refine O1 (Ae Bv rfl rfl (A9 (A2 _))) (Ap rfl rfl rfl rfl (f120 s (k :: ks) _ hb) (Ab (Am (Ac (Aa (O1 (Ahh Aqj rfl) (O1 (Al rfl rfl) ?_)))))));refine O1 (Al rfl rfl) (Ab ?_);refine Ah rfl ?_ ?_ <;> intro h1
 ·skip
  refine Ac (Aa (Bz zi254 ld254 rfl (fun _ => rfl) rfl rfl rfl rfl ?_))
  refine Ab (Ac (Aa (O1 (Ad Asb rfl rfl) (O1 (Ae Mf rfl rfl rfl) (OA rfl (Ab ?_))))));refine An ?_;exact ⟨_,rfl,_,_,ag_ hw nl (fun _ _ => rfl),nl,.same (show AV.und (nx J) (slV eT 2 (k :: ks)) = true from Ez Me _),rfl,rfl⟩
 ·exact absurd h1 (by simp)
theorem f96 (s : Str) (ks : List Au) (J : Sto) (hb : ks.length < 1000000) : Cv 96 [Bg (.node s ks)] J (slV eT 2 ks) := by
 cases ks with
 | nil => exact f96a s J
 | cons k ks => exact f96b s k ks J hb
mutual
def hT : Au -> Nat
 | .node _ ks => 1 + hL ks
def hL : List Au -> Nat
 | [] => 0
 | t :: r => max (hT t) (hL r)
end
theorem Aqr : ∀ (l m : List Au),hL (l ++ m) = max (hL l) (hL m)
 | [],m => by simp [hL]
 | t :: r,m => by simp only [av_,hL,Aqr r m]; omega
mutual
theorem Aqs : ∀ t : Au,hT t <= Bw t
 | .node _ ks => by unfold hT Bw; have := Aqt ks; omega
theorem Aqt : ∀ l : List Au,hL l <= Dh l
 | [] => nl
 | t :: r => by unfold hL Dh; have := Aqs t; have := Aqt r; omega
end
mutual
theorem Atq : ∀ (t : Au) (lv : Nat),dpT t lv + 1 = lv + hT t
 | .node _ ks,lv => by unfold dpT hT; have := Atr ks (lv + 1) lv nl; omega
theorem Atr : ∀ (l : List Au) (lv d : Nat),lv <= d + 1 -> dpL l lv d + 1 = max (d + 1) (lv + hL l)
 | [],lv,d,h => by unfold dpL hL; omega
 | t :: r,lv,d,h => by
  unfold dpL hL;have h1 := Atq t lv;rw [Atr r lv (max d (dpT t lv)) Om];omega
end
theorem f74n (s : Str) (ks : List Au) (J : Sto) (hb : Bw (.node s ks) <= 100000) (ih : ∀ k ∈ ks,Cv 74 [Bg k] J (.tup [iV (.ofNat (Bw k)),iV (.ofNat (hT k))])) : Cv 74 [Bg (.node s ks)] J (.tup [iV (.ofNat (Bw (.node s ks))),iV (.ofNat (hT (.node s ks)))]) := by
 have hlk := Jl ks
 have hck : 1 + Dh ks <= 100000 := by unfold Bw at hb; exact hb
 refine Az Tryz.func74 rfl rfl fun hw hu0 => ?_
 refine Ac (Aa (Ar Bv rfl rfl rfl (OA rfl (OA rfl (Ab (Ac (Ac ?_)))))));refine Aa (O1 (Ae Bv rfl rfl (A9 (A2 _))) (Ap rfl rfl rfl rfl (f96 s ks _ Om) ?_));refine O1 (Aq Wd rfl) (OM rfl (Ab (Am ?_)));refine B8 ks.length (fun i0 => [(2,iV (.ofNat (Dh (ks.take i0)))),(3,iV (.ofNat (hL (ks.take i0)))),(9,slV eT 2 ks),(10,iV (.ofNat ks.length)),(11,iV (.ofNat i0))]) (fun i0 J0 => J0 = J) SL rfl ?_
 rintro i0 J0 hi0 rfl;refine Ac (Aa (O1 (A8 ok3 rfl rfl) (Ab (Ac ?_))));refine Ah rfl ?_ ?_ <;> intro h1
 ·have bf : i0 < ks.length := by simpa using h1
  obtain ⟨a0,ha0⟩ := Bt bf;have hd0 := Bh ha0;have hct := Mn ha0
  have e4 : Int.ofNat (Dh (ks.take i0) + Bw a0) = Int.ofNat (Dh (ks.take (i0 + 1))) := by rw [Ci ha0,Mm]; simp only [Dh,am_]; omega
  have e5 : max (Int.ofNat (hL (ks.take i0))) (Int.ofNat (hT a0)) = Int.ofNat (hL (ks.take (i0 + 1))) := by rw [Ci ha0,Aqr]; simp only [hL,am_]; omega
  refine Ai (Ac (Am (Ac (Aa (O1 (Ax Aai A2 rfl rfl ha0) (O1 (Ae Bv rfl rfl (Cj (A2 a0) _)) (Bz Sk Bv rfl (fun _ => rfl) rfl (Bj (A2 a0)) rfl rfl ?_)))))))
  refine Ab (Ac (Aa (O1 (Ae Bv rfl rfl (A9 (A2 _))) (Ap rfl rfl rfl rfl (ih a0 (af_ ha0)) (OM rfl (O1 (Al rfl rfl) (O1 (Al rfl rfl) ?_)))))));refine OA rfl (OA rfl (Ab (Aa (OM rfl (OM rfl (O1 (Ay ok3 rfl rfl Om) ?_))))));refine OM rfl (OM rfl (O1 (Ao5 ok3 rfl rfl) (OA rfl (OA rfl (Ab (Aa (O1 (Ay (q := 1) ok3 rfl rfl Om) ?_)))))));refine OM rfl (Ab ?_);refine ⟨bf,⟨congrArg (fun x => some (iV x)) e4,congrArg (fun x => some (iV x)) e5,rfl,rfl,rfl,trivial⟩,rfl⟩
 ·have bq : ks.length <= i0 := by simpa using h1
  rw [at_ bq];have hhl := Aqt ks;refine Ba ?_;refine Ac (Aa (OM rfl (O1 (Ay (q := 1) ok3 rfl rfl Om) ?_)));refine OM rfl (O1 (Ay (q := 1) ok3 rfl rfl Om) ?_);refine OA rfl (OA rfl (Ab ?_));refine An (Bq hw rfl ?_);unfold Bw hT; rw [en_ 1 (Dh ks),en_ 1 (hL ks)]; rfl
theorem f74 (t : Au) (J : Sto) (hb : Bw t <= 100000) : Cv 74 [Bg t] J (.tup [iV (.ofNat (Bw t)),iV (.ofNat (hT t))]) := by
 revert hb
 refine Au.ind' (P := fun t => Bw t <= 100000 -> Cv 74 [Bg t] J (.tup [iV (.ofNat (Bw t)),iV (.ofNat (hT t))])) ?_ t
 intro s ks ih hb;refine f74n s ks J hb fun k hk => ih k hk ?_
 have := Mo hk;unfold Bw at hb;omega
theorem f49 (t : Au) (J : Sto) (hb : Bw t <= 4000) (hh : hT t <= 100) : Cv 49 [Bg t] J (iV 0) := by
 refine Az Tryz.func49 rfl rfl fun hw hu0 => ?_
 refine Ac (Aa (Ar Bv rfl (Bj (A2 t)) rfl (OA rfl (Ab (Ac (Aa (O1 (Ae Bv rfl rfl (A9 (A2 _))) ?_)))))));refine Ap rfl rfl rfl rfl (f74 t _ Om) ?_;refine OM rfl (O1 (Al rfl rfl) (O1 (Al rfl rfl) (OA rfl (OA rfl (Ab (Ac (Am ?_)))))));refine Ac (Aa (OM rfl (O1 (Ca (q := 4000) ok3 rfl rfl) (OA rfl (Ab ?_)))));refine Ah rfl ?_ ?_ <;> intro h1
 ·exact absurd h1 (by simp only [am_,decide_eq_true_eq]; omega)
 ·skip
  refine Ac (Aa (OM rfl (O1 (Ca (q := 100) ok3 rfl rfl) (OA rfl (Ab ?_)))));refine Ah rfl ?_ ?_ <;> intro h2
  ·exact absurd h2 (by simp only [am_,decide_eq_true_eq]; omega)
  ·skip
   refine Ai (Ac (Aa (OA rfl (Ab ?_))));refine An (Bq hw rfl ?_)
   rfl
theorem f97n (s : Str) (ks : List Au) (lv : Nat) (J : Sto) (hb : Bw (.node s ks) <= 4000) (hlv : lv <= 100000) (ih : ∀ k ∈ ks,Cv 97 [Bg k,iV (.ofNat (lv + 1))] J (.tup [iV (.ofNat (Bw k)),iV (.ofNat (dpT k (lv + 1)))])) : Cv 97 [Bg (.node s ks),iV (.ofNat lv)] J (.tup [iV (.ofNat (Bw (.node s ks))),iV (.ofNat (dpT (.node s ks) lv))]) := by
 have hlk := Jl ks
 have hck : 1 + Dh ks <= 4000 := by unfold Bw at hb; exact hb
 rw [Gi];refine Az Tryz.func97 rfl rfl fun hw hu0 => ?_
 refine Ac (Aa (Ar Bv rfl rfl rfl (OA rfl (OA rfl (Ab (Ac (Aa ?_)))))));refine OM rfl (OA rfl (OA rfl (Ab (Ac (Ac (Aa (O1 (Ad Gg rfl rfl) ?_)))))));refine O1 (Ae Mf rfl rfl rfl) (O1 (Aq Wd rfl) (OM rfl (Ab (Am ?_))))
 refine B8 ks.length (fun i0 => [(1,iV (.ofNat lv)),(4,iV (.ofNat (1 + Dh (ks.take i0)))),(5,iV (.ofNat (dpL (ks.take i0) (lv + 1) lv))),(12,slV eT 2 ks),(13,iV (.ofNat ks.length)),(14,iV (.ofNat i0))]) (fun i0 J0 => J0 = J) ⟨rfl,congrArg (fun x => some (iV x)) (show Int.ofNat 1 = Int.ofNat (1 + Dh (ks.take 0)) by simp [Dh]),congrArg (fun x => some (iV x)) (show Int.ofNat lv = Int.ofNat (dpL (ks.take 0) (lv + 1) lv) by simp [dpL]),rfl,rfl,rfl,trivial⟩ rfl ?_
 rintro i0 J0 hi0 rfl;refine Ac (Aa (O1 (A8 ok3 rfl rfl) (Ab (Ac ?_))));refine Ah rfl ?_ ?_ <;> intro h1
 ·have bf : i0 < ks.length := by simpa using h1
  obtain ⟨a0,ha0⟩ := Bt bf;have hd0 := Bh ha0;have hct := Mn ha0
  have e4 : Int.ofNat (1 + Dh (ks.take i0) + Bw a0) = Int.ofNat (1 + Dh (ks.take (i0 + 1))) := by rw [Ci ha0,Mm]; simp only [Dh,am_]; omega
  have e5 : max (Int.ofNat (dpL (ks.take i0) (lv + 1) lv)) (Int.ofNat (dpT a0 (lv + 1))) = Int.ofNat (dpL (ks.take (i0 + 1)) (lv + 1) lv) := by rw [Ci ha0,Al1]; simp only [dpL,am_]; omega
  refine Ai (Ac (Am (Ac (Aa (O1 (Ax Aai A2 rfl rfl ha0) (O1 (Ae Bv rfl rfl (Cj (A2 a0) _)) (Bz Sk Bv rfl (fun _ => rfl) rfl (Bj (A2 a0)) rfl rfl ?_)))))))
  refine Ab (Ac (Ac (Aa (OM rfl (O1 (Ca (q := 4000) ok3 rfl rfl) (Ab ?_))))));refine Ah rfl ?_ ?_ <;> intro h2
  ·exact absurd h2 (by simp only [am_,decide_eq_true_eq]; omega)
  ·skip
   refine Ai (Ac (Aa (O1 (Ae Bv rfl rfl (A9 (A2 _))) (OM rfl (O1 (Ay (q := 1) ok3 rfl rfl Om) ?_)))));refine Ap rfl rfl rfl rfl (ih a0 (af_ ha0)) (OM rfl (O1 (Al rfl rfl) (O1 (Al rfl rfl) (OA rfl (OA rfl (Ab (Aa ?_)))))));refine OM rfl (OM rfl (O1 (Ay ok3 rfl rfl Om) ?_));refine OM rfl (OM rfl (O1 (Ao5 ok3 rfl rfl) (OA rfl (OA rfl (Ab (Aa (O1 (Ay (q := 1) ok3 rfl rfl Om) ?_)))))));refine OM rfl (Ab ?_);refine ⟨bf,⟨rfl,congrArg (fun x => some (iV x)) e4,congrArg (fun x => some (iV x)) e5,rfl,rfl,rfl,trivial⟩,rfl⟩
 ·have bq : ks.length <= i0 := by simpa using h1
  refine Ba ?_;refine Ac (Aa (OM rfl (OM rfl (OA rfl (OA rfl (Ab ?_))))));refine An (Bq hw rfl ?_);rw [at_ bq]; unfold Bw dpT; rfl
theorem f97 (t : Au) (J : Sto) : ∀ lv,lv + Bw t <= 100000 -> Bw t <= 4000 -> Cv 97 [Bg t,iV (.ofNat lv)] J (.tup [iV (.ofNat (Bw t)),iV (.ofNat (dpT t lv))]) := by
 refine Au.ind' (P := fun t => ∀ lv,lv + Bw t <= 100000 -> Bw t <= 4000 -> Cv 97 [Bg t,iV (.ofNat lv)] J (.tup [iV (.ofNat (Bw t)),iV (.ofNat (dpT t lv))])) ?_ t
 intro s ks ih lv h1 h2;refine f97n s ks lv J h2 Om fun k hk => ?_
 have := Mo hk;unfold Bw at h1 h2;exact ih k hk (lv + 1) Om Om
theorem f79 (l : List Rl) (J : Sto) (hb : l.length < 1000000) : A6 Ew 79 [slV eR 4 l] J fun v J' => Own J' (nx J) eR 4 l v /\ Below (nx J) J J' := by
 refine Az Tryz.func79 rfl rfl fun hw hu0 => ?_
 refine Ac (Aa (OA rfl (Ab (Ac (Ac (Aa (OM rfl ?_)))))));refine T9 X0 rfl rfl fun b hbn => ?_
 refine Ab ?_;refine Ah rfl ?_ ?_ <;> intro h1
 ·refine Ac (Aa (OA rfl (Ab ?_)));obtain rfl := be_ (hbn h1);refine An ?_;exact ⟨_,rfl,_,J,ag_ hw nl (fun _ _ => rfl),nl,.same rfl,.nil,.rfl'⟩
 ·refine Ai (Ac (Aa ?_))
  obtain ⟨v,τ,c8,bn,ba,_⟩ := ej_ (enc := eR) (sz := 4) (l := ([] : List Rl)) (by' := 64) (N := nx J) (fun s => rfl) nl (Own.emp (enc := eR) (sz := 4)) l (by simp [sizeLim]; omega)
  refine O1 (Bn La byW rfl rfl rfl) (OM rfl (O1 (B0 La rfl X0 rfl rfl rfl (Ue (enc := eR) (sz := 4) (fun _ => rfl) _ l) c8) ?_))
  refine OA rfl (Ab ?_);refine Dp fun hw' => Ao1 (i := 2) rfl fun hu => ?_
  refine An ?_;exact ⟨_,rfl,_,_,ag_ hw' nl (fun _ _ => rfl),ba.1,.same hu,bn,ba⟩
theorem f72o (p : Rl -> Bool) (l : List Rl) (a : Nat) (tl : List AV) (k : Nat) (cap : List AV) (J : Sto) (hb : l.length < 1000000) (hg : J.get a = some (.cells (l.flatMap eR ++ tl))) (hk : ∀ x ∈ l,A6 Ew k ([.agg (eR x)] ++ cap) J fun v J' => v = .bool (p x) /\ J' = J) : Cv 72 [.sr a 0 4 l.length none,.fn (.func k) [] cap] J (iV (A7 p l 0)) := by
 refine Az Tryz.func72 rfl rfl fun hw hu0 => ?_
 refine Ac (Aa (OA rfl (Ab (Ac (Ac (Aa (OM rfl ?_)))))));refine O1 (Em X0 rfl rfl rfl) (OM rfl (Ab (Am ?_)));refine B8 l.length (fun i0 => [(0,.sr a 0 4 l.length none),(1,.fn (.func k) [] cap),(7,iV (.ofNat l.length)),(8,iV (.ofNat i0))]) (fun i0 J0 => J0 = J /\ A7 p l 0 = A7 p (l.drop i0) i0) SL ⟨rfl,rfl⟩ ?_
 rintro i0 J0 hi0 ⟨rfl,hf0⟩;refine Ac (Aa (O1 (A8 ok3 rfl rfl) (Ab (Ac ?_))));refine Ah rfl ?_ ?_ <;> intro h1
 ·have bf : i0 < l.length := by simpa using h1
  obtain ⟨a0,ha0⟩ := Bt bf;have hd0 := Bh ha0;refine Ai (Ac (Am (Ac (Aa (OM rfl (OA rfl (Ab ?_)))))));refine Ac (Aa (OM rfl (OM rfl (OM rfl (O1 (Ie La rfl rfl bf) (O1 (Qb (enc := eR) (v := .agg (eR a0)) (fun _ => rfl) Ey rfl hg ha0 (fun _ => rfl)) ?_))))))
  refine Ap rfl rfl rfl rfl (hk a0 (af_ ha0)) (Ab ?_);refine Ah rfl ?_ ?_ <;> intro h2
  ·refine Ac (Aa (OM rfl (OA rfl (Ab ?_))));refine An (Bq hw rfl ?_)
   exact (by rw [hf0,hd0]; simp only [A7,h2,cond_true]; rfl)
  ·refine Ai (Aa (O1 (Ay (q := 1) ok3 rfl rfl Om) ?_));refine OM rfl (Ab ?_)
   refine ⟨bf,SL,rfl,by rw [hf0,hd0]; simp only [A7,h2,cond_false]⟩
 ·have bq : l.length <= i0 := by simpa using h1
  refine Ba ?_;refine Ac (Aa (OA rfl (Ab ?_)));refine An (Bq hw rfl ?_)
  exact (by rw [hf0,ah_ bq]; rfl)
theorem f78e (k : Nat) (cap : List AV) (v₀ : AV) (hv : v₀ = .nil (.slice none 0 0) ∨ v₀ = .sv [] 4 0 (some 0)) (J : Sto) : Cv 78 [v₀,.fn (.func k) [] cap] J v₀ := by
 refine Az Tryz.func78 rfl rfl fun hw hu0 => ?_
 refine Ac (Aa (OA rfl (Ab (Ac (Aa (OM rfl (OM rfl ?_)))))))
 refine Ap rfl rfl rfl rfl ((f72 (fun _ => false) [] k cap J (by simp) (fun a ha => by simp at ha)).wk (.cons (by rcases hv with rfl | rfl <;> first | exact Z2 | exact Gd) .refl)) ?_
 refine OA rfl (Ab (Ac (Ac (Aa (OM rfl (O1 (Do (q := (-1)) ok3 rfl rfl) (Ab ?_)))))));refine Ah rfl ?_ ?_ <;> intro h1
 ·refine Ac (Aa (OM rfl (OA rfl (Ab ?_))));refine An ?_
  exact ⟨_,rfl,_,_,ag_ hw nl (fun _ _ => rfl),nl,.same (by rcases hv with rfl | rfl <;> rfl),rfl,rfl⟩
 ·exact absurd h1 (by simp [A7])
theorem f78o (p : Rl -> Bool) (l : List Rl) (a N : Nat) (tl : List AV) (k : Nat) (cap : List AV) (J : Sto) (hb : l.length < 1000000) (hN : N <= a) (hg : J.get a = some (.cells (l.flatMap eR ++ tl))) (hk : ∀ x ∈ l,∀ τ,(∀ b,b < N -> τ.get b = J.get b) -> nx τ = nx J -> A6 Ew k ([.agg (eR x)] ++ cap) τ fun v J' => v = .bool (p x) /\ J' = τ) : A6 Ew 78 [.sr a 0 4 l.length none,.fn (.func k) [] cap] J fun v J' => Own J' N eR 4 (Dy p l) v /\ Below N J J' := by
 refine Az Tryz.func78 rfl rfl fun hw hu0 => ?_
 have cy := (hw _ _ hg).1;refine Ac (Aa (OA rfl (Ab (Ac (Aa (OM rfl (OM rfl ?_)))))));refine Ap rfl rfl rfl rfl (f72o p l a tl k cap _ hb hg (fun x hx => hk x hx _ (fun _ _ => rfl) rfl)) ?_
 refine OA rfl (Ab (Ac (Ac (Aa (OM rfl (O1 (Do (q := (-1)) ok3 rfl rfl) (Ab ?_)))))));refine Ah rfl ?_ ?_ <;> intro h1
 ·refine Ac (Aa (OM rfl (OA rfl (Ab ?_))))
  obtain hs : Dy p l = l := Um ((Hg (p := p) l 0).resolve_right (fun ⟨n,x,hf,_⟩ => by rw [hf] at h1; simp at h1)).2
  refine An ?_
  exact ⟨_,rfl,_,_,ag_ hw nl (fun _ _ => rfl),nl,.same (Dk cy),.inr ⟨a,tl,hN,cy,by rw [hs]; rfl,by rw [hs]; exact hg⟩,.rfl'⟩
 ·rcases Hg (p := p) l 0 with ⟨hf,hno⟩ | ⟨n,x,hf,hx,hpx,hpb⟩
  ·rw [hf] at h1; exact absurd h1 (by simp)
  obtain ⟨hst,f0⟩ := Ri.start hx hpx hpb;have hn := (ae_.1 hx).1;rw [hf,bf_];refine Ai (Ac (Ac (Aa (OM rfl (O1 (Ay (q := 1) ok3 rfl rfl Om) ?_)))));refine OA rfl (Ab (Am ?_));refine Fi (fun q : Nat × Nat => [(0,.sr a 0 4 l.length none),(1,.fn (.func k) [] cap),(5,iV (.ofNat q.2)),(6,iV (.ofNat q.1))])
   (fun q J0 => q.1 <= l.length /\ q.2 = (Dy p (l.take q.1)).length /\ nx J0 = nx J /\ (∀ b,b ≠ a -> J0.get b = J.get b) /\ ∃ c,Ri p l c q.1 /\ J0.get a = some (.cells (c.flatMap eR ++ tl))) (fun q => l.length - q.1) (n + 1,n) SL ⟨hn,hst.symm,rfl,fun _ _ => rfl,l,f0,hg⟩ ?_
  rintro ⟨j,w⟩ J0 ⟨hjl,hw0,hnx,b7,c,hdi,hc⟩;simp only at hjl hw0 hdi;refine Ac (Ac (Aa (OM rfl (OM rfl (O1 (Em X0 rfl rfl rfl) (O1 (A8 ok3 rfl rfl) (Ab ?_)))))));refine Ah rfl ?_ ?_ <;> intro h2
  ·have bf : j < l.length := by simpa using h2
   obtain ⟨b,hb0⟩ := Bt bf;have hcb := hdi.at.trans hb0
   have hwl : w <= j := by rw [hw0]; exact ax_ Fy (by rw [bl_]; omega)
   refine Ai (Ac (Am (Ac (Aa (OM rfl (OM rfl (O1 (Ie La rfl rfl bf) ?_)))))));refine O1 (Qb (enc := eR) (v := .agg (eR b)) (fun _ => rfl) Ey rfl hc hcb (fun _ => rfl)) ?_
   refine Bz X1 Ey rfl (fun _ => rfl) rfl rfl rfl rfl ?_
   refine Ab (Ac (Aa (OM rfl (O1 (Ae Ey rfl rfl rfl) (Ap rfl rfl rfl rfl (hk b (af_ hb0) J0 (fun b' hb' => b7 b' Om) hnx) ?_)))))
   refine O1 (Bb rfl) (Ab ?_);refine Ah rfl ?_ ?_ <;> intro h3
   ·have h4 : p b = false := by simpa using h3
    obtain ⟨e1,e2,e3⟩ := hdi.keep hb0 h4;rw [← hw0] at e1 e2 e3;refine Ac (Aa (OM rfl (OM rfl (O1 (Ae Ey rfl rfl rfl) (O1 (Ie La rfl rfl Om) ?_)))));refine O1 (Aja (enc := eR) (u := b) (fun _ => rfl) Ey rfl rfl rfl hc e2) ?_
    refine Ab (Aa (OM rfl (O1 (Ay (q := 1) ok3 rfl rfl Om) ?_)));refine OA rfl (Ab (Aa (OM rfl (O1 (Ay (q := 1) ok3 rfl rfl Om) ?_))));refine OA rfl (Ab ?_)
    refine ⟨(j + 1,w + 1),by show l.length - (j + 1) < l.length - j; omega,SL,bf,e1.symm,by rw [Ak]; exact hnx,fun b' hb' => by rw [a_,if_neg hb']; exact b7 b' hb',c.set w b,e3,by rw [a_,if_pos rfl]⟩
   ·have h4 : p b = true := by simpa using h3
    obtain ⟨e1,e2⟩ := hdi.out hb0 h4;rw [← hw0] at e1;refine Ai (Aa (OM rfl (O1 (Ay (q := 1) ok3 rfl rfl Om) ?_)));refine OA rfl (Ab ?_)
    refine ⟨(j + 1,w),by show l.length - (j + 1) < l.length - j; omega,SL,bf,e1.symm,hnx,b7,c,e2,hc⟩
  ·have bq : j = l.length := by
    have h4 : ¬ (j < l.length) := by simpa using h2
    omega
   have hwl : w <= l.length := by rw [hw0]; exact ax_ Fy (by rw [bl_]; omega)
   refine Ba ?_
   refine Ac (Aa (OM rfl (OM rfl (O1 (Z9 La rfl rfl hwl) (O1 (Vz (enc := eR) (l := c) (b := w) (fun _ => rfl) La rfl rfl hc (by rw [hdi.len]; omega)) ?_)))))
   refine Ab (Ac (Aa (OM rfl (OM rfl (O1 (Ud La rfl rfl hwl) (OA rfl (Ab ?_)))))))
   have hs : Dy p (l.take j) = Dy p l := by rw [bq,eg_]
   rw [hs] at hw0;have dy := hdi.fst;rw [hs,← hw0] at dy;refine Dp fun hw' => ?_
   refine An ?_
   refine ⟨_,rfl,_,_,ag_ hw' nl (fun _ _ => rfl),ff_ (by rw [Ak,hnx]),.same (Dk (by rw [Ak,hnx]; exact cy)),.inr ⟨a,rep [.str [],.str [],.nil (.slice none 0 0),.bool false] (l.length - w) ++ tl,hN,by rw [Ak,hnx]; exact cy,by rw [← hw0]; rfl,?_⟩,⟨ff_ (by rw [Ak,hnx]),fun b hb' => by rw [a_,if_neg Om]; exact b7 b Om⟩⟩
   rw [a_,if_pos rfl,dy]
theorem f78 (p : Rl -> Bool) (l : List Rl) (N : Nat) (k : Nat) (cap : List AV) (v₀ : AV) (J : Sto) (h : Own J N eR 4 l v₀) (hb : l.length < 1000000) (hk : ∀ x ∈ l,∀ τ,(∀ b,b < N -> τ.get b = J.get b) -> nx τ = nx J -> A6 Ew k ([.agg (eR x)] ++ cap) τ fun v J' => v = .bool (p x) /\ J' = τ) :
  A6 Ew 78 [v₀,.fn (.func k) [] cap] J fun v J' => Own J' N eR 4 (Dy p l) v /\ Below N J J' := by
 rcases h with ⟨rfl,hv⟩ | ⟨a,tl,h1,h2,rfl,h4⟩
 ·exact (f78e k cap v₀ hv J).mono fun v τ ⟨e1,e2⟩ => by subst e1 e2; exact ⟨.inl ⟨rfl,hv⟩,.rfl'⟩
 ·exact f78o p l a N tl k cap J hb h1 h4 hk
theorem f59 (g : Gr) (J : Sto) (hb : g.rules.length < 1000000) : Cv 59 [grV g] J (slV eR 4 (axR g.rules)) := by
 refine Az Tryz.func59 rfl rfl fun hw hu0 => ?_
 refine Ac (Aa (Ar D3 rfl rfl rfl (OA rfl (Ab (Ac (Aa (O1 (Ad Gh rfl rfl) ?_)))))));refine O1 (Ae Qg rfl rfl rfl) (B4 rfl rfl rfl rfl (f79 g.rules _ hb) fun v τ ⟨bn,ba⟩ => ?_)
 refine B4 rfl rfl rfl rfl (f78 (fun r => r.var) g.rules (nx J) 80 [] v τ bn hb (fun x _ τ _ _ => f80 x τ)) fun v2 τ2 ⟨cj,bo⟩ => ?_
 refine OA rfl (Ab ?_);refine An ?_;exact ⟨_,rfl,slV eR 4 (axR g.rules),J,ap_ hw (ba.trans bo),nl,cj.fz (fun _ => rfl) (fun a ha => hw.none ha) (Co Nv _),rfl,rfl⟩
def gpV (g : Gr) : AV := .pv [A3 g.sorts,slV eR 4 g.rules]
structure Wm (g : Gr) (Jb : Sto) (N b c : Nat) (acc : List Str) (J : Sto) : Prop where
 ex : ∃ w,J.get b = some (.cells [w]) /\ Own J N e1 1 acc w
 cl : J.get c = some (.cells [.fn (.func 60) [] [gpV g,.pr b 0,.pr c 0]])
 lo : ∀ a,a < N -> a ≠ b -> a ≠ c -> J.get a = Jb.get a
 nn : N <= nx J
mutual
theorem Ac9 {g : List Rl} : ∀ (t : Au) (acc : List Str),(D8 g t acc).length <= acc.length + Bw t
 | .node s ks,acc => by
  unfold D8 Bw;refine ax_ (Rd ks _) ?_
  split
  ·rw [az_,cw_]; omega
  ·omega
theorem Rd {g : List Rl} : ∀ (l : List Au) (acc : List Str),(Lo g l acc).length <= acc.length + Dh l
 | [],acc => nl
 | t :: r,acc => by
  unfold Lo Dh;have h1 := Rd (g := g) r (D8 g t acc);have h2 := Ac9 (g := g) t acc;omega
end
theorem Sr {g : List Rl} {a : Au} : ∀ (l : List Au) (acc : List Str),Lo g (l ++ [a]) acc = D8 g a (Lo g l acc)
 | [],acc => rfl
 | t :: r,acc => by simp only [av_,Lo,Sr r]
theorem f60n (g : Gr) (s : Str) (ks : List Au) (acc : List Str) (Jb J : Sto) (N b c : Nat) (hS : Wm g Jb N b c acc J) (hbN : b < N) (hcN : c < N) (hcb : c ≠ b) (hgr : g.rules.length < 1000000) (hb : acc.length + Bw (.node s ks) <= 100000) (ih : ∀ k ∈ ks,∀ acc J,Wm g Jb N b c acc J -> acc.length + Bw k <= 100000 -> A6 Ew 60 [Bg k,gpV g,.pr b 0,.pr c 0] J fun v J' => v = .tup [] /\ Wm g Jb N b c (D8 g.rules k acc) J' /\ nx J <= nx J') : A6 Ew 60 [Bg (.node s ks),gpV g,.pr b 0,.pr c 0] J fun v J' => v = .tup [] /\ Wm g Jb N b c (D8 g.rules (.node s ks) acc) J' /\ nx J <= nx J' := by
 have hlk := Jl ks
 have hck : acc.length + (1 + Dh ks) <= 100000 := by unfold Bw at hb; exact hb
 rw [Gi];obtain ⟨w,hgb,bn⟩ := hS.ex;refine Az Tryz.func60 rfl rfl fun hw hu0 => ?_
 refine Ac (Aa (Ar Bv rfl rfl rfl (Ab ?_)))
 obtain ⟨r,hcA,hvb⟩ : ∃ r : Rl,(0 <= A7 (fun r => decide (r.label = s)) g.rules 0 -> ∃ n,A7 (fun r => decide (r.label = s)) g.rules 0 = Int.ofNat n /\ g.rules[n]? = some r) /\ ((decide ((0 : Int) <= A7 (fun r => decide (r.label = s)) g.rules 0) && r.var) && !acc.any fun x => decide (s = x)) = (I3 g.rules s && !acc.any fun x => decide (s = x)) := by
  unfold I3
  rcases Nx (l := g.rules) (s := s) with ⟨e1,e2⟩ | ⟨n,r,e1,e2,e3⟩
  ·exact ⟨⟨[],[],[],false⟩,fun h => absurd (e1 ▸ h) (by decide),by rw [e1,e2]; rfl⟩
  ·exact ⟨r,fun _ => ⟨n,e1,e2⟩,by rw [e1,e3,show decide ((0 : Int) <= Int.ofNat n) = true by simp]; rfl⟩
 refine Ac (Ac (Aa (O1 (Ae D3 rfl rfl rfl) (O1 (Ad I1 rfl rfl) (O1 (Ae ld9 rfl rfl rfl) (Ap rfl rfl rfl rfl (f48 g s _ hgr) (OA rfl ?_)))))));refine Ab (Ac (Aa (OM rfl (O1 (Eq (q := 0) ok3 rfl rfl) (OM rfl ?_)))));refine Cy 6 _ ?_ rfl rfl rfl rfl rfl (Aw rfl) (fun hg => ?_) (fun hg => ?_) ?_
 rotate_left
 ·obtain ⟨n,hfn,hrn⟩ := hcA (of_decide_eq_true hg);refine On hg (Ad Gh rfl rfl) (On hg (Ae Qg rfl rfl rfl) (On hg (Ag rfl) (On hg (Ax (i := n) La (fun _ => rfl) rfl (congrArg (fun x => some (AV.int .i64 x)) hfn) hrn) ?_)))
  refine On hg (Ad Aan rfl rfl) (On hg (Ae ld4 rfl rfl rfl) (Ab ?_));refine ⟨rfl,?_,?_⟩
  ·exact sb
  ·exact rfl
 ·refine Of hg (Of hg (Of hg (Of hg (Of hg (Of hg (Ab ?_))))));exact ⟨rfl,sb⟩
 refine OM rfl ?_;refine Cy 5 _ ?_ rfl rfl rfl rfl rfl (Aw rfl) (fun hg => ?_) (fun hg => ?_) ?_
 rotate_left
 ·refine On hg (Df hgb Ce rfl rfl) (On hg (Ad I1 rfl rfl) (On hg (Ae ld9 rfl rfl rfl) (B5 rfl rfl rfl (by rw [hg]; rfl) rfl rfl rfl rfl (Aqm acc s w _ bn Om) ?_)))
  refine On hg (Bb rfl) (Ab ?_);refine ⟨rfl,?_,?_⟩
  ·exact sb
  ·exact rfl
 ·refine Of hg (Of hg (Of hg (Of hg (Of hg (Ab ?_)))));exact ⟨rfl,sb⟩
 refine Ab ?_;refine Ah rfl ?_ ?_ <;> intro h1
 ·have gq : (I3 g.rules s && !acc.any fun x => decide (s = x)) = true := by rw [← hvb]; exact h1
  have mg : (acc ++ [s]).length = acc.length + 1 := by simp
  obtain ⟨v1,τ1,hap,ho1,hb1,hk1⟩ := bn.app (by' := 16) (enc := e1) (sz := 1) (fun _ => rfl) hS.nn [s] (by simp only [cw_,sizeLim]; omega)
  have n6 : τ1.get b = some (.cells [w]) := (hb1.2 _ hbN).trans hgb
  have hS1 : Wm g Jb N b c (Lo g.rules (ks.take 0) (acc ++ [s])) (τ1.set b (.cells [v1])) := ⟨⟨v1,by rw [a_,if_pos rfl],ho1.mono (by rw [Ak]; exact nl) fun a tl _ h8 h9 _ => by rw [a_,if_neg Om]⟩,by rw [a_,if_neg hcb,hb1.2 _ hcN]; exact hS.cl,fun a ha hab hac => by rw [a_,if_neg hab,hb1.2 _ ha]; exact hS.lo a ha hab hac,by rw [Ak]; exact ax_ hS.nn hb1.1⟩
  have da : nx J <= nx (τ1.set b (.cells [v1])) := by rw [Ak]; exact hb1.1
  refine Aa (O1 (Df hgb Ce rfl rfl) (O1 (Ad I1 rfl rfl) (O1 (Ae ld9 rfl rfl rfl) (E6 (Bn Da byW rfl rfl rfl) (Gd (len := 1)) rfl rfl (O1 (B0 Da rfl Ee rfl rfl rfl (new := e1 s) rfl hap) (O1 (Dg n6 Ce rfl rfl (Mi ho1) rfl) (Ab ?_)))))));refine Ac (Aa (O1 (Ad Gg rfl rfl) (O1 (Ae Mf rfl rfl rfl) (O1 (Aq Wd rfl) (OM rfl (Ab (Am ?_)))))));refine B8 ks.length (fun i0 => [(3,.pr c 0),(35,slV eT 2 ks),(36,iV (.ofNat ks.length)),(37,iV (.ofNat i0))]) (fun i0 J0 => Wm g Jb N b c (Lo g.rules (ks.take i0) (acc ++ [s])) J0 /\ nx J <= nx J0) SL ⟨hS1,da⟩ ?_
  rintro i0 J0 hi0 ⟨hS0,ey⟩;refine Ac (Aa (O1 (A8 ok3 rfl rfl) (Ab (Ac ?_))));refine Ah rfl ?_ ?_ <;> intro h2
  ·have bf : i0 < ks.length := by simpa using h2
   obtain ⟨a0,ha0⟩ := Bt bf;have hd0 := Bh ha0;have hct := Mn ha0;have hvl := Rd (g := g.rules) (ks.take i0) (acc ++ [s]);have jw := hS0.cl;refine Ai (Ac (Am (Ac (Aa (O1 (Ax Aai A2 rfl rfl ha0) (O1 (Ae Bv rfl rfl (Cj (A2 a0) _)) (Bz Sk Bv rfl (fun _ => rfl) rfl (Bj (A2 a0)) rfl rfl ?_)))))))
   refine Ab (Aa (O1 (Df jw Ak8 rfl rfl) (O1 (Ae Bv rfl rfl (A9 (A2 _))) (B4 rfl rfl rfl rfl (ih a0 (af_ ha0) _ _ hS0 Om) ?_))));rintro _ τ ⟨rfl,hSn,hnn⟩;refine Ab (Aa (O1 (Ay (q := 1) ok3 rfl rfl Om) ?_));refine OM rfl (Ab ?_)
   refine ⟨bf,SL,(by rw [Ci ha0,Sr]; exact hSn),ax_ ey hnn⟩
  ·have bq : ks.length <= i0 := by simpa using h2
   rw [at_ bq] at hS0;refine Dp fun hw1 => ?_
   refine Ba ?_
   exact ⟨[],rfl,.tup [],_,ag_ hw1 nl (fun _ _ => rfl),ey,.same rfl,rfl,by rw [D8,if_pos gq]; exact hS0,ey⟩
 ·have gq : ¬ (I3 g.rules s && !acc.any fun x => decide (s = x)) = true := by rw [← hvb]; exact fun hh => Bool.noConfusion (hh.symm.trans h1)
  have hS1 : Wm g Jb N b c (Lo g.rules (ks.take 0) acc) J := hS
  have mg : acc.length <= acc.length + 1 := by omega
  have da : nx J <= nx J := nl;refine Ai (Ac (Aa (O1 (Ad Gg rfl rfl) (O1 (Ae Mf rfl rfl rfl) (O1 (Aq Wd rfl) (OM rfl (Ab ?_)))))));refine Am ?_;refine B8 ks.length (fun i0 => [(3,.pr c 0),(35,slV eT 2 ks),(36,iV (.ofNat ks.length)),(37,iV (.ofNat i0))]) (fun i0 J0 => Wm g Jb N b c (Lo g.rules (ks.take i0) acc) J0 /\ nx J <= nx J0) SL ⟨hS1,da⟩ ?_
  rintro i0 J0 hi0 ⟨hS0,ey⟩;refine Ac (Aa (O1 (A8 ok3 rfl rfl) (Ab (Ac ?_))));refine Ah rfl ?_ ?_ <;> intro h2
  ·have bf : i0 < ks.length := by simpa using h2
   obtain ⟨a0,ha0⟩ := Bt bf;have hd0 := Bh ha0;have hct := Mn ha0;have hvl := Rd (g := g.rules) (ks.take i0) acc;have jw := hS0.cl;refine Ai (Ac (Am (Ac (Aa (O1 (Ax Aai A2 rfl rfl ha0) (O1 (Ae Bv rfl rfl (Cj (A2 a0) _)) (Bz Sk Bv rfl (fun _ => rfl) rfl (Bj (A2 a0)) rfl rfl ?_)))))))
   refine Ab (Aa (O1 (Df jw Ak8 rfl rfl) (O1 (Ae Bv rfl rfl (A9 (A2 _))) (B4 rfl rfl rfl rfl (ih a0 (af_ ha0) _ _ hS0 Om) ?_))));rintro _ τ ⟨rfl,hSn,hnn⟩;refine Ab (Aa (O1 (Ay (q := 1) ok3 rfl rfl Om) ?_));refine OM rfl (Ab ?_)
   refine ⟨bf,SL,(by rw [Ci ha0,Sr]; exact hSn),ax_ ey hnn⟩
  ·have bq : ks.length <= i0 := by simpa using h2
   rw [at_ bq] at hS0;refine Dp fun hw1 => ?_
   refine Ba ?_
   exact ⟨[],rfl,.tup [],_,ag_ hw1 nl (fun _ _ => rfl),ey,.same rfl,rfl,by rw [D8,if_neg gq]; exact hS0,ey⟩
theorem f60 (g : Gr) (Jb : Sto) (N b c : Nat) (hbN : b < N) (hcN : c < N) (hcb : c ≠ b) (hgr : g.rules.length < 1000000) (t : Au) : ∀ (acc : List Str) (J : Sto),Wm g Jb N b c acc J -> acc.length + Bw t <= 100000 ->
  A6 Ew 60 [Bg t,gpV g,.pr b 0,.pr c 0] J fun v J' => v = .tup [] /\ Wm g Jb N b c (D8 g.rules t acc) J' /\ nx J <= nx J' := by
 refine Au.ind' (P := fun t => ∀ (acc : List Str) (J : Sto),Wm g Jb N b c acc J -> acc.length + Bw t <= 100000 -> A6 Ew 60 [Bg t,gpV g,.pr b 0,.pr c 0] J fun v J' => v = .tup [] /\ Wm g Jb N b c (D8 g.rules t acc) J' /\ nx J <= nx J') ?_ t
 exact fun s ks ih acc J hS hb => f60n g s ks acc Jb J N b c hS hbN hcN hcb hgr hb ih
theorem f33 (g : Gr) (t : Au) (J : Sto) (hgr : g.rules.length < 1000000) (hb : Bw t <= 100000) : Cv 33 [grV g,Bg t] J (A3 (D8 g.rules t [])) := by
 refine Az Tryz.func33 rfl rfl fun hw hu0 => ?_
 refine Ac (Aa (Ar D3 rfl rfl rfl (Ar Bv rfl (Bj (A2 t)) rfl (OA rfl (Ab (Ac (Aa ?_)))))));refine O1 (Cw zi22) (Ab (Ac (Aa (O1 (Cw zi139) (Ab ?_)))));have da : nx (J.new (.cells [.nil (.slice none 0 0)])) = nx J + 1 := Aj _ _;rw [da]
 refine Ac (Aa (O1 (Fw rfl rfl) (O1 (Dg (a := nx J + 1) (off := 0) (cs := [.nil .nilFunc]) (cs' := [.fn (.func 60) [] [gpV g,.pr (nx J) 0,.pr (nx J + 1) 0]]) (by rw [ab_,if_pos da.symm]) Ak8 rfl rfl rfl rfl) ?_)))
 refine Ab ?_;have hS : Wm g J (nx J + 2) (nx J) (nx J + 1) [] (((J.new (.cells [.nil (.slice none 0 0)])).new (.cells [.nil .nilFunc])).set (nx J + 1) (.cells [.fn (.func 60) [] [gpV g,.pr (nx J) 0,.pr (nx J + 1) 0]])) :=
  ⟨⟨_,by rw [a_,if_neg Om,ab_,if_neg (by rw [da]; omega),ab_,if_pos rfl],.nil⟩,by rw [a_,if_pos rfl],fun a ha hab hac => by rw [a_,if_neg hac,ab_,if_neg (by rw [da]; omega),ab_,if_neg Om],by rw [Ak,Aj,Aj]; omega⟩
 refine Ac (Aa (O1 (Df hS.cl Ak8 rfl rfl) (O1 (Ae Bv rfl rfl (A9 (A2 _))) (B4 rfl rfl rfl rfl (f60 g J (nx J + 2) (nx J) (nx J + 1) Om Om Om hgr t [] _ hS (by simpa using hb)) ?_))))
 rintro _ τ ⟨rfl,hS2,hnn⟩;obtain ⟨w,hgb,bn⟩ := hS2.ex;refine Ab (Ac (Aa (O1 (Df hgb Ce rfl rfl) (OA rfl (Ab ?_)))));refine An ?_;exact ⟨_,rfl,A3 (D8 g.rules t []),J,ap_ hw ⟨ax_ Om hS2.nn,fun b hb => hS2.lo b Om Om Om⟩,nl,bn.fz (fun _ => rfl) (fun a ha => hw.none Om) (Co Nt _),rfl,rfl⟩
end Go.AM
