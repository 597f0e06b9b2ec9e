/- A part of the proof; shortened by program. -/
import Derived.ChangeArms
import Derived.SizedLaws
import Derived.OpenShut
import Derived.Test.YtadnlmhnjfmleaaGreatDoorP26
set_option maxRecDepth 100000
set_option maxHeartbeats 4000000
set_option linter.unusedSimpArgs false
set_option linter.unusedVariables false
namespace Go.AM
open Go Go.Proofs
theorem Aq.look {f : Nat} {args args' : List AV} {J : Sto} {p q : Int} (hz : FzL J ⟨.e,nx J⟩ args args')
  (h : Aq Ew f args' ⟨.e,nx J⟩ (fun v τ => v = .tup [iV p,iV q] /\ τ = ⟨.e,nx J⟩)) : Aq Ew f args J (fun v τ => v = .tup [iV p,iV q] /\ τ = J) := by
 have hu : ∀ (C C' : Ctx) (N N' : Nat) (w : World) (x : Value),R C N w (.tup [iV p,iV q]) x -> R C' N' w (.tup [iV p,iV q]) x := fun C C' N N' w x h => by
  unfold iV R RL at h ⊢;obtain ⟨a,h1,h2⟩ := h;refine ⟨a,h1,?_⟩;cases ha : a.toList with
  | nil => rw [ha] at h2; exact h2.elim
  | cons y r =>
   rw [ha] at h2;refine ⟨?_,?_⟩
   ·have := h2.1; unfold R at this ⊢; exact this
   ·cases r with
    | nil => have := h2.2; unfold RL at this; exact this.elim
    | cons z s =>
     have h3 := h2.2;unfold RL at h3 ⊢;refine ⟨?_,?_⟩
     ·have := h3.1; unfold R at this ⊢; exact this
     ·cases s with
      | nil => unfold RL; trivial
      | cons u v => have := h3.2; unfold RL at this; exact this.elim
 intro C w vs hs hg ha
 have hf : Hl J ⟨.e,nx J⟩ := ⟨nl,fun a O h => by cases h⟩
 obtain ⟨h1,h2⟩ := h (C.keep ⟨.e,nx J⟩) w vs (hs.frz hf) hg.frz (FzL.RL hs hz ha);refine ⟨h1,h2.mono fun e w' he => ?_⟩
 cases e with
 | returned x =>
  obtain ⟨v,τ',C',⟨rfl,rfl⟩,k1,k2,k3⟩ := he
  have bt : ∀ b,b < w.heap.size -> w'.heap[b]? = w.heap[b]? := fun b hb => by
   by_cases hr : (C.keep ⟨.e,nx J⟩).own b
   ·rcases hr with hr | ⟨a,o,hl⟩
    ·exact k2.res.2 b hr
    ·simp [Ctx.keep,Sto.get,Tr.get] at hl
   ·exact (k2.keep b hb hr).2
  obtain ⟨q1,q2⟩ := hs.same k2.size bt k2.os;exact ⟨_,J,C,⟨rfl,rfl⟩,q1,q2,hu _ _ _ _ _ _ k3⟩
 | panicked _ => exact he.elim
 | outgrown => exact he.elim
theorem Ar5 {s : Stc} (h : fewS s = true) : s.sorts.length <= 20 /\ s.syms.length <= 20 /\ ∀ y ∈ s.syms,y.vals.length <= 700 := by
 unfold fewS at h;simp only [ae_,decide_eq_true_eq,aj_,bl_] at h;obtain ⟨⟨h1,h2⟩,h3⟩ := h
 refine ⟨by omega,by omega,fun y hy => ?_⟩
 have := dq_.1 h3 y hy;unfold bigY at this;simp only [decide_eq_true_eq,aj_] at this;omega
theorem Atv {l : List Mg} (h : l.any Ap7 = false) : ∀ x ∈ l,x.vals.length <= 100 := fun x hx => by
 have := dq_.1 h x hx;unfold Ap7 at this;simp only [decide_eq_true_eq,aj_] at this;omega
theorem f14e (l : List Int) (J τ : Sto) (v : AV) (hap : Cf J 1 8 (.sv [] 1 0 (some 0)) l.length (l.flatMap eI) = some (v,τ)) (hb : nx J <= nx τ) : Aq Ew 14 [slV eI 1 l] J fun u J' => u = v /\ J' = τ := by
 refine Ak Tryz.func14 rfl rfl fun hw hu0 => ?_
 refine G8 ?_;refine T6 slC rfl rfl fun b hbn => ?_
 refine G ?_;refine Ab rfl ?_ ?_ <;> intro h1
 ·refine G4 ?_;obtain rfl := bk_ (hbn h1);have pk : some (AV.sv [] 1 0 (some 0),J) = some (v,τ) := hap;cases pk;refine G ?_
  exact ⟨_,rfl,.sv [] 1 0 (some 0),J,ag_ hw nl (fun _ _ => rfl),nl,.nils (fun q hq => by cases hq; rfl),rfl,rfl⟩
 ·refine G3 ?_;refine O1 (Ay elC byW rfl rfl rfl) ?_;refine G ?_;refine O1 (A1 elC rfl slC rfl rfl rfl (Uc (enc := eI) (sz := 1) (fun _ => rfl) _ l) hap) ?_
  refine G2 ?_;refine Co fun hw' => Akw (i := 2) rfl fun hu => ?_
  refine G ?_;exact ⟨_,rfl,_,_,ag_ hw' nl (fun _ _ => rfl),hb,.same hu,rfl,rfl⟩
theorem srcN {J : Sto} {n : Nat} {x : Int} {c : Option Nat} : Dj (J.new (.cells ((List.replicate n x).flatMap eI))) 1 (.sr (nx J) 0 1 n c) n = some ((List.replicate n x).flatMap eI) := by
 have h := E8 (l := (List.replicate n x).flatMap eI) (r := []);rw [D7 (enc := eI) (sz := 1) (fun _ => rfl),cg_,cn_] at h
 simp only [Dj,Sto.cells,ab_,if_pos,eu_];exact h
theorem Ass (x : Int) : (eI x).length = 1 := rfl
theorem Alv {N : Nat} (x : Int) : AV.unds N (eI x) = true := rfl
theorem Aqi {n : Nat} {l : List Int} {i : Nat} {x : Int} (h : l[i]? = some x) : rpl n (l.take (i + 1)) = rpl n (l.take i) ++ List.replicate n x := by
 unfold rpl; rw [Bb h,da_]; simp
theorem Aqj {α β : Type} {f : α -> β} {l : List α} {i : Nat} {x : α} (h : l[i]? = some x) : (l.take (i + 1)).map f = (l.take i).map f ++ [f x] := by rw [Bb h,ci_]; rfl
theorem f3 (d : Db) (s : Stc) (t : As) (l : List Mg) (els : List Int) (J : Sto) (hA : ∀ τ,Cv 9 [] τ (.bool true)) : Cv 3 [dbV d,P6 s,Bp t,slV eMg 3 l,slV eI 1 els] J (.bool true) := by
 refine Ak Tryz.func3 rfl rfl fun hw hu0 => ?_
 refine G11 ?_
 refine Af rfl rfl rfl rfl (f9 d 15 60 _ (by decide) (by decide)) ?_
 refine G2 ?_;refine TOr 3 ?_ (fun hg => ?_) ?_
 rotate_left
 ·refine Gn hg ?_
  refine Bg rfl rfl rfl (by rw [hg]; rfl) rfl rfl rfl rfl (f5 s _) ?_
  refine Gn hg ?_;exact Ez
 refine G ?_;refine TOr 3 ?_ (fun hg => ?_) ?_
 rotate_left
 ·refine Gn hg ?_
  refine Bg rfl rfl rfl (by rw [hg]; rfl) rfl rfl rfl rfl (f6 t 30 _ (by decide) (by decide)) ?_
  refine Gn hg ?_;exact Ez
 refine G ?_;refine TOr 3 ?_ (fun hg => ?_) ?_
 rotate_left
 ·iterate 3 refine Gn hg ?_
  exact Ez
 refine G ?_;refine TOr 3 ?_ (fun hg => ?_) ?_
 rotate_left
 ·iterate 3 refine Gn hg ?_
  exact Ez
 refine G ?_;refine TOr 2 ?_ (fun hg => ?_) ?_
 rotate_left
 ·refine Gn hg ?_
  refine Bg rfl rfl rfl (by rw [hg]; rfl) rfl rfl rfl rfl (f7 Ap7 l 8 [] _ (by simp at hg; omega) (fun a _ => f8 a _)) ?_
  exact Ez
 refine G ?_;refine Ab rfl ?_ ?_ <;> intro h1
 ·skip
  refine G2 ?_;refine Af rfl rfl rfl rfl (hA _) ?_;refine G3 ?_;refine A2 hw rfl ?_
  rfl
 ·have h1' : (((((!Aag d 15 60 || !fewS s) || !fewB t 30) || decide ((20 : Int) < Int.ofNat l.length)) || decide ((3 : Int) < Int.ofNat els.length)) || l.any Ap7) = false := h1
  simp only [cv_,fi_] at h1';obtain ⟨⟨⟨⟨⟨g1,g2⟩,g3⟩,g4⟩,g5⟩,g6⟩ := h1';obtain ⟨hD,hvf⟩ := Ah9 g1;obtain ⟨q1,q2,q3⟩ := Ar5 g2;have hct : Ch t <= 30 := Atl (n := 30) g3
  have hll : l.length <= 20 := by have h9 := g4; simp at h9; omega
  have hel : els.length <= 3 := by have h9 := g5; simp at h9; omega
  have ja := Atv g6;have hht := Asn t
  have hyl : ∀ y ∈ s.syms,y.vals.length < 1000000 := fun y hy => by have := q3 y hy; omega
  have hml : ∀ x ∈ l,x.vals.length < 1000000 := fun x hx => by have := ja x hx; omega
  have hgs := (Ap2 d).s;have hu1 := hu0;simp only [AV.unds,ae_] at hu1;obtain ⟨u1,u2,u3,u4,u5,_⟩ := hu1;refine G2 ?_;refine XI (l := [(11,[P6 s],J,P6 s,J),(12,[slV eMg 3 l],J,slV eMg 3 l,J),(10,[dbV d,P6 s,Bp t,slV eMg 3 l,slV eI 1 els],J,.tup [iV (soV d s t l els),iV (soE d s t l els)],J)]) ⟨f11o s _ Om Om,f12 l _ Om,f10 d s t l els _ hD hvf Om Om hyl hgs Om Om Om hml Om,trivial⟩ ?_;refine G5 ?_
  refine DT (Bo rfl rfl (Cc (by decide) Bx)) ?_
  refine G ?_
  refine DT (Bo rfl rfl (Cc (by decide) (Cc (by decide) Bx))) ?_
  refine G6 ?_
  refine ⟨rfl,by simp,?_⟩
  refine G6 ?_;refine Ab rfl ?_ ?_ <;> intro h2
  ·skip
   refine G2 ?_;refine Af rfl rfl rfl rfl (hA _) ?_;refine G3 ?_;refine A2 hw rfl ?_
   rfl
  ·have hE0 : (soE d s t l els) = 0 := by simpa using h2
   have hbk := Ap5 hE0;have hWo := Ajz hbk.1;have hs1 : 1 <= s.size := hWo.n1;have hs3 : s.size <= 3 := hWo.n3;have hsz : s.size = Int.ofNat s.size.toNat := (Int.toNat_of_nonneg Om).symm;refine G9 ?_;refine Af rfl rfl rfl rfl (f12 l _ Om) ?_;refine G4 ?_;refine Dt (fun q : Nat × AV => [(4,slV eI 1 els),(5,.pv [Aj d.consts,Aj d.vars,slV eF 8 d.frames]),(6,.pv (scC s)),(7,.pv (eT t)),(11,iV (soV d s t l els)),(13,q.2),(65,slV eMg 3 l),(66,iV (.ofNat l.length)),(67,iV (.ofNat q.1))]) (fun q J0 => q.1 <= l.length /\ Own J0 (nx J) eMg 3 ((l.take q.1).map (rpM s.size.toNat)) q.2 /\ Below (nx J) J J0) (fun q => l.length - q.1) (0,.nil (.slice none 0 0)) SL ⟨ca_ _,Own.nil,dv_⟩ ?_
   rintro ⟨i0,v0⟩ J0 hP0;obtain ⟨hi0,cp,hB0⟩ : i0 <= l.length /\ Own J0 (nx J) eMg 3 ((l.take i0).map (rpM s.size.toNat)) v0 /\ Below (nx J) J J0 := hP0;refine G5 ?_;refine Ab rfl ?_ ?_ <;> intro h3
   ·have bc : i0 < l.length := by simpa using h3
    obtain ⟨a0,ha0⟩ := A3 bc;have hd0 := Av ha0;refine Co fun hw0 => ?_
    have hxb := ja a0 (af_ ha0);obtain ⟨Jb,hJb⟩ : ∃ Jb,(J0.new (.cells [.str [],.int .i64 (0),.nil (.slice none 0 0)])).set (nx J0) (.cells (eMg a0)) = Jb := ⟨_,rfl⟩
    have hnb : nx Jb = nx J0 + 1 := by rw [← hJb,Ae,Ac]
    have hn0b : nx J0 < nx Jb := by omega
    have hcb : Jb.get (nx J0) = some (.cells (eMg a0)) := by rw [← hJb,a_,if_pos rfl]
    have hBb : Below (nx J0) J0 Jb := ⟨by omega,fun c hc => by rw [← hJb,a_,if_neg Om,ab_,if_neg Om]⟩
    have hB0n := hB0.1;refine G7 ?_
    refine O1 (Ho (n := nx J0) ziC rfl) (O1 (F3 (a := nx J0) (off := 0) (cs := [.str [],.int .i64 (0),.nil (.slice none 0 0)]) (cs' := eMg a0) (by rw [ab_,if_pos rfl]) ldC rfl rfl rfl rfl) ?_)
    refine G ?_;rw [hJb];refine Co fun hwb => ?_
    refine G8 ?_;refine O1 (A4 hcb ldC rfl (show Be 1 false ((eMg a0).drop 2) = some (slV eI 1 a0.vals) from rfl)) ?_
    refine G4 ?_;refine Dt (fun q : Nat × AV => [(4,slV eI 1 els),(5,.pv [Aj d.consts,Aj d.vars,slV eF 8 d.frames]),(6,.pv (scC s)),(7,.pv (eT t)),(11,iV (soV d s t l els)),(13,v0),(15,.pr (nx J0) 0),(16,q.2),(65,slV eMg 3 l),(66,iV (.ofNat l.length)),(67,iV (.ofNat i0)),(72,slV eI 1 a0.vals),(73,iV (.ofNat a0.vals.length)),(74,iV (.ofNat q.1))]) (fun q J2 => q.1 <= a0.vals.length /\ Own J2 (nx Jb) eI 1 (rpl s.size.toNat (a0.vals.take q.1)) q.2 /\ Below (nx Jb) Jb J2) (fun q => a0.vals.length - q.1) (0,.nil (.slice none 0 0)) SL ⟨ca_ _,Own.nil,dv_⟩ ?_
    rintro ⟨i2,v2⟩ J2 hP2;obtain ⟨hi2,b6,hB2⟩ : i2 <= a0.vals.length /\ Own J2 (nx Jb) eI 1 (rpl s.size.toNat (a0.vals.take i2)) v2 /\ Below (nx Jb) Jb J2 := hP2;refine G5 ?_;refine Ab rfl ?_ ?_ <;> intro h4
    ·have bz : i2 < a0.vals.length := by simpa using h4
     obtain ⟨a2,ha2⟩ := A3 bz;have hd2 := Av ha2;have hB2n := hB2.1
     have hn3 : nx Jb <= nx (J2.new (.cells ((List.replicate s.size.toNat a2).flatMap eI))) := by rw [Ac]; omega
     have ga : Own (J2.new (.cells ((List.replicate s.size.toNat a2).flatMap eI))) (nx Jb) eI 1 (rpl s.size.toNat (a0.vals.take i2)) v2 := b6.mono (by rw [Ac]; omega) fun a tl _ _ h8 _ => by rw [ab_,if_neg Om]
     have hrl : (rpl s.size.toNat (a0.vals.take i2)).length <= 300 := by rw [Yb,b_]; exact bc_ (Nat.mul_le_mul (show min i2 a0.vals.length <= 100 by omega) (show s.size.toNat <= 3 by omega)) (by decide)
     obtain ⟨v3,τ3,nj,ho3,hb3,_⟩ := ga.app (by' := 8) (enc := eI) (sz := 1) (fun _ => rfl) hn3 (List.replicate s.size.toNat a2) (by rw [cg_]; simp only [sizeLim]; omega)
     rw [cg_] at nj;refine G12 ?_;refine O1 (Ay elC byW rfl rfl rfl) ?_;refine G ?_
     refine O1 (Ah (v := iV (.ofNat s.size.toNat)) ldC rfl rfl (show Be 1 false ((scC s).drop 0) = some (iV (.ofNat s.size.toNat)) from by rw [← hsz]; rfl)) ?_
     refine Af rfl rfl rfl rfl (f13 a2 s.size.toNat Om Om _) ?_;refine O1 (A1 elC rfl slC rfl rfl rfl (new := (List.replicate s.size.toNat a2).flatMap eI) srcN nj) ?_;refine G6 ?_
     refine ⟨(i2 + 1,v3),by show a0.vals.length - (i2 + 1) < a0.vals.length - i2; omega,SL,bz,by rw [Aqi ha2]; exact ho3,(hB2.trans ⟨by rw [Ac]; omega,fun c hc => by rw [ab_,if_neg Om]⟩).trans hb3⟩
    ·have b9 : a0.vals.length <= i2 := by simpa using h4
     rw [ar_ b9] at b6;refine Co fun hw2 => ?_
     have hvu : AV.und (nx Jb) v0 = true := by
      rcases cp with ⟨_,rfl | rfl⟩ | ⟨a,tl,_,h8,rfl,_⟩
      ·rfl
      ·rfl
      ·exact C6 Om
     refine Akp Jb [(4,slV eI 1 els),(5,.pv [Aj d.consts,Aj d.vars,slV eF 8 d.frames]),(6,.pv (scC s)),(7,.pv (eT t)),(11,iV (soV d s t l els)),(13,v0),(15,.pr (nx J0) 0),(16,slV eI 1 (rpl s.size.toNat a0.vals)),(65,slV eMg 3 l),(66,iV (.ofNat l.length)),(67,iV (.ofNat i0))] (as_ hwb hB2) Om ⟨⟨_,rfl,.same (Cw (fun _ => rfl) _)⟩,⟨_,rfl,.same (AV.und_mono Om _ u1)⟩,⟨_,rfl,.same (Yd s)⟩,⟨_,rfl,.same (Ue t)⟩,⟨_,rfl,.same rfl⟩,⟨_,rfl,.same hvu⟩,⟨_,rfl,.same (C6 hn0b)⟩,⟨_,rfl,b6.fz Ass (fun a ha => hwb.none ha) (Br Alv _)⟩,⟨_,rfl,.same (Cw Kz _)⟩,⟨_,rfl,.same rfl⟩,⟨_,rfl,.same rfl⟩,trivial⟩ ?_
     obtain ⟨Jc,hJc⟩ : ∃ Jc,Jb.set (nx J0) (.cells (eMg (rpM s.size.toNat a0))) = Jc := ⟨_,rfl⟩
     have hnc : nx Jc = nx Jb := by rw [← hJc,Ae]
     have hcc : Jc.get (nx J0) = some (.cells (eMg (rpM s.size.toNat a0))) := by rw [← hJc,a_,if_pos rfl]
     have nk : Own Jc (nx J) eMg 3 ((l.take i0).map (rpM s.size.toNat)) v0 := cp.mono Om fun a tl _ _ h8 _ => by rw [← hJc,a_,if_neg Om]; exact hBb.2 a h8
     obtain ⟨v1,τ1,hap,ho1,hb1,_⟩ := nk.app (by' := 48) Iu Om [rpM s.size.toNat a0] (by rw [by_,b_]; simp [sizeLim]; omega)
     have pm : Below (nx J) Jb τ1 := ⟨by have := hb1.1; omega,fun c hc => (hb1.2 c hc).trans (by rw [← hJc,a_,if_neg Om])⟩
     refine G5 ?_;refine O1 (F3 (a := nx J0) (off := 2) (cs := eMg a0) (cs' := eMg (rpM s.size.toNat a0)) hcb ldC rfl rfl rfl rfl) ?_;refine G ?_;rw [hJc];refine G2 ?_;refine O1 (A4 hcc ldC rfl (B0 (Iu _))) (Dz (Ay elC byW rfl rfl rfl) (Fk (len := 1)) rfl rfl (O1 (A1 elC rfl slC rfl rfl rfl (new := [rpM s.size.toNat a0].flatMap eMg) rfl hap) ?_));refine G6 ?_
     refine ⟨(i0 + 1,v1),by show l.length - (i0 + 1) < l.length - i0; omega,SL,bc,by rw [Aqj ha0]; exact ho1,(hB0.trans ⟨by omega,fun c hc => hBb.2 c Om⟩).trans pm⟩
   ·have bm : l.length <= i0 := by simpa using h3
    rw [ar_ bm] at cp;refine Akp J [(4,slV eI 1 els),(5,.pv [Aj d.consts,Aj d.vars,slV eF 8 d.frames]),(6,.pv (scC s)),(7,.pv (eT t)),(11,iV (soV d s t l els)),(13,slV eMg 3 (l.map (rpM s.size.toNat)))] (as_ hw hB0) nl ⟨⟨_,rfl,.same (Cw (fun _ => rfl) _)⟩,⟨_,rfl,.same u1⟩,⟨_,rfl,.same (Yd s)⟩,⟨_,rfl,.same (Ue t)⟩,⟨_,rfl,.same rfl⟩,⟨_,rfl,cp.fz Iu (fun a ha => hw.none ha) (Br Kz _)⟩,trivial⟩ ?_
    refine G5 ?_
    refine O1 (Ah (v := iV (.ofNat s.size.toNat)) ldC rfl rfl (show Be 1 false ((scC s).drop 0) = some (iV (.ofNat s.size.toNat)) from by rw [← hsz]; rfl)) ?_
    refine G3 ?_;refine Bh s.size.toNat (fun i4 => [(4,slV eI 1 els),(5,.pv [Aj d.consts,Aj d.vars,slV eF 8 d.frames]),(6,.pv (scC s)),(7,.pv (eT t)),(11,iV (soV d s t l els)),(13,slV eMg 3 (l.map (rpM s.size.toNat))),(94,iV (.ofNat s.size.toNat)),(95,iV (.ofNat i4))]) (fun i4 J4 => J4 = J) SL rfl ?_
    rintro i4 J4 hi4 rfl;refine G5 ?_;refine Ab rfl ?_ ?_ <;> intro h4
    ·have dy : i4 < s.size.toNat := by have h9 := of_decide_eq_true h4; simp only [aj_] at h9; omega
     obtain ⟨e1,e2⟩ := Ar0 (x := Int.ofNat i4) hE0 Om ⟨by simp,by rw [hsz]; simp only [aj_]; omega⟩
     obtain ⟨vC,τC,pp,hoC,hbC,_⟩ := ed_ (enc := eI) (sz := 1) (l := ([] : List Int)) (by' := 8) (N := nx J4) (J := J4) (fun s => rfl) nl (Own.emp (enc := eI) (sz := 1)) els (by simp [sizeLim]; omega)
     rw [bt_] at hoC
     obtain ⟨vE,τE,px,hoE,pz,_⟩ := hoC.app (by' := 8) (enc := eI) (sz := 1) (l := els) (fun _ => rfl) hbC.1 [Int.ofNat i4] (by simp [sizeLim]; omega)
     have hbE := hbC.trans pz
     have hLv : ∀ x ∈ (l.map (rpM s.size.toNat)),x.vals.length < 1000000 := fun x hx => by
      obtain ⟨y,hy,rfl⟩ := cf_.1 hx;have h9 := ja y hy;have h8 : (rpM s.size.toNat y).vals.length = y.vals.length * s.size.toNat := Yb _;have h7 : y.vals.length * s.size.toNat <= 100 * 3 := Nat.mul_le_mul h9 Om;omega
     have py : Aq Ew 10 [dbV d,P6 s,Bp t,slV eMg 3 (l.map (rpM s.size.toNat)),vE] τE fun v J' => v = .tup [iV (soV d s t (l.map (rpM s.size.toNat)) (els ++ [Int.ofNat i4])),iV (soE d s t (l.map (rpM s.size.toNat)) (els ++ [Int.ofNat i4]))] /\ J' = τE := Aq.look (.cons (.same (AV.und_mono hbE.1 _ u1)) (.cons (.same (Yd s)) (.cons (.same (Ue t)) (.cons (.same (Cw Kz _)) (.cons (hoE.fz Ass (fun a ha => rfl) (Br Alv _)) .nil))))) (f10 d s t (l.map (rpM s.size.toNat)) (els ++ [Int.ofNat i4]) ⟨.e,nx τE⟩ hD hvf Om Om hyl hgs Om Om (by rw [by_]; omega) hLv (by simp; omega))
     refine G9 ?_;refine Aje (Rr := Eq [(11,[P6 s],J4,P6 s,J4),(14,[slV eI 1 els],J4,vC,τC),(10,[dbV d,P6 s,Bp t,slV eMg 3 (l.map (rpM s.size.toNat)),vE],τE,.tup [iV (soV d s t (l.map (rpM s.size.toNat)) (els ++ [Int.ofNat i4])),iV (soE d s t (l.map (rpM s.size.toNat)) (els ++ [Int.ofNat i4]))],τE)]) (anns := [⟨.read,0,3⟩,⟨.read,0,0⟩,⟨.eff,0,1⟩,⟨.read,0,3⟩,⟨.pure,0,3⟩,⟨.pure,0,1⟩,⟨.eff,1,2⟩,⟨.pure,0,2⟩,⟨.pure,0,2⟩,⟨.eff,2,3⟩,⟨.eff,3,4⟩,⟨.pure,4,4⟩,⟨.pure,4,4⟩,⟨.pure,4,4⟩,⟨.pure,4,4⟩,⟨.pure,4,4⟩]) Cu (Fv ⟨f11o s _ Om Om,f14e els _ τC vC pp hbC.1,py,trivial⟩) Kr ?_;refine G6 ?_
     refine DT (Bo rfl rfl (Cc (by decide) Bx)) ?_
     refine G ?_
     refine DF (Ay elC byW rfl rfl rfl) (DT (A1 elC rfl slC rfl rfl rfl (new := eI (Int.ofNat i4)) rfl px) (DT (Bo rfl rfl (Cc (by decide) (Cc (by decide) Bx))) ?_))
     refine G6 ?_;refine ⟨⟨fun s _ => ⟨_,Ah (ldC (t := 25)) rfl rfl rfl⟩,fun s _ => ⟨_,Ah (ldC (t := 29)) rfl rfl rfl⟩,trivial,fun s _ => ⟨_,Ah (ldC (t := 32)) rfl rfl (B0 (B2 _))⟩,trivial,trivial,trivial,trivial,trivial,trivial,trivial,trivial,trivial,trivial,trivial,trivial,trivial⟩,?_⟩
     refine G5 ?_;refine TOr 3 ?_ (fun hg => ?_) ?_
     rotate_left
     ·iterate 3 refine Gn hg ?_
      exact Ez
     refine G ?_;refine Ab rfl ?_ ?_ <;> intro h5
     ·exfalso
      rw [e1,e2] at h5
      simp at h5
     ·refine Akp J4 [(4,slV eI 1 els),(5,.pv [Aj d.consts,Aj d.vars,slV eF 8 d.frames]),(6,.pv (scC s)),(7,.pv (eT t)),(11,iV (soV d s t l els)),(13,slV eMg 3 (l.map (rpM s.size.toNat))),(94,iV (.ofNat s.size.toNat)),(95,iV (.ofNat i4))] (as_ hw hbE) nl ⟨⟨_,rfl,.same (Cw (fun _ => rfl) _)⟩,⟨_,rfl,.same u1⟩,⟨_,rfl,.same (Yd s)⟩,⟨_,rfl,.same (Ue t)⟩,⟨_,rfl,.same rfl⟩,⟨_,rfl,.same (Cw Kz _)⟩,⟨_,rfl,.same rfl⟩,⟨_,rfl,.same rfl⟩,trivial⟩ ?_
      refine G5 ?_;refine ⟨dy,SL,rfl⟩
    ·have fq : s.size.toNat <= i4 := by have h9 := of_decide_eq_false h4; simp only [aj_] at h9; omega
     refine G3 ?_;refine Af rfl rfl rfl rfl (hA _) ?_;refine G3 ?_;refine A2 hw rfl ?_
     rfl
def C0 : Ctx := ⟨fun _ => none,fun _ => 0,fun _ => False,fun _ => none⟩
theorem Aj2 (b : Nat) : ¬ C0.own b := fun hb => hb.elim (fun h => h) fun ⟨a,o,h⟩ => by cases h
theorem sim0 (w : World) : Sim Tryz.prog C0 w ⟨.e,0⟩ :=
 ⟨fun a O hg => (by simp [Sto.get,Tr.get] at hg),fun a O hg => (by simp [Sto.get,Tr.get] at hg),fun a p hp => (by cases hp),fun a b c o o' ha => (by cases ha),fun a c o ha => (by cases ha),fun b hb => False.elim hb,fun a c o ha => (by cases ha)⟩
theorem Aj3 {f : Nat} {args : List AV} {vs : Array Value} {w : World} (h : Aq Ew f args ⟨.e,0⟩ fun v J' => v = .bool true /\ J' = ⟨.e,0⟩) (hg : Fo C0 0 w Ew) (ha : RL C0 0 w args vs.toList) :
  Calls Tryz.prog f vs w fun e w' => e = .returned (.bool true) /\ w.heap.size <= w'.heap.size /\ (∀ b,b < w.heap.size -> w'.heap[b]? = w.heap[b]?) /\ w'.os = w.os /\ w'.output = w.output := by
 refine (h C0 w vs (sim0 w) hg ha).2.mono fun e w' he => ?_
 cases e with
 | returned x =>
  obtain ⟨v,J',C',⟨rfl,rfl⟩,k1,k2,k3⟩ := he;unfold R at k3;subst k3;exact ⟨rfl,k2.size,fun b hb => (k2.keep b hb (Aj2 b)).2,k2.os⟩
 | panicked _ => exact he.elim
 | outgrown => exact he.elim
section
variable {H : Type} {eh : TypeId × Value -> H} {w : World} {hd : Bool}
def RdN (eh : TypeId × Value -> H) (w : World) (hd : Bool) (n : Nat) (t : TypeId) (k : Nat) (Q : List AV -> Prop) : Prop :=
 ∀ (cs : List Value) (x : DataW H × List MemPlace),DataW.trod eh Tryz.prog w 0 (fun _ => true) hd n t cs = some x -> cs.length = k -> (∀ b ∈ x.1.weights Tryz.prog t,b <= reachBytes) -> ∃ avs,Q avs /\ RL C0 0 w avs cs /\ ∀ v ∈ cs,v.oneCell = true
def Dc {α : Type} (G : α -> Prop) (enc : α -> List AV) : List AV -> Prop := fun avs => ∃ a,G a /\ avs = enc a
def Aa6 (s : Str) : Prop := s.length <= 281474976710656
theorem Lw {n t : Nat} (ht : Tryz.prog.underlying t = some .string) : RdN eh w hd n t 1 (Dc Aa6 e1) := by
 intro cs x h hl hw;obtain ⟨s,rfl,rfl,_⟩ := DataW.trod_string ht h
 have := hw s.data.toList.length (by unfold DataW.weights; exact bj_ _)
 exact ⟨[sV s.data.toList],⟨_,by unfold Aa6; exact bc_ this (by decide),rfl⟩,by unfold RL; exact ⟨by unfold sV R; exact ⟨s,rfl,rfl⟩,by unfold RL; trivial⟩,fun v hv => by rw [an_.1 hv]; rfl⟩
theorem Alw {n t : Nat} (ht : Tryz.prog.underlying t = some .bool) : RdN eh w hd n t 1 (Dc (fun _ => True) fun b : Bool => [.bool b]) := by
 intro cs x h hl hw;obtain ⟨b,rfl,rfl⟩ := DataW.trod_bool ht h
 exact ⟨[.bool b],⟨b,trivial,rfl⟩,by unfold RL; exact ⟨by unfold R; rfl,by unfold RL; trivial⟩,fun v hv => by rw [an_.1 hv]; rfl⟩
theorem Aa7 {n t : Nat} (ht : Tryz.prog.underlying t = some (.int .i64)) : RdN eh w hd n t 1 (Dc (fun _ => True) fun a : Int => [iV a]) := by
 intro cs x h hl hw;obtain ⟨i,rfl,rfl,_⟩ := DataW.trod_int ht h
 exact ⟨[iV i],⟨i,trivial,rfl⟩,by unfold RL; exact ⟨by unfold iV R; rfl,by unfold RL; trivial⟩,fun v hv => by rw [an_.1 hv]; rfl⟩
theorem Ad3 {α β : Type} {f : α -> Option β} : ∀ {is : List α} {l : List β},is.mapM f = some l -> l.length = is.length /\ ∀ (j : Nat) (i : α),is[j]? = some i -> ∃ a : β,f i = some a /\ l[j]? = some a
 | [],l,h => by simp at h; subst h; exact ⟨rfl,fun j i hj => by simp at hj⟩
 | i0 :: is,l,h => by
  simp only [gr_,Option.bind_eq_bind,fj_,Option.pure_def,ac_] at h;obtain ⟨a,h1,l',h2,rfl⟩ := h;obtain ⟨k1,k2⟩ := Ad3 h2
  refine ⟨by simp [k1],fun j i hj => ?_⟩
  cases j with
  | zero => simp at hj; subst hj; exact ⟨a,h1,by simp⟩
  | succ j => simp at hj; obtain ⟨b,q1,q2⟩ := k2 j i hj; exact ⟨b,q1,by simpa using q2⟩
theorem We {a : Addr} {v : Value} (h : w.cell? a = some v) : a.spot = none /\ w.cell? ⟨a.block,a.off,none⟩ = some v := by
 have hs : a.spot = none := by
  cases hs : a.spot with
  | none => rfl
  | some s => unfold World.cell? at h; rw [hs] at h; split at h <;> simp at h
 obtain ⟨b,o,s⟩ := a;cases hs;exact ⟨rfl,h⟩
theorem Uw (a : Addr) (n : Nat) : (a.add n).off = a.off + n /\ (a.add n).block = a.block := by unfold Addr.add; split <;> simp_all
theorem Aa8 {a : Addr} {k : Nat} {cs : List Value} (h : w.cells? 0 a k = some cs) : cs.length = k /\ ∀ (r : Nat) (v : Value),cs[r]? = some v -> w.cell? (a.add r) = some v := by
 unfold World.cells? at h;rw [if_pos (ca_ _)] at h;obtain ⟨h1,h2⟩ := Ad3 h
 refine ⟨by simpa using h1,fun r v hv => ?_⟩
 have hr := (ad_.1 hv).1
 obtain ⟨b,q1,q2⟩ := h2 r r (by rw [List.getElem?_range (by rw [List.length_range] at h1; omega)])
 rw [hv] at q2; cases q2; exact q1
theorem Ad4 {α : Type} {P : Nat -> α -> Prop} : ∀ {n : Nat},(∀ i,i < n -> ∃ a,P i a) -> ∃ l : List α,l.length = n /\ ∀ (i : Nat) (a : α),l[i]? = some a -> P i a
 | 0,_ => ⟨[],rfl,fun i a h => by simp at h⟩
 | n + 1,h => by
  obtain ⟨l,h1,h2⟩ := Ad4 (n := n) fun i hi => h i Om
  obtain ⟨a,ha⟩ := h n Om
  refine ⟨l ++ [a],by simp [h1],fun i b hb => ?_⟩
  by_cases hi : i < n
  ·rw [bb_ Om] at hb; exact h2 i b hb
  ·have hlt := (ad_.1 hb).1
   simp at hlt
   have : i = n := by omega
   subst this;rw [cb_ Om] at hb
   simp [h1] at hb
   subst hb; exact ha
theorem Alx {α : Type} {enc : α -> List AV} {k c o : Nat} (he : ∀ a,(enc a).length = k) : ∀ (l : List α) (i0 : Nat),(∀ (i : Nat) (a : α),l[i]? = some a -> ∀ (r : Nat) (x : AV),(enc a)[r]? = some x -> ∃ v,w.cell? ⟨c,o + ((i0 + i) * k + r),none⟩ = some v /\ v.oneCell = true /\ R C0 0 w x v) -> RC C0 0 w c (l.flatMap enc) (o + i0 * k)
 | [],i0,_ => by unfold List.flatMap; simp; unfold RC; trivial
 | a :: l,i0,h => by
  rw [ch_]
  have h2 := Alx he l (i0 + 1) fun i b hb r x hx => by
   have := h (i + 1) b (by simpa using hb) r x hx
   rwa [show i0 + (i + 1) = i0 + 1 + i by omega] at this
  have key : ∀ (row : List AV) (r0 : Nat),r0 + row.length = k -> (∀ (r : Nat) (x : AV),row[r]? = some x -> ∃ v,w.cell? ⟨c,o + (i0 * k + (r0 + r)),none⟩ = some v /\ v.oneCell = true /\ R C0 0 w x v) -> RC C0 0 w c (row ++ l.flatMap enc) (o + (i0 * k + r0)) := by
   intro row
   induction row with
   | nil => intro r0 hr _; simp at hr; subst hr; rw [bt_,show o + (i0 * r0 + r0) = o + (i0 + 1) * r0 by rw [fw_]]; exact h2
   | cons x row ih =>
    intro r0 hr hx;rw [av_];unfold RC
    refine ⟨by have := hx 0 x (by simp); simpa using this,?_⟩
    have := ih (r0 + 1) (by simp at hr; omega) fun r y hy => by
     have := hx (r + 1) y (by simpa using hy)
     rwa [show r0 + (r + 1) = r0 + 1 + r by omega] at this
    rwa [show o + (i0 * k + (r0 + 1)) = o + (i0 * k + r0) + 1 by omega] at this
  have := key (enc a) 0 (by rw [he]; omega) fun r x hx => by
   have := h 0 a (by simp) r x hx
   simpa using this
  simpa using this
theorem Ast : ∀ {l : List AV} {vs : List Value},RL C0 0 w l vs -> ∀ (r : Nat) (x : AV),l[r]? = some x -> ∃ v,vs[r]? = some v /\ R C0 0 w x v
 | [],_,_,r,x,h => by simp at h
 | y :: l,[],h,_,_,_ => by unfold RL at h; exact h.elim
 | y :: l,v :: vs,h,r,x,hx => by
  unfold RL at h;cases r with
  | zero => simp at hx; subst hx; exact ⟨v,by simp,h.1⟩
  | succ r => simp at hx; obtain ⟨u,q1,q2⟩ := Ast h.2 r x hx; exact ⟨u,by simpa using q1,q2⟩
theorem Gy {α : Type} {enc : α -> List AV} {G : α -> Prop} {n t e k : Nat} (ht : Tryz.prog.underlying t = some (.slice e)) (hc : Tryz.prog.cellsOf e = k) (hk : 0 < k) (he : ∀ a,(enc a).length = k) (hE : ∀ m,m + 1 = n -> RdN eh w hd m e k (Dc G enc)) :
  RdN eh w hd n t 1 (Dc (fun l : List α => ∀ a ∈ l,G a) fun l => [slV enc k l]) := by
 intro cs x h hl hw
 rcases DataW.trod_slice ht h with ⟨rfl,rfl⟩ | ⟨a,len,cap,elems,rest,n0,hn,rfl,rfl,_,hlc,_,hel0,hel,hsp,_⟩
 ·exact ⟨[slV enc k []],⟨[],fun a h => (by cases h),rfl⟩,by unfold RL; exact ⟨by unfold slV R; exact ⟨none,0,rfl,nl,fun q hq => (by cases hq),by simp,fun _ => rfl,fun ad ha => (by cases ha)⟩,by unfold RL; trivial⟩,fun v hv => by rw [an_.1 hv]; rfl⟩
 ·rw [hc] at hel hsp
  have hws : ∀ y ∈ elems,∀ b ∈ y.1.weights Tryz.prog e,b <= reachBytes := fun y hy b hb => hw b (by
   unfold DataW.weights;rw [ht];refine am_ _ (cu_ _ ?_)
   have key : ∀ {l : List (DataW H × List MemPlace)},y ∈ l -> b ∈ DataW.weightsAll Tryz.prog e (l.map (·.1)) := by
    intro l
    induction l with
    | nil => intro h; cases h
    | cons z l ih =>
     intro h
     show b ∈ z.1.weights Tryz.prog e ++ DataW.weightsAll Tryz.prog e (l.map (·.1))
     rcases ai_.1 h with rfl | h
     ·exact cu_ _ hb
     ·exact dz_ _ (ih h)
   exact key hy)
  obtain ⟨l,hll,hlp⟩ := Ad4 (n := len) (P := fun i a' => G a' /\ ∀ (r : Nat) (x : AV),(enc a')[r]? = some x -> ∃ v,w.cell? ((a.add (i * k)).add r) = some v /\ v.oneCell = true /\ R C0 0 w x v) fun i hi => by
   obtain ⟨y,hy⟩ : ∃ y,elems[i]? = some y := ⟨_,ao_ Om⟩;have hb := hel i hi;rw [hy,fj_] at hb;obtain ⟨ci,hci,hti⟩ := hb;obtain ⟨c1,c2⟩ := Aa8 hci;obtain ⟨avs,⟨b,hGb,rfl⟩,h2,h3⟩ := hE n0 hn.symm ci y hti c1 (hws y (af_ hy));refine ⟨b,hGb,fun r x hx => ?_⟩
   obtain ⟨v,q1,q2⟩ := Ast h2 r x hx;exact ⟨v,c2 r v q1,h3 v (af_ q1),q2⟩
  refine ⟨[slV enc k l],⟨l,fun b hb => ?_,rfl⟩,?_,fun v hv => by rw [an_.1 hv]; rfl⟩
  ·obtain ⟨i,hi⟩ := List.getElem?_of_mem hb;exact (hlp i b hi).1
  ·unfold RL
   refine ⟨?_,by unfold RL; trivial⟩
   unfold slV R
   refine ⟨some a,cap,by rw [hll],by rw [hll]; exact hlc,fun q hq => (by cases hq),by rw [D7 he],fun hh => (by cases hh),fun ad ha => ?_⟩
   cases ha;refine ⟨fun h0 => ?_,fun _ hh => Aj2 _ hh,?_⟩
   ·by_cases bn : 0 < len
    ·obtain ⟨b,hb⟩ := A3 (l := l) (i := 0) Om
     have hne : 0 < (enc b).length := by rw [he]; exact hk
     obtain ⟨x,hx⟩ := A3 hne;obtain ⟨v,q1,_⟩ := (hlp 0 b hb).2 0 x hx;have := (We q1).1
     simpa [Addr.add] using this
    ·have hr := (hsp rfl).2 0 Om
     obtain ⟨y,hy⟩ : ∃ y,rest[0]? = some y := ⟨_,ao_ (by rw [(hsp rfl).1]; omega)⟩
     rw [hy,fj_] at hr;obtain ⟨ci,hci,_⟩ := hr;obtain ⟨c1,c2⟩ := Aa8 hci;obtain ⟨v,hv⟩ := A3 (l := ci) (i := 0) Om;have := (We (c2 0 v hv)).1
     have hl0 : len = 0 := by omega
     subst hl0
     simpa [Addr.add] using this
   ·have := Alx (w := w) (c := a.block) (o := a.off) he l 0 fun i b hb r x hx => by
     obtain ⟨v,q1,q2,q3⟩ := (hlp i b hb).2 r x hx;have q4 := (We q1).2;rw [(Uw _ r).1,(Uw _ r).2,(Uw a _).1,(Uw a _).2,gi_] at q4
     exact ⟨v,by rw [be_]; exact q4,q2,q3⟩
    simpa using this
end
noncomputable def Gm (t : TypeId) : Option (List (TypeId × Nat × Nat)) := match Tryz.prog.underlying t with
 | some (.struct fs) => some (fs.toList.map fun f => (f.type,f.offset,Tryz.prog.cellsOf f.type))
 | _ => none
def Hg : Nat -> List (TypeId × Nat × Nat) -> Option Nat
 | o,[] => some o
 | o,(_,off,k) :: r => if off = o then Hg (o + k) r else none
def AllQ : List (List AV -> Prop) -> List AV -> Prop
 | [],avs => avs = []
 | Q :: r,avs => ∃ a b,Q a /\ AllQ r b /\ avs = a ++ b
section
variable {H : Type} {eh : TypeId × Value -> H} {w : World} {hd : Bool}
def RdL (eh : TypeId × Value -> H) (w : World) (hd : Bool) (m : Nat) : List (TypeId × Nat × Nat) -> List (List AV -> Prop) -> Prop
 | [],[] => True
 | (t,_,k) :: r,Q :: s => RdN eh w hd m t k Q /\ RdL eh w hd m r s
 | _,_ => False
theorem Fa {n t k : Nat} {fl : List (TypeId × Nat × Nat)} {Qs : List (List AV -> Prop)} (hf : Gm t = some fl) (hc : Hg 0 fl = some k) (hQ : ∀ m,m + 1 = n -> RdL eh w hd m fl Qs) : RdN eh w hd n t k (AllQ Qs) := by
 intro cs x h hl hw;unfold Gm at hf
 split at hf
 case h_2 => cases hf
 case h_1 fs ht =>
 cases hf;obtain ⟨xs,m,hm,rfl,_,hxl,hxf⟩ := DataW.trod_struct ht h;have hQ := hQ m hm.symm
 have each : ∀ (j : Nat) (f : TypeId × Nat × Nat),(fs.toList.map fun f => (f.type,f.offset,Tryz.prog.cellsOf f.type))[j]? = some f -> ∃ y,DataW.trod eh Tryz.prog w 0 (fun _ => true) hd m f.1 ((cs.drop f.2.1).take f.2.2) = some y /\ ∀ b ∈ y.1.weights Tryz.prog f.1,b <= reachBytes := by
  intro j f hj;rw [az_,du_] at hj;obtain ⟨g,hg,rfl⟩ := hj;have hj2 := (ad_.1 hg).1
  obtain ⟨y,hy⟩ : ∃ y,xs[j]? = some y := ⟨_,ao_ (by rw [hxl]; simpa using hj2)⟩
  have h1 := hxf j g (by simpa using hg)
  rw [hy] at h1
  dsimp only
  refine ⟨y,?_,fun b hb => hw b ?_⟩
  ·exact h1
  unfold DataW.weights;rw [ht]
  exact DataW.weights_mem_each (P := Tryz.prog) (j := j) (t := g.type) (d := y.1) (by rw [az_,hg,df_]) (by rw [az_,hy,df_]) b hb
 have key : ∀ (fl : List (TypeId × Nat × Nat)) (Qs : List (List AV -> Prop)) (o : Nat),(∀ (j : Nat) (f : TypeId × Nat × Nat),fl[j]? = some f -> ∃ y,DataW.trod eh Tryz.prog w 0 (fun _ => true) hd m f.1 ((cs.drop f.2.1).take f.2.2) = some y /\ ∀ b ∈ y.1.weights Tryz.prog f.1,b <= reachBytes) ->
   Hg o fl = some cs.length -> RdL eh w hd m fl Qs -> ∃ avs,AllQ Qs avs /\ RL C0 0 w avs (cs.drop o) /\ ∀ v ∈ cs.drop o,v.oneCell = true := by
  intro fl
  induction fl with
  | nil =>
   intro Qs o _ hch hr;simp only [Hg,ac_] at hch;subst hch;cases Qs with
   | nil => exact ⟨[],rfl,by rw [fr_]; unfold RL; trivial,by rw [fr_]; intro v hv; cases hv⟩
   | cons _ _ => exact hr.elim
  | cons f fl ih =>
   intro Qs o he hch hr;obtain ⟨t0,off,k0⟩ := f;cases Qs with
   | nil => exact hr.elim
   | cons Q Qs =>
    unfold Hg at hch
    split at hch
    case isFalse => cases hch
    case isTrue ho =>
    subst ho
    have ik : ∀ (fl : List (TypeId × Nat × Nat)) (o e : Nat),Hg o fl = some e -> o <= e := by
     intro fl
     induction fl with
     | nil => intro o e h; simp only [Hg,ac_] at h; omega
     | cons f fl ih =>
      intro o e h;obtain ⟨_,off,k⟩ := f;unfold Hg at h
      split at h
      ·have := ih _ _ h; omega
      ·cases h
    have hle := ik _ _ _ hch;obtain ⟨y,hy,hyw⟩ := he 0 _ rfl
    obtain ⟨a,ha,hra,hoa⟩ := hr.1 _ y hy (by show ((cs.drop off).take k0).length = k0; rw [b_,cz_]; omega) hyw
    obtain ⟨b,hb,hrb,hob⟩ := ih Qs (off + k0) (fun j f hj => he (j + 1) f (by simpa using hj)) hch hr.2
    have e0 : cs.drop off = (cs.drop off).take k0 ++ cs.drop (off + k0) := by rw [← fo_,bx_]
    refine ⟨a ++ b,⟨a,b,ha,hb,rfl⟩,?_,?_⟩
    ·rw [e0]; exact hra.append hrb
    ·rw [e0];intro v hv
     rcases bq_.1 hv with hv | hv
     ·exact hoa v hv
     ·exact hob v hv
 have := key _ Qs 0 each (by rw [hc,hl]) hQ
 simpa using this
theorem RdN.mono {n t k : Nat} {Q Q' : List AV -> Prop} (h : RdN eh w hd n t k Q) (hq : ∀ avs,Q avs -> Q' avs) : RdN eh w hd n t k Q' := fun cs x h1 h2 h3 => by
 obtain ⟨avs,q1,q2,q3⟩ := h cs x h1 h2 h3;exact ⟨avs,hq _ q1,q2,q3⟩
end
section
variable {H : Type} {eh : TypeId × Value -> H} {w : World} {hd : Bool}
theorem ut4 : Tryz.prog.underlying 4 = some .bool := Kr
theorem ut9 : Tryz.prog.underlying 9 = some .string := Kr
theorem ut22 : Tryz.prog.underlying 22 = some (.slice 9) := Kr
theorem ut23 : Tryz.prog.underlying 23 = some (.slice 61) := Kr
theorem ut30 : Tryz.prog.underlying 30 = some (.slice 32) := Kr
theorem ut75 : Tryz.prog.underlying 58 = some (.slice 63) := Kr
theorem ut76 : Tryz.prog.underlying 59 = some (.slice 119) := Kr
theorem ct9 : Tryz.prog.cellsOf 9 = 1 := Kr
theorem ct32 : Tryz.prog.cellsOf 32 = 2 := Kr
theorem ct78 : Tryz.prog.cellsOf 61 = 8 := Kr
theorem ct80 : Tryz.prog.cellsOf 63 = 3 := Kr
theorem ctP : Tryz.prog.cellsOf 119 = 2 := Kr
theorem fl25 : Gm 25 = some [(22,0,1),(22,1,1),(23,2,1)] := Kr
theorem fl32 : Gm 32 = some [(9,0,1),(30,1,1)] := Kr
theorem fl80 : Gm 63 = some [(9,0,1),(4,1,1),(22,2,1)] := Kr
theorem flP : Gm 119 = some [(9,0,1),(9,1,1)] := Kr
theorem fl78 : Gm 61 = some [(9,0,1),(4,1,1),(58,2,1),(59,3,1),(22,4,1),(58,5,1),(59,6,1),(22,7,1)] := Kr
def Gp {α : Type} (_ : α) : Prop := True
theorem Ux {n : Nat} : RdN eh w hd n 22 1 (Dc (Gp (α := List Str)) fun l => [Aj l]) :=
 (Gy ut22 ct9 Om (fun _ => rfl) fun m _ => Lw ut9).mono fun avs ⟨l,_,h⟩ => ⟨l,trivial,h⟩
theorem Ar6 {n : Nat} : RdN eh w hd n 119 2 (Dc Gp eP) :=
 (Fa (Qs := [Dc Aa6 e1,Dc Aa6 e1]) flP rfl fun m _ => ⟨Lw ut9,Lw ut9,trivial⟩).mono fun avs h => by
  obtain ⟨_,_,⟨a,_,rfl⟩,⟨_,_,⟨b,_,rfl⟩,rfl,rfl⟩,rfl⟩ := h;exact ⟨⟨a,b⟩,trivial,rfl⟩
theorem Aib {n : Nat} : RdN eh w hd n 59 1 (Dc (Gp (α := List Pr)) fun l => [slV eP 2 l]) :=
 (Gy ut76 ctP Om (fun _ => rfl) fun m _ => Ar6).mono fun avs ⟨l,_,h⟩ => ⟨l,trivial,h⟩
theorem Atw {n : Nat} : RdN eh w hd n 63 3 (Dc Gp eH) :=
 (Fa (Qs := [Dc Aa6 e1,Dc (fun _ => True) fun b : Bool => [.bool b],Dc (Gp (α := List Str)) fun l => [Aj l]]) fl80 rfl fun m _ => ⟨Lw ut9,Alw ut4,Ux,trivial⟩).mono fun avs h => by
  obtain ⟨_,_,⟨a,_,rfl⟩,⟨_,_,⟨b,_,rfl⟩,⟨_,_,⟨c,_,rfl⟩,rfl,rfl⟩,rfl⟩,rfl⟩ := h;exact ⟨⟨a,b,c⟩,trivial,rfl⟩
theorem Aly {n : Nat} : RdN eh w hd n 58 1 (Dc (Gp (α := List Hp)) fun l => [slV eH 3 l]) :=
 (Gy ut75 ct80 Om (fun _ => rfl) fun m _ => Atw).mono fun avs ⟨l,_,h⟩ => ⟨l,trivial,h⟩
theorem Aqk {n : Nat} : RdN eh w hd n 61 8 (Dc Gp eF) :=
 (Fa (Qs := [Dc Aa6 e1,Dc (fun _ => True) fun b : Bool => [.bool b],Dc (Gp (α := List Hp)) fun l => [slV eH 3 l],Dc (Gp (α := List Pr)) fun l => [slV eP 2 l],Dc (Gp (α := List Str)) fun l => [Aj l],
  Dc (Gp (α := List Hp)) fun l => [slV eH 3 l],Dc (Gp (α := List Pr)) fun l => [slV eP 2 l],Dc (Gp (α := List Str)) fun l => [Aj l]]) fl78 rfl fun m _ => ⟨Lw ut9,Alw ut4,Aly,Aib,Ux,Aly,Aib,Ux,trivial⟩).mono fun avs h => by
  obtain ⟨_,_,⟨a,_,rfl⟩,⟨_,_,⟨b,_,rfl⟩,⟨_,_,⟨c,_,rfl⟩,⟨_,_,⟨d,_,rfl⟩,⟨_,_,⟨e,_,rfl⟩,⟨_,_,⟨f,_,rfl⟩,⟨_,_,⟨g,_,rfl⟩,⟨_,_,⟨i,_,rfl⟩,rfl,rfl⟩,rfl⟩,rfl⟩,rfl⟩,rfl⟩,rfl⟩,rfl⟩,rfl⟩ := h;exact ⟨⟨a,b,c,d,e,f,g,i⟩,trivial,rfl⟩
theorem Ang {n : Nat} : RdN eh w hd n 23 1 (Dc (Gp (α := List Fr)) fun l => [slV eF 8 l]) :=
 (Gy ut23 ct78 Om (fun _ => rfl) fun m _ => Aqk).mono fun avs ⟨l,_,h⟩ => ⟨l,trivial,h⟩
theorem rd_db {n : Nat} : RdN eh w hd n 25 3 (Dc (Gp (α := Db)) fun d => [Aj d.consts,Aj d.vars,slV eF 8 d.frames]) :=
 (Fa (Qs := [Dc (Gp (α := List Str)) fun l => [Aj l],Dc (Gp (α := List Str)) fun l => [Aj l],Dc (Gp (α := List Fr)) fun l => [slV eF 8 l]]) fl25 rfl fun m _ => ⟨Ux,Ux,Ang,trivial⟩).mono fun avs h => by
  obtain ⟨_,_,⟨a,_,rfl⟩,⟨_,_,⟨b,_,rfl⟩,⟨_,_,⟨c,_,rfl⟩,rfl,rfl⟩,rfl⟩,rfl⟩ := h;exact ⟨⟨a,b,c⟩,trivial,rfl⟩
theorem Alz : ∀ (n : Nat),RdN eh w hd n 32 2 (Dc (Gp (α := As)) eT)
 | 0 => fun cs x h => by simp [DataW.trod] at h
 | 1 => (Fa (Qs := [Dc Aa6 e1,Dc (fun l : List As => ∀ a ∈ l,Gp a) fun l => [slV eT 2 l]]) fl32 rfl fun m hm => ⟨Lw ut9,Gy ut30 ct32 Om B2 fun m' hm' => by omega,trivial⟩).mono fun avs h => by
  obtain ⟨_,_,⟨a,ha,rfl⟩,⟨_,_,⟨b,hb,rfl⟩,rfl,rfl⟩,rfl⟩ := h;exact ⟨.node a b,trivial,(Jr a b).symm⟩
 | n + 2 => (Fa (Qs := [Dc Aa6 e1,Dc (fun l : List As => ∀ a ∈ l,Gp a) fun l => [slV eT 2 l]]) fl32 rfl fun m hm => ⟨Lw ut9,Gy ut30 ct32 Om B2 fun m' hm' => by
   have : m' = n := by omega
   subst this
   exact Alz m',trivial⟩).mono fun avs h => by
  obtain ⟨_,_,⟨a,ha,rfl⟩,⟨_,_,⟨b,hb,rfl⟩,rfl,rfl⟩,rfl⟩ := h;exact ⟨.node a b,trivial,(Jr a b).symm⟩
theorem ut3 : Tryz.prog.underlying 3 = some (.int .i64) := Kr
theorem ut34 : Tryz.prog.underlying 34 = some (.slice 3) := Kr
theorem ut26 : Tryz.prog.underlying 26 = some (.slice 107) := Kr
theorem ut27 : Tryz.prog.underlying 27 = some (.slice 71) := Kr
theorem ut33 : Tryz.prog.underlying 33 = some (.slice 40) := Kr
theorem ct3 : Tryz.prog.cellsOf 3 = 1 := Kr
theorem ct107 : Tryz.prog.cellsOf 107 = 2 := Kr
theorem ct71 : Tryz.prog.cellsOf 71 = 3 := Kr
theorem ct40 : Tryz.prog.cellsOf 40 = 3 := Kr
theorem fl107 : Gm 107 = some [(9,0,1),(3,1,1)] := Kr
theorem fl71 : Gm 71 = some [(9,0,1),(3,1,1),(34,2,1)] := Kr
theorem fl40 : Gm 40 = some [(9,0,1),(3,1,1),(34,2,1)] := Kr
theorem fl29 : Gm 29 = some [(3,0,1),(26,1,1),(27,2,1)] := Kr
theorem Aft {n : Nat} : RdN eh w hd n 34 1 (Dc (Gp (α := List Int)) fun l => [slV eI 1 l]) :=
 (Gy (enc := eI) ut34 ct3 Om (fun _ => rfl) fun m _ => Aa7 ut3).mono fun avs ⟨l,_,h⟩ => ⟨l,trivial,h⟩
theorem rd_so {n : Nat} : RdN eh w hd n 107 2 (Dc Gp eSo) :=
 (Fa (Qs := [Dc Aa6 e1,Dc (fun _ => True) fun a : Int => [iV a]]) fl107 rfl fun m _ => ⟨Lw ut9,Aa7 ut3,trivial⟩).mono fun avs h => by
  obtain ⟨_,_,⟨a,_,rfl⟩,⟨_,_,⟨b,_,rfl⟩,rfl,rfl⟩,rfl⟩ := h;exact ⟨⟨a,b⟩,trivial,rfl⟩
theorem Atx {n : Nat} : RdN eh w hd n 26 1 (Dc (Gp (α := List So)) fun l => [slV eSo 2 l]) :=
 (Gy ut26 ct107 Om Afp fun m _ => rd_so).mono fun avs ⟨l,_,h⟩ => ⟨l,trivial,h⟩
theorem rd_sy {n : Nat} : RdN eh w hd n 71 3 (Dc Gp eSy) :=
 (Fa (Qs := [Dc Aa6 e1,Dc (fun _ => True) fun a : Int => [iV a],Dc (Gp (α := List Int)) fun l => [slV eI 1 l]]) fl71 rfl fun m _ => ⟨Lw ut9,Aa7 ut3,Aft,trivial⟩).mono fun avs h => by
  obtain ⟨_,_,⟨a,_,rfl⟩,⟨_,_,⟨b,_,rfl⟩,⟨_,_,⟨c,_,rfl⟩,rfl,rfl⟩,rfl⟩,rfl⟩ := h;exact ⟨⟨a,b,c⟩,trivial,rfl⟩
theorem Aty {n : Nat} : RdN eh w hd n 27 1 (Dc (Gp (α := List Sy)) fun l => [slV eSy 3 l]) :=
 (Gy ut27 ct71 Om Q5 fun m _ => rd_sy).mono fun avs ⟨l,_,h⟩ => ⟨l,trivial,h⟩
theorem rd_mg {n : Nat} : RdN eh w hd n 40 3 (Dc Gp eMg) :=
 (Fa (Qs := [Dc Aa6 e1,Dc (fun _ => True) fun a : Int => [iV a],Dc (Gp (α := List Int)) fun l => [slV eI 1 l]]) fl40 rfl fun m _ => ⟨Lw ut9,Aa7 ut3,Aft,trivial⟩).mono fun avs h => by
  obtain ⟨_,_,⟨a,_,rfl⟩,⟨_,_,⟨b,_,rfl⟩,⟨_,_,⟨c,_,rfl⟩,rfl,rfl⟩,rfl⟩,rfl⟩ := h;exact ⟨⟨a,b,c⟩,trivial,rfl⟩
theorem Atz {n : Nat} : RdN eh w hd n 33 1 (Dc (Gp (α := List Mg)) fun l => [slV eMg 3 l]) :=
 (Gy ut33 ct40 Om Iu fun m _ => rd_mg).mono fun avs ⟨l,_,h⟩ => ⟨l,trivial,h⟩
theorem At0 {n : Nat} : RdN eh w hd n 29 3 (Dc (Gp (α := Stc)) scC) :=
 (Fa (Qs := [Dc (fun _ => True) fun a : Int => [iV a],Dc (Gp (α := List So)) fun l => [slV eSo 2 l],Dc (Gp (α := List Sy)) fun l => [slV eSy 3 l]]) fl29 rfl fun m _ => ⟨Aa7 ut3,Atx,Aty,trivial⟩).mono fun avs h => by
  obtain ⟨_,_,⟨a,_,rfl⟩,⟨_,_,⟨b,_,rfl⟩,⟨_,_,⟨c,_,rfl⟩,rfl,rfl⟩,rfl⟩,rfl⟩ := h;exact ⟨⟨a,b,c⟩,trivial,rfl⟩
end
section
mutual
def Afu {H : Type} : DataW H -> List AV
 | .lit (.string s) => [sV s]
 | .lit (.bool b) => [.bool b]
 | .lit (.int k n) => [.int k n]
 | .agg ps => Aa9 ps
 | _ => [.any]
def Aa9 {H : Type} : List (DataW H) -> List AV
 | [] => []
 | d :: r => Afu d ++ Aa9 r
end
section
variable {H : Type} {eh : TypeId × Value -> H} {w : World} {hd : Bool}
def RdX (eh : TypeId × Value -> H) (w : World) (hd : Bool) (n : Nat) (t : TypeId) (k : Nat) : Prop :=
 ∀ (cs : List Value) (x : DataW H × List MemPlace),DataW.trod eh Tryz.prog w 0 (fun _ => true) hd n t cs = some x -> cs.length = k -> RL C0 0 w (Afu x.1) cs /\ ∀ v ∈ cs,v.oneCell = true
theorem Ar7 {n t : Nat} (ht : Tryz.prog.underlying t = some .string) : RdX eh w hd n t 1 := by
 intro cs x h hl;obtain ⟨s,rfl,rfl,_⟩ := DataW.trod_string ht h
 exact ⟨by rw [Afu]; unfold RL; exact ⟨by unfold sV R; exact ⟨s,rfl,rfl⟩,by unfold RL; trivial⟩,fun v hv => by rw [an_.1 hv]; rfl⟩
theorem Aql {n t : Nat} (ht : Tryz.prog.underlying t = some .bool) : RdX eh w hd n t 1 := by
 intro cs x h hl;obtain ⟨b,rfl,rfl⟩ := DataW.trod_bool ht h
 exact ⟨by rw [Afu]; unfold RL; exact ⟨by unfold R; rfl,by unfold RL; trivial⟩,fun v hv => by rw [an_.1 hv]; rfl⟩
theorem Al0 {n t : Nat} {k : IntKind} (ht : Tryz.prog.underlying t = some (.int k)) : RdX eh w hd n t 1 := by
 intro cs x h hl;obtain ⟨i,rfl,rfl,_⟩ := DataW.trod_int ht h
 exact ⟨by rw [Afu]; unfold RL; exact ⟨by unfold R; rfl,by unfold RL; trivial⟩,fun v hv => by rw [an_.1 hv]; rfl⟩
theorem Aba {m : Nat} {cs : List Value} : ∀ (fl : List (TypeId × Nat × Nat)) (xs : List (DataW H × List MemPlace)) (o : Nat),xs.length = fl.length ->
  (∀ (j : Nat) (f : TypeId × Nat × Nat),fl[j]? = some f -> RdX eh w hd m f.1 f.2.2 /\ DataW.trod eh Tryz.prog w 0 (fun _ => true) hd m f.1 ((cs.drop f.2.1).take f.2.2) = xs[j]?) -> Hg o fl = some cs.length -> RL C0 0 w (Aa9 (xs.map (·.1))) (cs.drop o) /\ ∀ v ∈ cs.drop o,v.oneCell = true
 | [],xs,o,hxl,_,hch => by
  simp only [Hg,ac_] at hch;subst hch;rw [ee_.1 hxl]
  exact ⟨by rw [fr_]; show RL C0 0 w (Aa9 []) []; rw [Aa9]; unfold RL; trivial,by rw [fr_]; intro v hv; cases hv⟩
 | (t0,off,k0) :: fl,[],o,hxl,_,_ => by simp at hxl
 | (t0,off,k0) :: fl,y :: xs,o,hxl,he,hch => by
  unfold Hg at hch
  split at hch
  case isFalse => cases hch
  case isTrue ho =>
  subst ho
  have ik : ∀ (fl : List (TypeId × Nat × Nat)) (o e : Nat),Hg o fl = some e -> o <= e := by
   intro fl
   induction fl with
   | nil => intro o e h; simp only [Hg,ac_] at h; omega
   | cons f fl ih =>
    intro o e h;obtain ⟨_,off,k⟩ := f;unfold Hg at h
    split at h
    ·have := ih _ _ h; omega
    ·cases h
  have hle := ik _ _ _ hch;obtain ⟨h1,h2⟩ := he 0 _ rfl
  obtain ⟨hra,hoa⟩ := h1 _ y h2 (by show ((cs.drop off).take k0).length = k0; rw [b_,cz_]; omega)
  obtain ⟨hrb,hob⟩ := Aba fl xs (off + k0) (by simpa using hxl) (fun j f hj => by have := he (j + 1) f (by simpa using hj); simpa using this) hch
  have e0 : cs.drop off = (cs.drop off).take k0 ++ cs.drop (off + k0) := by rw [← fo_,bx_]
  refine ⟨?_,?_⟩
  ·rw [e0]
   show RL C0 0 w (Aa9 (y.1 :: xs.map (·.1))) _
   rw [Aa9];exact hra.append hrb
  ·rw [e0];intro v hv
   rcases bq_.1 hv with hv | hv
   ·exact hoa v hv
   ·exact hob v hv
theorem Aj4 {n t k : Nat} {fl : List (TypeId × Nat × Nat)} (hf : Gm t = some fl) (hc : Hg 0 fl = some k) (hQ : ∀ m,m + 1 = n -> ∀ (j : Nat) (f : TypeId × Nat × Nat),fl[j]? = some f -> RdX eh w hd m f.1 f.2.2) : RdX eh w hd n t k := by
 intro cs x h hl;unfold Gm at hf
 split at hf
 case h_2 => cases hf
 case h_1 fs ht =>
 cases hf;obtain ⟨xs,m,hm,rfl,_,hxl,hxf⟩ := DataW.trod_struct ht h
 have := Aba (cs := cs) (eh := eh) (w := w) (hd := hd) (m := m) _ xs 0 (by rw [hxl,by_]; simp) (fun j f hj => ⟨hQ m hm.symm j f hj,by
  rw [az_,du_] at hj;obtain ⟨g,hg,rfl⟩ := hj
  dsimp only
  have h1 := hxf j g (by simpa using hg)
  exact h1⟩) (by rw [hc,hl])
 rw [eu_] at this;refine ⟨?_,this.2⟩;rw [Afu]; exact this.1
end
end
end Go.AM
