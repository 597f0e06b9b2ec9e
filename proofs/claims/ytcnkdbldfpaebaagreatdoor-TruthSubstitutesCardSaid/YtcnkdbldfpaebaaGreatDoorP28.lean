/- A part of the proof; shortened by program. -/
import Derived.ChangeArms
import Derived.SizedLaws
import Derived.OpenShut
import Derived.Test.YtcnkdbldfpaebaaGreatDoorP27
set_option maxRecDepth 100000
set_option maxHeartbeats 4000000
set_option linter.unusedSimpArgs false
set_option linter.unusedVariables false
namespace Go.AM
open Go Go.Proofs
mutual
theorem Al6 (x : Str) (b : Au) : ∀ t : Au,Bw (Dz x b t) <= Bw t * Bw b
 | .node s ks => by
  have h1 := Ahm b;have h2 := Ahy x b ks
  have h3 : Bw (.node s ks) * Bw b = Bw b + Dh ks * Bw b := by unfold Bw; rw [ez_,Nat.one_mul]
  rw [h3];unfold Dz
  split
  ·omega
  ·have h4 : Bw (.node s (subL x b ks)) = 1 + Dh (subL x b ks) := by unfold Bw; rfl
   omega
theorem Ahy (x : Str) (b : Au) : ∀ l : List Au,Dh (subL x b l) <= Dh l * Bw b
 | [] => by unfold subL Dh; omega
 | t :: r => by
  have h1 := Al6 x b t;have h2 := Ahy x b r;unfold subL Dh;rw [ez_];omega
end
mutual
theorem Att (x : Str) (b : Au) : ∀ t : Au,hT (Dz x b t) <= hT t + hT b
 | .node s ks => by
  have h2 := Aq2 x b ks
  have h3 : hT (.node s ks) = 1 + hL ks := by unfold hT; rfl
  have h4 : hT (.node s (subL x b ks)) = 1 + hL (subL x b ks) := by unfold hT; rfl
  unfold Dz
  split
  ·omega
  ·omega
theorem Aq2 (x : Str) (b : Au) : ∀ l : List Au,hL (subL x b l) <= hL l + hT b
 | [] => by unfold subL hL; omega
 | t :: r => by
  have h1 := Att x b t;have h2 := Aq2 x b r;unfold subL hL;omega
end
theorem Ahz {d : Db} (h : Aap d 15 60 = true) : DbB d /\ d.vars.length + d.frames.length < 1000000 := by
 unfold Aap at h;simp only [ad_,decide_eq_true_eq,am_,bt_] at h;obtain ⟨⟨⟨h1,h2⟩,h3⟩,h4⟩ := h
 refine ⟨⟨fun f hf => ?_,by omega,by omega,by omega⟩,by omega⟩
 have hf := ga_.1 h4 f hf;simp only [bigF,bc_,decide_eq_true_eq,am_,dt_,not_or,not_exists,not_and] at hf;obtain ⟨⟨⟨⟨⟨⟨⟨⟨k1,k2⟩,k3⟩,k4⟩,k5⟩,k6⟩,k7⟩,k8⟩,k9⟩ := hf
 refine ⟨by omega,by unfold Fr.all; simp; omega,by omega,fun h hh => ?_,by omega,by omega⟩
 have : Aao h = false := by
  rcases bo_.1 (show h ∈ f.hyps ++ f.dummies by simpa [Fr.all] using hh) with hh | hh
  ·have := k7 h hh; simpa using this
  ·have := k8 h hh; simpa using this
 unfold Aao at this;simp only [decide_eq_false_iff_not,am_] at this;omega
theorem Auw {m : Md} (h : fewM m = true) : MdB m := by
 unfold fewM at h;simp only [ad_,decide_eq_true_eq,am_,bt_] at h;obtain ⟨⟨h1,h2⟩,h3⟩ := h
 refine ⟨by omega,by omega,fun t ht => ?_⟩
 have := ga_.1 h3 t ht;unfold bigT at this;simp only [decide_eq_true_eq,am_] at this;omega
theorem Asy (n : Int) (l : List Int) : 0 <= Wl n l := by unfold Wl; (repeat' split) <;> omega
theorem Ah0 (g : List Rl) (n : Int) : ∀ (l : List Tb) (tm : SM (List Int)),0 <= (Mk g n l tm).1
 | [],tm => by unfold Mk; simp
 | t :: r,tm => by
  unfold Mk
  split
  ·simp
  ·split
   ·simp
   ·split
    ·simp
    ·split
     ·simp
     ·exact Ah0 g n r _
theorem Aq3 (d : Db) (m : Md) : 0 <= Fa (ofF d) m := by
 have h1 := Aq1 d;have h2 := Asy m.n m.des;have h3 := Ah0 (ofF d).1.rules m.n m.tabs [];unfold Fa Ml;simp only
 repeat' split
 all_goals first | omega | (simp; done)
theorem Aux (g : Gr) (t : Au) : 0 <= okC g t 192 := by unfold okC; split <;> omega
theorem Al7 (d : Db) (t : Au) : 0 <= I6 d t := by
 have h1 := Aq1 d;have h2 := Aux (ofF d).1 t;unfold I6; split <;> omega
theorem Ah1 (n : Int) (l : List Vl) : ∀ s : List Str,0 <= Mj n l s
 | [] => by unfold Mj; omega
 | s :: r => by
  unfold Mj
  split
  ·omega
  ·split
   ·omega
   ·exact Ah1 n l r
theorem Ah2 (d : Db) (m : Md) (t : Au) (l : List Vl) : 0 <= Ex d m t l := by
 have h1 := Aq3 d m;have h2 := Al7 d t;have h3 := Ah1 m.n l (D8 (ofF d).1.rules t []);unfold Ex Ajx
 repeat' split
 all_goals omega
theorem Asz (d : Db) (t : Au) (x : Str) (b : Au) : 0 <= Jm d t x b := by
 have h2 := Al7 d t;unfold Jm
 repeat' split
 all_goals omega
theorem Ah3 {d : Db} {m : Md} {t : Au} {l : List Vl} (h : Ex d m t l = 0) : Fa (ofF d) m = 0 /\ I6 d t = 0 /\ Ajx (ofF d).1.rules m.n l t = 0 := by
 unfold Ex at h
 split at h
 ·rename_i h1
  split at h
  ·rename_i h2; exact ⟨h1,h2,h⟩
  ·rename_i h2; exact absurd h h2
 ·rename_i h1; exact absurd h h1
theorem Ah4 {d : Db} {m : Md} {t : Au} {l : List Vl} (h : Ex d m t l = 0) : Gj d m t l = evE (ofF d).1.rules (tmO d m) m.n l t := by unfold Gj; rw [if_pos h]
theorem Auy {d : Db} {m : Md} {t b : Au} {x : Str} {l : List Vl} (hS : Jm d t x b = 0) (hA : Ex d m (Dz x b t) l = 0) (hB : Ex d m b l = 0) :
  Ex d m t (⟨x,Gj d m b l⟩ :: l) = 0 /\ Gj d m t (⟨x,Gj d m b l⟩ :: l) = Gj d m (Dz x b t) l := by
 obtain ⟨s1,s2,s3⟩ := Asu hS;obtain ⟨a1,a2,a3⟩ := Ah3 hA;obtain ⟨b1,b2,b3⟩ := Ah3 hB;obtain ⟨n1,n5,htm⟩ := Ahs a1
 have hvb : Gj d m b l = evE (ofF d).1.rules (tmO d m) m.n l b := by unfold Gj; rw [if_pos hB]
 obtain ⟨q1,q2⟩ := Anl (Xk d).rs htm s2 (Afa s1) (Afa b2) a3 b3;rw [← hvb] at q1 q2
 have hE : Ex d m t (⟨x,Gj d m b l⟩ :: l) = 0 := by unfold Ex; rw [if_pos a1,if_pos s1]; exact q1
 exact ⟨hE,by rw [Ah4 hE,Ah4 hA]; exact q2⟩
theorem A6.look {f : Nat} {args args' : List AV} {J : Sto} {p q : Int} (hz : FzL J ⟨.e,nx J⟩ args args')
  (h : A6 Ew f args' ⟨.e,nx J⟩ (fun v τ => v = .tup [iV p,iV q] /\ τ = ⟨.e,nx J⟩)) : A6 Ew f args J (fun v τ => v = .tup [iV p,iV q] /\ τ = J) := by
 have hu : ∀ (C C' : Ctx) (N N' : Nat) (w : World) (x : Value),R C N w (.tup [iV p,iV q]) x -> R C' N' w (.tup [iV p,iV q]) x := fun C C' N N' w x h => by
  unfold iV R RL at h ⊢;obtain ⟨a,h1,h2⟩ := h;refine ⟨a,h1,?_⟩;cases ha : a.toList with
  | nil => rw [ha] at h2; exact h2.elim
  | cons y r =>
   rw [ha] at h2;refine ⟨?_,?_⟩
   ·have := h2.1; unfold R at this ⊢; exact this
   ·cases r with
    | nil => have := h2.2; unfold RL at this; exact this.elim
    | cons z s =>
     have h3 := h2.2;unfold RL at h3 ⊢;refine ⟨?_,?_⟩
     ·have := h3.1; unfold R at this ⊢; exact this
     ·cases s with
      | nil => unfold RL; trivial
      | cons u v => have := h3.2; unfold RL at this; exact this.elim
 intro C w vs hs hg ha
 have hf : H9 J ⟨.e,nx J⟩ := ⟨nl,fun a O h => by cases h⟩
 obtain ⟨h1,h2⟩ := h (C.keep ⟨.e,nx J⟩) w vs (hs.frz hf) hg.frz (FzL.RL hs hz ha);refine ⟨h1,h2.mono fun e w' he => ?_⟩
 cases e with
 | returned x =>
  obtain ⟨v,τ',C',⟨rfl,rfl⟩,k1,k2,k3⟩ := he
  have bt : ∀ b,b < w.heap.size -> w'.heap[b]? = w.heap[b]? := fun b hb => by
   by_cases hr : (C.keep ⟨.e,nx J⟩).own b
   ·rcases hr with hr | ⟨a,o,hl⟩
    ·exact k2.res.2 b hr
    ·simp [Ctx.keep,Sto.get,Tr.get] at hl
   ·exact (k2.keep b hb hr).2
  obtain ⟨q1,q2⟩ := hs.same k2.size bt k2.os;exact ⟨_,J,C,⟨rfl,rfl⟩,q1,q2,hu _ _ _ _ _ _ k3⟩
 | panicked _ => exact he.elim
 | outgrown => exact he.elim
theorem Uy (v : Vl) : (eVl v).length = 2 := rfl
theorem Ah5 {N : Nat} (v : Vl) : AV.unds N (eVl v) = true := rfl
theorem Anu {N : Nat} (m : Md) : AV.und N (mdV m) = true := by
 show (true && (AV.und N (slV eI 1 m.des) && (AV.und N (slV eTb 2 m.tabs) && true))) = true
 rw [show AV.und N (slV eI 1 m.des) = true from Ez (fun _ => rfl) _,Ez Ahv]; rfl
theorem f3 (d : Db) (m : Md) (t b : Au) (x : Str) (l : List Vl) (J : Sto) (hA : ∀ τ,Cv 7 [] τ (.bool true)) : Cv 3 [dbV d,mdV m,Bg t,Bg b,sV x,slV eVl 2 l] J (.bool true) := by
 cases b with
 | node lb kb =>
 refine Az Tryz.func3 rfl rfl fun hw hu0 => ?_
 refine Ac (Aa (Ar Hy rfl rfl rfl (Ar Apg rfl rfl rfl (Ar Bv rfl (Bj (A2 _)) rfl (Ar Bv rfl (Bj (A2 _)) rfl (OA rfl (Ab ?_)))))))
 refine Ac (Ac (Aa (O1 (Ae Hy rfl rfl rfl) (Ap rfl rfl rfl rfl (f9 d 15 60 _ (by decide) (by decide)) ?_))))
 refine O1 (Bb rfl) (OM rfl ?_);refine Cm 3 _ ?_ rfl rfl rfl rfl rfl (Aw rfl) (fun hg => ?_) (fun hg => ?_) ?_
 rotate_left
 ·refine On hg (Ae Apg rfl rfl rfl) (B5 rfl rfl rfl (by rw [hg]; rfl) rfl rfl rfl rfl (f5 m _) ?_)
  refine On hg (Bb rfl) (Ab ?_);refine ⟨rfl,?_,?_⟩
  ·exact sb
  ·exact rfl
 ·refine Of hg (Of hg (Of hg (Ab ?_)));exact ⟨rfl,sb⟩
 refine OM rfl ?_;refine Cm 3 _ ?_ rfl rfl rfl rfl rfl (Aw rfl) (fun hg => ?_) (fun hg => ?_) ?_
 rotate_left
 ·refine On hg (Ae Bv rfl rfl (A9 (A2 _))) (B5 rfl rfl rfl (by rw [hg]; rfl) rfl rfl rfl rfl (f6 t 30 _ (by decide) (by decide)) ?_)
  refine On hg (Bb rfl) (Ab ?_);refine ⟨rfl,?_,?_⟩
  ·exact sb
  ·exact rfl
 ·refine Of hg (Of hg (Of hg (Ab ?_)));exact ⟨rfl,sb⟩
 refine OM rfl ?_;refine Cm 3 _ ?_ rfl rfl rfl rfl rfl (Aw rfl) (fun hg => ?_) (fun hg => ?_) ?_
 rotate_left
 ·refine On hg (Ae Bv rfl rfl (A9 (A2 _))) (B5 rfl rfl rfl (by rw [hg]; rfl) rfl rfl rfl rfl (f6 (Au.node lb kb) 30 _ (by decide) (by decide)) ?_)
  refine On hg (Bb rfl) (Ab ?_);refine ⟨rfl,?_,?_⟩
  ·exact sb
  ·exact rfl
 ·refine Of hg (Of hg (Of hg (Ab ?_)));exact ⟨rfl,sb⟩
 refine OM rfl ?_;refine Cm 3 _ ?_ rfl rfl rfl rfl rfl (Aw rfl) (fun hg => ?_) (fun hg => ?_) ?_
 rotate_left
 ·refine On hg (Ag rfl) (On hg (Aq sl33 rfl) (On hg (Ca (q := 20) ok3 rfl rfl) (Ab ?_)));refine ⟨rfl,?_,?_⟩
  ·exact sb
  ·exact rfl
 ·refine Of hg (Of hg (Of hg (Ab ?_)));exact ⟨rfl,sb⟩
 refine Ab ?_;refine Ah rfl ?_ ?_ <;> intro h1
 ·skip
  refine Ac (Aa (Ap rfl rfl rfl rfl (hA _) (OA rfl (Ab ?_))));refine An (Bq hw rfl ?_)
  rfl
 ·have h1' : ((((!Aap d 15 60 || !fewM m) || !Apv t 30) || !Apv (Au.node lb kb) 30) || decide ((20 : Int) < Int.ofNat l.length)) = false := h1
  simp only [cp_,ev_] at h1';obtain ⟨⟨⟨⟨g1,g2⟩,g3⟩,g4⟩,g5⟩ := h1';obtain ⟨hD,hvf⟩ := Ahz g1;have hM := Auw g2;have hct : Bw t <= 30 := Aqq (n := 30) g3;have hcb : Bw (Au.node lb kb) <= 30 := Aqq (n := 30) g4
  have hll : l.length <= 20 := by have h9 := g5; simp at h9; omega
  have hht := Aqs t;have hhb := Aqs (Au.node lb kb);have hsc : Bw (Dz x (Au.node lb kb) t) <= 900 := ax_ (Al6 x (Au.node lb kb) t) (Nat.mul_le_mul hct hcb);have hsh := Att x (Au.node lb kb) t
  have huc : Bw (if (Jm d t x (Au.node lb kb)) = 0 then Dz x (Au.node lb kb) t else O3) <= 900 := by split; exact hsc; decide
  have huh : hT (if (Jm d t x (Au.node lb kb)) = 0 then Dz x (Au.node lb kb) t else O3) <= 60 := by split; omega; decide
  have hu1 := hu0;simp only [AV.unds,ad_] at hu1;obtain ⟨u1,u2,u3,u4,_⟩ := hu1
  refine Ai (Ac (Aa (O1 (Ae Apg rfl rfl rfl) (Ap rfl rfl rfl rfl (f8o m _ (by have := hM.t; omega)) ?_))))
  refine Bz zi40 Aaj rfl (fun _ => rfl) rfl rfl rfl rfl ?_
  refine Ab (Ac (Aa (OA rfl (Ab (Ac (Ac (Aa ?_)))))));refine OM rfl (O1 (Aq sl33 rfl) (OM rfl (Ab (Am ?_))));refine Fi (fun q : Nat × AV => [(4,sV x),(6,.pv [A3 d.consts,A3 d.vars,slV eF 8 d.frames]),(8,.pv (eT t)),(9,.pv (eT (Au.node lb kb))),(13,.pv [iV m.n,slV eI 1 m.des,slV eTb 2 m.tabs]),(14,q.2),(50,slV eVl 2 l),(51,iV (.ofNat l.length)),(52,iV (.ofNat q.1))]) (fun q J0 => q.1 <= l.length /\ Own J0 (nx J) eVl 2 (l.take q.1) q.2 /\ Below (nx J) J J0) (fun q => l.length - q.1) (0,.nil (.slice none 0 0)) SL ⟨ch_ _,Own.nil,eo_⟩ ?_
  rintro ⟨i0,v0⟩ J0 hP0;obtain ⟨hi0,ck,hB0⟩ : i0 <= l.length /\ Own J0 (nx J) eVl 2 (l.take i0) v0 /\ Below (nx J) J J0 := hP0;refine Ac (Aa (O1 (A8 ok3 rfl rfl) (Ab (Ac ?_))));refine Ah rfl ?_ ?_ <;> intro h2
  ·have bf : i0 < l.length := by simpa using h2
   obtain ⟨a0,ha0⟩ := Bt bf;have hd0 := Bh ha0
   have bh : ((l.take i0).length + [a0].length) * (24 + 1) <= sizeLim := by rw [bl_]; simp [sizeLim]; omega
   obtain ⟨v1,τ1,hap,ho1,hb1,_⟩ := ck.app (by' := 24) Uy hB0.1 [a0] bh
   refine Ai (Ac (Am (Ac (Aa (O1 (Ax el33 (fun _ => rfl) rfl rfl ha0) ?_)))))
   refine O1 (Ae ld44 rfl rfl rfl) (Bz zi44 ld44 rfl (fun _ => rfl) rfl rfl rfl rfl ?_)
   refine Ab (Aa (OM rfl (O1 (Ae ld44 rfl rfl rfl) (E6 (Bn Aer byW rfl rfl rfl) (Gd (len := 1)) rfl rfl (O1 (B0 Aer rfl sl42 rfl rfl rfl (new := [a0].flatMap eVl) rfl hap) (OA rfl (Ab ?_)))))));refine Aa (O1 (Ay (q := 1) ok3 rfl rfl Om) ?_);refine OM rfl (Ab ?_)
   refine ⟨(i0 + 1,v1),by show l.length - (i0 + 1) < l.length - i0; omega,SL,bf,by rw [Ci ha0]; exact ho1,hB0.trans hb1⟩
  ·have bq : l.length <= i0 := by simpa using h2
   rw [at_ bq] at ck;refine As9 J [(4,sV x),(6,.pv [A3 d.consts,A3 d.vars,slV eF 8 d.frames]),(8,.pv (eT t)),(9,.pv (eT (Au.node lb kb))),(13,.pv [iV m.n,slV eI 1 m.des,slV eTb 2 m.tabs]),(14,slV eVl 2 l)] (ap_ hw hB0) nl ⟨⟨_,rfl,.same rfl⟩,⟨_,rfl,.same u1⟩,⟨_,rfl,.same u3⟩,⟨_,rfl,.same u4⟩,⟨_,rfl,.same u2⟩,⟨_,rfl,ck.fz Uy (fun a ha => hw.none ha) (Co Ah5 _)⟩,trivial⟩ ?_
   refine Ba ?_;refine Ac (Aa (O1 (Ae Hy rfl rfl rfl) (O1 (Ae Bv rfl rfl (A9 (A2 _))) (OM rfl (O1 (Ae Bv rfl rfl (A9 (A2 _))) (O1 (B1 bd50 rfl rfl) (E6 (Bn el51 byW rfl rfl rfl) (Gd (len := 1)) rfl rfl ?_)))))));refine Ap rfl rfl rfl rfl (f9s d t x (Au.node lb kb) _ hD hvf Om Om Om Om Om Om) ?_;refine OM rfl (O1 (Al rfl rfl) (O1 (Al rfl rfl) (Bz Sk Bv rfl (fun _ => rfl) rfl (Bj (A2 _)) rfl rfl ?_)))
   refine OA rfl (Ab (Ac (Aa (O1 (Ae Hy rfl rfl rfl) (O1 (Ae Aaj rfl rfl rfl) (O1 (Ae Bv rfl rfl (A9 (A2 _))) (OM rfl ?_)))))));refine Ap rfl rfl rfl rfl (f10 d m (if (Jm d t x (Au.node lb kb)) = 0 then Dz x (Au.node lb kb) t else O3) l _ hD hvf hM Om Om Om) ?_;refine OM rfl (O1 (Al rfl rfl) (O1 (Al rfl rfl) (OA rfl (OA rfl (Ab (Ac (Aa ?_)))))));refine O1 (Ae Hy rfl rfl rfl) (O1 (Ae Aaj rfl rfl rfl) (O1 (Ae Bv rfl rfl (A9 (A2 _))) (OM rfl (Ap rfl rfl rfl rfl (f10 d m (Au.node lb kb) l _ hD hvf hM Om Om Om) ?_))));refine OM rfl (O1 (Al rfl rfl) (O1 (Al rfl rfl) (OA rfl (OA rfl (Ab (Ac (Ac ?_)))))));refine Aa (OM rfl (OM rfl (OM rfl (O1 (Ar1 Jj rfl rfl rfl) (O1 (Cx (q := 0) Jj rfl rfl) (Ab ?_))))));refine Ah rfl ?_ ?_ <;> intro h3
   ·skip
    refine Ac (Aa (Ap rfl rfl rfl rfl (hA _) (OA rfl (Ab ?_))));refine An (Bq hw rfl ?_)
    rfl
   ·have hmx : max (max (Jm d t x (Au.node lb kb)) (Ex d m (if (Jm d t x (Au.node lb kb)) = 0 then Dz x (Au.node lb kb) t else O3) l)) (Ex d m (Au.node lb kb) l) = 0 := by simpa using h3
    have z1 := Asz d t x (Au.node lb kb);have z2 := Ah2 d m (if (Jm d t x (Au.node lb kb)) = 0 then Dz x (Au.node lb kb) t else O3) l;have z3 := Ah2 d m (Au.node lb kb) l
    have y1 : (Jm d t x (Au.node lb kb)) = 0 := by omega
    have y2 : Ex d m (if (Jm d t x (Au.node lb kb)) = 0 then Dz x (Au.node lb kb) t else O3) l = 0 := by omega
    have y3 : Ex d m (Au.node lb kb) l = 0 := by omega
    rw [if_pos y1] at y2;obtain ⟨e1,e2⟩ := Auy y1 y2 y3
    obtain ⟨v2,τ2,oc,hoX,hbX,_⟩ := Agi.app (by' := 24) (enc := eVl) (sz := 2) (N := nx J) (J := J) (l := [⟨x,(Gj d m (Au.node lb kb) l)⟩]) Uy nl (.inl rfl) l (by simp [sizeLim]; omega)
    have od : A6 Ew 10 [dbV d,mdV m,Bg t,v2] τ2 fun v J' => v = .tup [iV (Gj d m t (⟨x,(Gj d m (Au.node lb kb) l)⟩ :: l)),iV (Ex d m t (⟨x,(Gj d m (Au.node lb kb) l)⟩ :: l))] /\ J' = τ2 := A6.look (.cons (.same (AV.und_mono hbX.1 _ u1)) (.cons (.same (Anu m)) (.cons (.same (Ua t)) (.cons (hoX.fz Uy (fun a ha => rfl) (Co Ah5 _)) .nil)))) (f10 d m t (⟨x,(Gj d m (Au.node lb kb) l)⟩ :: l) ⟨.e,nx τ2⟩ hD hvf hM Om Om (by simp; omega))
    refine Ai (Ac ?_);refine Ig 1 (anns := [aR 0 1,aR 0 1,aR 0 1,aP 0 0,aP 0 0,aP 0 0,aP 0 0,aP 0 0,aE 0 1,aE 1 2,aP 2 2,aP 2 2,aP 2 2,aP 2 2,aP 2 2]) A1 (As (l := [(10,[dbV d,mdV m,Bg t,v2],τ2,.tup [iV (Gj d m t (⟨x,(Gj d m (Au.node lb kb) l)⟩ :: l)),iV (Ex d m t (⟨x,(Gj d m (Au.node lb kb) l)⟩ :: l))],τ2)]) ⟨od,trivial⟩) Kr Kr ?_;refine DF (Ae Hy rfl rfl rfl) (DF (Ae Aaj rfl rfl rfl) (DF (Ae Bv rfl rfl (A9 (A2 _))) (DF (Ag rfl) (DF (Ag rfl) (DF (B1 bd45 rfl rfl) (DF (Bn Aer byW rfl rfl rfl) (DF (Ag rfl) ?_)))))));refine DT (B0 Aer rfl sl42 rfl rfl rfl (Ue Uy _ l) oc) (DT (Bl rfl rfl Bm) (DF (Ag rfl) (DF (Al rfl rfl) (DF (Al rfl rfl) (DF (Bk rfl) (DF (Bk rfl) (Bi ?_)))))))
    refine ⟨(by intro e he; simp at he; rcases he with rfl | rfl <;> first | exact .refl | exact Wa.below hw hbX),?_⟩
    refine Ac (Aa (OM rfl (O1 (Do (q := 0) Jj rfl rfl) (OM rfl ?_))));refine Cy 3 _ ?_ rfl rfl rfl rfl rfl (Aw rfl) (fun hg => ?_) (fun hg => ?_) ?_
    rotate_left
    ·refine On hg (Ag rfl) (On hg (Ag rfl) (On hg (Do ok3 rfl rfl) (Ab ?_)));refine ⟨rfl,?_,?_⟩
     ·exact sb
     ·exact rfl
    ·refine Of hg (Of hg (Of hg (Ab ?_)));exact ⟨rfl,sb⟩
    refine OM rfl ?_;refine Cy 1 _ ?_ rfl rfl rfl rfl rfl (Aw rfl) (fun hg => ?_) (fun hg => ?_) ?_
    rotate_left
    ·refine B5 rfl rfl rfl (by rw [hg]; rfl) rfl rfl rfl rfl (hA _) ?_
     refine Ab ?_;refine ⟨rfl,?_,?_⟩
     ·exact sb
     ·exact rfl
    ·refine Of hg (Ab ?_);exact ⟨rfl,sb⟩
    refine OA rfl (Ab ?_);refine An ?_;refine ⟨_,rfl,_,J,ap_ hw hbX,nl,.same rfl,?_,rfl⟩;rw [if_pos y1,e1,e2]; simp; rfl
def C0 : Ctx := ⟨fun _ => none,fun _ => 0,fun _ => False,fun _ => none⟩
theorem Aj5 (b : Nat) : ¬ C0.own b := fun hb => hb.elim (fun h => h) fun ⟨a,o,h⟩ => by cases h
theorem sim0 (w : World) : Sim Tryz.prog C0 w ⟨.e,0⟩ :=
 ⟨fun a O hg => (by simp [Sto.get,Tr.get] at hg),fun a O hg => (by simp [Sto.get,Tr.get] at hg),fun a p hp => (by cases hp),fun a b c o o' ha => (by cases ha),fun a c o ha => (by cases ha),fun b hb => False.elim hb,fun a c o ha => (by cases ha)⟩
theorem Aj6 {f : Nat} {args : List AV} {vs : Array Value} {w : World} (h : A6 Ew f args ⟨.e,0⟩ fun v J' => v = .bool true /\ J' = ⟨.e,0⟩) (hg : Fh C0 0 w Ew) (ha : RL C0 0 w args vs.toList) :
  Calls Tryz.prog f vs w fun e w' => e = .returned (.bool true) /\ w.heap.size <= w'.heap.size /\ (∀ b,b < w.heap.size -> w'.heap[b]? = w.heap[b]?) /\ w'.os = w.os /\ w'.output = w.output := by
 refine (h C0 w vs (sim0 w) hg ha).2.mono fun e w' he => ?_
 cases e with
 | returned x =>
  obtain ⟨v,J',C',⟨rfl,rfl⟩,k1,k2,k3⟩ := he;unfold R at k3;subst k3;exact ⟨rfl,k2.size,fun b hb => (k2.keep b hb (Aj5 b)).2,k2.os⟩
 | panicked _ => exact he.elim
 | outgrown => exact he.elim
section
variable {H : Type} {eh : TypeId × Value -> H} {w : World} {hd : Bool}
def RdN (eh : TypeId × Value -> H) (w : World) (hd : Bool) (n : Nat) (t : TypeId) (k : Nat) (Q : List AV -> Prop) : Prop :=
 ∀ (cs : List Value) (x : DataW H × List MemPlace),DataW.trod eh Tryz.prog w 0 (fun _ => true) hd n t cs = some x -> cs.length = k -> (∀ b ∈ x.1.weights Tryz.prog t,b <= reachBytes) -> ∃ avs,Q avs /\ RL C0 0 w avs cs /\ ∀ v ∈ cs,v.oneCell = true
def Eg {α : Type} (G : α -> Prop) (enc : α -> List AV) : List AV -> Prop := fun avs => ∃ a,G a /\ avs = enc a
def Abs (s : Str) : Prop := s.length <= 281474976710656
theorem L1 {n t : Nat} (ht : Tryz.prog.underlying t = some .string) : RdN eh w hd n t 1 (Eg Abs e1) := by
  intro cs x h hl hw;obtain ⟨s,rfl,rfl,_⟩ := DataW.trod_string ht h
  have := hw s.data.toList.length (by unfold DataW.weights; exact bj_ _)
  exact ⟨[sV s.data.toList],⟨_,by unfold Abs; exact Nat.le_trans this (by decide),rfl⟩,by unfold RL; exact ⟨by unfold sV R; exact ⟨s,rfl,rfl⟩,by unfold RL; trivial⟩,fun v hv => by rw [al_.1 hv]; rfl⟩
theorem Al8 {n t : Nat} (ht : Tryz.prog.underlying t = some .bool) : RdN eh w hd n t 1 (Eg (fun _ => True) fun b : Bool => [.bool b]) := by
 intro cs x h hl hw;obtain ⟨b,rfl,rfl⟩ := DataW.trod_bool ht h
 exact ⟨[.bool b],⟨b,trivial,rfl⟩,by unfold RL; exact ⟨by unfold R; rfl,by unfold RL; trivial⟩,fun v hv => by rw [al_.1 hv]; rfl⟩
theorem Aj7 {n t : Nat} (ht : Tryz.prog.underlying t = some (.int .i64)) : RdN eh w hd n t 1 (Eg (fun _ => True) fun a : Int => [iV a]) := by
 intro cs x h hl hw;obtain ⟨i,rfl,rfl,_⟩ := DataW.trod_int ht h
 exact ⟨[iV i],⟨i,trivial,rfl⟩,by unfold RL; exact ⟨by unfold iV R; rfl,by unfold RL; trivial⟩,fun v hv => by rw [al_.1 hv]; rfl⟩
theorem Ade {α β : Type} {f : α -> Option β} : ∀ {is : List α} {l : List β},is.mapM f = some l -> l.length = is.length /\ ∀ (j : Nat) (i : α),is[j]? = some i -> ∃ a : β,f i = some a /\ l[j]? = some a
 | [],l,h => by simp at h; subst h; exact ⟨rfl,fun j i hj => by simp at hj⟩
 | i0 :: is,l,h => by
  simp only [gl_,Option.bind_eq_bind,ew_,Option.pure_def,ac_] at h;obtain ⟨a,h1,l',h2,rfl⟩ := h;obtain ⟨k1,k2⟩ := Ade h2
  refine ⟨by simp [k1],fun j i hj => ?_⟩
  cases j with
  | zero => simp at hj; subst hj; exact ⟨a,h1,by simp⟩
  | succ j => simp at hj; obtain ⟨b,q1,q2⟩ := k2 j i hj; exact ⟨b,q1,by simpa using q2⟩
theorem Wp {a : Addr} {v : Value} (h : w.cell? a = some v) : a.spot = none /\ w.cell? ⟨a.block,a.off,none⟩ = some v := by
 have hs : a.spot = none := by
  cases hs : a.spot with
  | none => rfl
  | some s => unfold World.cell? at h; rw [hs] at h; split at h <;> simp at h
 obtain ⟨b,o,s⟩ := a;cases hs;exact ⟨rfl,h⟩
theorem Uz (a : Addr) (n : Nat) : (a.add n).off = a.off + n /\ (a.add n).block = a.block := by unfold Addr.add; split <;> simp_all
theorem Aaz {a : Addr} {k : Nat} {cs : List Value} (h : w.cells? 0 a k = some cs) : cs.length = k /\ ∀ (r : Nat) (v : Value),cs[r]? = some v -> w.cell? (a.add r) = some v := by
 unfold World.cells? at h;rw [if_pos (ch_ _)] at h;obtain ⟨h1,h2⟩ := Ade h
 refine ⟨by simpa using h1,fun r v hv => ?_⟩
 have hr := (ae_.1 hv).1
 obtain ⟨b,q1,q2⟩ := h2 r r (by rw [List.getElem?_range (by rw [List.length_range] at h1; omega)])
 rw [hv] at q2; cases q2; exact q1
theorem Adf {α : Type} {P : Nat -> α -> Prop} : ∀ {n : Nat},(∀ i,i < n -> ∃ a,P i a) -> ∃ l : List α,l.length = n /\ ∀ (i : Nat) (a : α),l[i]? = some a -> P i a
 | 0,_ => ⟨[],rfl,fun i a h => by simp at h⟩
 | n + 1,h => by
  obtain ⟨l,h1,h2⟩ := Adf (n := n) fun i hi => h i Om
  obtain ⟨a,ha⟩ := h n Om
  refine ⟨l ++ [a],by simp [h1],fun i b hb => ?_⟩
  by_cases hi : i < n
  ·rw [bx_ Om] at hb; exact h2 i b hb
  ·have hlt := (ae_.1 hb).1
   simp at hlt
   have : i = n := by omega
   subst this;rw [co_ Om] at hb
   simp [h1] at hb
   subst hb; exact ha
theorem Al9 {α : Type} {enc : α -> List AV} {k c o : Nat} (he : ∀ a,(enc a).length = k) : ∀ (l : List α) (i0 : Nat),(∀ (i : Nat) (a : α),l[i]? = some a -> ∀ (r : Nat) (x : AV),(enc a)[r]? = some x -> ∃ v,w.cell? ⟨c,o + ((i0 + i) * k + r),none⟩ = some v /\ v.oneCell = true /\ R C0 0 w x v) -> RC C0 0 w c (l.flatMap enc) (o + i0 * k)
 | [],i0,_ => by unfold List.flatMap; simp; unfold RC; trivial
 | a :: l,i0,h => by
  rw [cn_]
  have h2 := Al9 he l (i0 + 1) fun i b hb r x hx => by
   have := h (i + 1) b (by simpa using hb) r x hx
   rwa [show i0 + (i + 1) = i0 + 1 + i by omega] at this
  have key : ∀ (row : List AV) (r0 : Nat),r0 + row.length = k -> (∀ (r : Nat) (x : AV),row[r]? = some x -> ∃ v,w.cell? ⟨c,o + (i0 * k + (r0 + r)),none⟩ = some v /\ v.oneCell = true /\ R C0 0 w x v) -> RC C0 0 w c (row ++ l.flatMap enc) (o + (i0 * k + r0)) := by
   intro row
   induction row with
   | nil => intro r0 hr _; simp at hr; subst hr; rw [br_,show o + (i0 * r0 + r0) = o + (i0 + 1) * r0 by rw [fn_]]; exact h2
   | cons x row ih =>
    intro r0 hr hx;rw [av_];unfold RC
    refine ⟨by have := hx 0 x (by simp); simpa using this,?_⟩
    have := ih (r0 + 1) (by simp at hr; omega) fun r y hy => by
     have := hx (r + 1) y (by simpa using hy)
     rwa [show r0 + (r + 1) = r0 + 1 + r by omega] at this
    rwa [show o + (i0 * k + (r0 + 1)) = o + (i0 * k + r0) + 1 by omega] at this
  have := key (enc a) 0 (by rw [he]; omega) fun r x hx => by
   have := h 0 a (by simp) r x hx
   simpa using this
  simpa using this
theorem Atu : ∀ {l : List AV} {vs : List Value},RL C0 0 w l vs -> ∀ (r : Nat) (x : AV),l[r]? = some x -> ∃ v,vs[r]? = some v /\ R C0 0 w x v
 | [],_,_,r,x,h => by simp at h
 | y :: l,[],h,_,_,_ => by unfold RL at h; exact h.elim
 | y :: l,v :: vs,h,r,x,hx => by
  unfold RL at h;cases r with
  | zero => simp at hx; subst hx; exact ⟨v,by simp,h.1⟩
  | succ r => simp at hx; obtain ⟨u,q1,q2⟩ := Atu h.2 r x hx; exact ⟨u,by simpa using q1,q2⟩
theorem Io {α : Type} {enc : α -> List AV} {G : α -> Prop} {n t e k : Nat} (ht : Tryz.prog.underlying t = some (.slice e)) (hc : Tryz.prog.cellsOf e = k) (hk : 0 < k) (he : ∀ a,(enc a).length = k) (hE : ∀ m,m + 1 = n -> RdN eh w hd m e k (Eg G enc)) :
  RdN eh w hd n t 1 (Eg (fun l : List α => ∀ a ∈ l,G a) fun l => [slV enc k l]) := by
 intro cs x h hl hw
 rcases DataW.trod_slice ht h with ⟨rfl,rfl⟩ | ⟨a,len,cap,elems,rest,n0,hn,rfl,rfl,_,hlc,_,hel0,hel,hsp,_⟩
 ·exact ⟨[slV enc k []],⟨[],fun a h => (by cases h),rfl⟩,by unfold RL; exact ⟨by unfold slV R; exact ⟨none,0,rfl,nl,fun q hq => (by cases hq),by simp,fun _ => rfl,fun ad ha => (by cases ha)⟩,by unfold RL; trivial⟩,fun v hv => by rw [al_.1 hv]; rfl⟩
 ·rw [hc] at hel hsp
  have hws : ∀ y ∈ elems,∀ b ∈ y.1.weights Tryz.prog e,b <= reachBytes := fun y hy b hb => hw b (by
   unfold DataW.weights;rw [ht];refine ak_ _ (cz_ _ ?_)
   have key : ∀ {l : List (DataW H × List MemPlace)},y ∈ l -> b ∈ DataW.weightsAll Tryz.prog e (l.map (·.1)) := by
    intro l
    induction l with
    | nil => intro h; cases h
    | cons z l ih =>
     intro h
     show b ∈ z.1.weights Tryz.prog e ++ DataW.weightsAll Tryz.prog e (l.map (·.1))
     rcases aj_.1 h with rfl | h
     ·exact cz_ _ hb
     ·exact do_ _ (ih h)
   exact key hy)
  obtain ⟨l,hll,hlp⟩ := Adf (n := len) (P := fun i a' => G a' /\ ∀ (r : Nat) (x : AV),(enc a')[r]? = some x -> ∃ v,w.cell? ((a.add (i * k)).add r) = some v /\ v.oneCell = true /\ R C0 0 w x v) fun i hi => by
   obtain ⟨y,hy⟩ : ∃ y,elems[i]? = some y := ⟨_,ao_ Om⟩;have hb := hel i hi;rw [hy,ew_] at hb;obtain ⟨ci,hci,hti⟩ := hb;obtain ⟨c1,c2⟩ := Aaz hci;obtain ⟨avs,⟨b,hGb,rfl⟩,h2,h3⟩ := hE n0 hn.symm ci y hti c1 (hws y (af_ hy));refine ⟨b,hGb,fun r x hx => ?_⟩
   obtain ⟨v,q1,q2⟩ := Atu h2 r x hx;exact ⟨v,c2 r v q1,h3 v (af_ q1),q2⟩
  refine ⟨[slV enc k l],⟨l,fun b hb => ?_,rfl⟩,?_,fun v hv => by rw [al_.1 hv]; rfl⟩
  ·obtain ⟨i,hi⟩ := List.getElem?_of_mem hb;exact (hlp i b hi).1
  ·unfold RL
   refine ⟨?_,by unfold RL; trivial⟩
   unfold slV R
   refine ⟨some a,cap,by rw [hll],by rw [hll]; exact hlc,fun q hq => (by cases hq),by rw [Fm he],fun hh => (by cases hh),fun ad ha => ?_⟩
   cases ha;refine ⟨fun h0 => ?_,fun _ hh => Aj5 _ hh,?_⟩
   ·by_cases bx : 0 < len
    ·obtain ⟨b,hb⟩ := Bt (l := l) (i := 0) Om
     have hne : 0 < (enc b).length := by rw [he]; exact hk
     obtain ⟨x,hx⟩ := Bt hne;obtain ⟨v,q1,_⟩ := (hlp 0 b hb).2 0 x hx;have := (Wp q1).1
     simpa [Addr.add] using this
    ·have hr := (hsp rfl).2 0 Om
     obtain ⟨y,hy⟩ : ∃ y,rest[0]? = some y := ⟨_,ao_ (by rw [(hsp rfl).1]; omega)⟩
     rw [hy,ew_] at hr;obtain ⟨ci,hci,_⟩ := hr;obtain ⟨c1,c2⟩ := Aaz hci;obtain ⟨v,hv⟩ := Bt (l := ci) (i := 0) Om;have := (Wp (c2 0 v hv)).1
     have hl0 : len = 0 := by omega
     subst hl0
     simpa [Addr.add] using this
   ·have := Al9 (w := w) (c := a.block) (o := a.off) he l 0 fun i b hb r x hx => by
     obtain ⟨v,q1,q2,q3⟩ := (hlp i b hb).2 r x hx;have q4 := (Wp q1).2;rw [(Uz _ r).1,(Uz _ r).2,(Uz a _).1,(Uz a _).2,e_] at q4
     exact ⟨v,by rw [bf_]; exact q4,q2,q3⟩
    simpa using this
end
noncomputable def Hk (t : TypeId) : Option (List (TypeId × Nat × Nat)) := match Tryz.prog.underlying t with
 | some (.struct fs) => some (fs.toList.map fun f => (f.type,f.offset,Tryz.prog.cellsOf f.type))
 | _ => none
def Hl : Nat -> List (TypeId × Nat × Nat) -> Option Nat
 | o,[] => some o
 | o,(_,off,k) :: r => if off = o then Hl (o + k) r else none
def AllQ : List (List AV -> Prop) -> List AV -> Prop
 | [],avs => avs = []
 | Q :: r,avs => ∃ a b,Q a /\ AllQ r b /\ avs = a ++ b
section
variable {H : Type} {eh : TypeId × Value -> H} {w : World} {hd : Bool}
def RdL (eh : TypeId × Value -> H) (w : World) (hd : Bool) (m : Nat) : List (TypeId × Nat × Nat) -> List (List AV -> Prop) -> Prop
 | [],[] => True
 | (t,_,k) :: r,Q :: s => RdN eh w hd m t k Q /\ RdL eh w hd m r s
 | _,_ => False
theorem Gu {n t k : Nat} {fl : List (TypeId × Nat × Nat)} {Qs : List (List AV -> Prop)} (hf : Hk t = some fl) (hc : Hl 0 fl = some k) (hQ : ∀ m,m + 1 = n -> RdL eh w hd m fl Qs) : RdN eh w hd n t k (AllQ Qs) := by
 intro cs x h hl hw;unfold Hk at hf
 split at hf
 case h_2 => cases hf
 case h_1 fs ht =>
 cases hf;obtain ⟨xs,m,hm,rfl,_,hxl,hxf⟩ := DataW.trod_struct ht h;have hQ := hQ m hm.symm
 have each : ∀ (j : Nat) (f : TypeId × Nat × Nat),(fs.toList.map fun f => (f.type,f.offset,Tryz.prog.cellsOf f.type))[j]? = some f -> ∃ y,DataW.trod eh Tryz.prog w 0 (fun _ => true) hd m f.1 ((cs.drop f.2.1).take f.2.2) = some y /\ ∀ b ∈ y.1.weights Tryz.prog f.1,b <= reachBytes := by
  intro j f hj;rw [bn_,dl_] at hj;obtain ⟨g,hg,rfl⟩ := hj;have hj2 := (ae_.1 hg).1
  obtain ⟨y,hy⟩ : ∃ y,xs[j]? = some y := ⟨_,ao_ (by rw [hxl]; simpa using hj2)⟩
  have h1 := hxf j g (by simpa using hg)
  rw [hy] at h1
  dsimp only
  refine ⟨y,?_,fun b hb => hw b ?_⟩
  ·exact h1
  unfold DataW.weights;rw [ht]
  exact DataW.weights_mem_each (P := Tryz.prog) (j := j) (t := g.type) (d := y.1) (by rw [bn_,hg,dk_]) (by rw [bn_,hy,dk_]) b hb
 have key : ∀ (fl : List (TypeId × Nat × Nat)) (Qs : List (List AV -> Prop)) (o : Nat),(∀ (j : Nat) (f : TypeId × Nat × Nat),fl[j]? = some f -> ∃ y,DataW.trod eh Tryz.prog w 0 (fun _ => true) hd m f.1 ((cs.drop f.2.1).take f.2.2) = some y /\ ∀ b ∈ y.1.weights Tryz.prog f.1,b <= reachBytes) ->
   Hl o fl = some cs.length -> RdL eh w hd m fl Qs -> ∃ avs,AllQ Qs avs /\ RL C0 0 w avs (cs.drop o) /\ ∀ v ∈ cs.drop o,v.oneCell = true := by
  intro fl
  induction fl with
  | nil =>
   intro Qs o _ hch hr;simp only [Hl,ac_] at hch;subst hch;cases Qs with
   | nil => exact ⟨[],rfl,by rw [fi_]; unfold RL; trivial,by rw [fi_]; intro v hv; cases hv⟩
   | cons _ _ => exact hr.elim
  | cons f fl ih =>
   intro Qs o he hch hr;obtain ⟨t0,off,k0⟩ := f;cases Qs with
   | nil => exact hr.elim
   | cons Q Qs =>
    unfold Hl at hch
    split at hch
    case isFalse => cases hch
    case isTrue ho =>
    subst ho
    have gz : ∀ (fl : List (TypeId × Nat × Nat)) (o e : Nat),Hl o fl = some e -> o <= e := by
     intro fl
     induction fl with
     | nil => intro o e h; simp only [Hl,ac_] at h; omega
     | cons f fl ih =>
      intro o e h;obtain ⟨_,off,k⟩ := f;unfold Hl at h
      split at h
      ·have := ih _ _ h; omega
      ·cases h
    have hle := gz _ _ _ hch;obtain ⟨y,hy,hyw⟩ := he 0 _ rfl
    obtain ⟨a,ha,hra,hoa⟩ := hr.1 _ y hy (by show ((cs.drop off).take k0).length = k0; rw [bl_,cu_]; omega) hyw
    obtain ⟨b,hb,hrb,hob⟩ := ih Qs (off + k0) (fun j f hj => he (j + 1) f (by simpa using hj)) hch hr.2
    have e0 : cs.drop off = (cs.drop off).take k0 ++ cs.drop (off + k0) := by rw [← fc_,ck_]
    refine ⟨a ++ b,⟨a,b,ha,hb,rfl⟩,?_,?_⟩
    ·rw [e0]; exact hra.append hrb
    ·rw [e0];intro v hv
     rcases bo_.1 hv with hv | hv
     ·exact hoa v hv
     ·exact hob v hv
 have := key _ Qs 0 each (by rw [hc,hl]) hQ
 simpa using this
theorem RdN.mono {n t k : Nat} {Q Q' : List AV -> Prop} (h : RdN eh w hd n t k Q) (hq : ∀ avs,Q avs -> Q' avs) : RdN eh w hd n t k Q' := fun cs x h1 h2 h3 => by
 obtain ⟨avs,q1,q2,q3⟩ := h cs x h1 h2 h3;exact ⟨avs,hq _ q1,q2,q3⟩
end
section
variable {H : Type} {eh : TypeId × Value -> H} {w : World} {hd : Bool}
theorem ut4 : Tryz.prog.underlying 4 = some .bool := Kr
theorem ut9 : Tryz.prog.underlying 9 = some .string := Kr
theorem ut22 : Tryz.prog.underlying 22 = some (.slice 9) := Kr
theorem ut23 : Tryz.prog.underlying 23 = some (.slice 59) := Kr
theorem ut30 : Tryz.prog.underlying 30 = some (.slice 32) := Kr
theorem ut75 : Tryz.prog.underlying 56 = some (.slice 61) := Kr
theorem ut76 : Tryz.prog.underlying 57 = some (.slice 305) := Kr
theorem ct9 : Tryz.prog.cellsOf 9 = 1 := Kr
theorem ct32 : Tryz.prog.cellsOf 32 = 2 := Kr
theorem ct78 : Tryz.prog.cellsOf 59 = 8 := Kr
theorem ct80 : Tryz.prog.cellsOf 61 = 3 := Kr
theorem ctP : Tryz.prog.cellsOf 305 = 2 := Kr
theorem fl25 : Hk 25 = some [(22,0,1),(22,1,1),(23,2,1)] := Kr
theorem fl32 : Hk 32 = some [(9,0,1),(30,1,1)] := Kr
theorem fl80 : Hk 61 = some [(9,0,1),(4,1,1),(22,2,1)] := Kr
theorem flP : Hk 305 = some [(9,0,1),(9,1,1)] := Kr
theorem fl78 : Hk 59 = some [(9,0,1),(4,1,1),(56,2,1),(57,3,1),(22,4,1),(56,5,1),(57,6,1),(22,7,1)] := Kr
def Hz {α : Type} (_ : α) : Prop := True
theorem Va {n : Nat} : RdN eh w hd n 22 1 (Eg (Hz (α := List Str)) fun l => [A3 l]) :=
 (Io ut22 ct9 Om (fun _ => rfl) fun m _ => L1 ut9).mono fun avs ⟨l,_,h⟩ => ⟨l,trivial,h⟩
theorem As0 {n : Nat} : RdN eh w hd n 305 2 (Eg Hz eP) :=
 (Gu (Qs := [Eg Abs e1,Eg Abs e1]) flP rfl fun m _ => ⟨L1 ut9,L1 ut9,trivial⟩).mono fun avs h => by
  obtain ⟨_,_,⟨a,_,rfl⟩,⟨_,_,⟨b,_,rfl⟩,rfl,rfl⟩,rfl⟩ := h;exact ⟨⟨a,b⟩,trivial,rfl⟩
theorem Ah6 {n : Nat} : RdN eh w hd n 57 1 (Eg (Hz (α := List Pr)) fun l => [slV eP 2 l]) :=
 (Io ut76 ctP Om (fun _ => rfl) fun m _ => As0).mono fun avs ⟨l,_,h⟩ => ⟨l,trivial,h⟩
theorem Auz {n : Nat} : RdN eh w hd n 61 3 (Eg Hz eH) :=
 (Gu (Qs := [Eg Abs e1,Eg (fun _ => True) fun b : Bool => [.bool b],Eg (Hz (α := List Str)) fun l => [A3 l]]) fl80 rfl fun m _ => ⟨L1 ut9,Al8 ut4,Va,trivial⟩).mono fun avs h => by
  obtain ⟨_,_,⟨a,_,rfl⟩,⟨_,_,⟨b,_,rfl⟩,⟨_,_,⟨c,_,rfl⟩,rfl,rfl⟩,rfl⟩,rfl⟩ := h;exact ⟨⟨a,b,c⟩,trivial,rfl⟩
theorem Ama {n : Nat} : RdN eh w hd n 56 1 (Eg (Hz (α := List Hp)) fun l => [slV eH 3 l]) :=
 (Io ut75 ct80 Om (fun _ => rfl) fun m _ => Auz).mono fun avs ⟨l,_,h⟩ => ⟨l,trivial,h⟩
theorem Aq4 {n : Nat} : RdN eh w hd n 59 8 (Eg Hz eF) :=
 (Gu (Qs := [Eg Abs e1,Eg (fun _ => True) fun b : Bool => [.bool b],Eg (Hz (α := List Hp)) fun l => [slV eH 3 l],Eg (Hz (α := List Pr)) fun l => [slV eP 2 l],Eg (Hz (α := List Str)) fun l => [A3 l],
  Eg (Hz (α := List Hp)) fun l => [slV eH 3 l],Eg (Hz (α := List Pr)) fun l => [slV eP 2 l],Eg (Hz (α := List Str)) fun l => [A3 l]]) fl78 rfl fun m _ => ⟨L1 ut9,Al8 ut4,Ama,Ah6,Va,Ama,Ah6,Va,trivial⟩).mono fun avs h => by
  obtain ⟨_,_,⟨a,_,rfl⟩,⟨_,_,⟨b,_,rfl⟩,⟨_,_,⟨c,_,rfl⟩,⟨_,_,⟨d,_,rfl⟩,⟨_,_,⟨e,_,rfl⟩,⟨_,_,⟨f,_,rfl⟩,⟨_,_,⟨g,_,rfl⟩,⟨_,_,⟨i,_,rfl⟩,rfl,rfl⟩,rfl⟩,rfl⟩,rfl⟩,rfl⟩,rfl⟩,rfl⟩,rfl⟩ := h;exact ⟨⟨a,b,c,d,e,f,g,i⟩,trivial,rfl⟩
theorem Anv {n : Nat} : RdN eh w hd n 23 1 (Eg (Hz (α := List Fr)) fun l => [slV eF 8 l]) :=
 (Io ut23 ct78 Om (fun _ => rfl) fun m _ => Aq4).mono fun avs ⟨l,_,h⟩ => ⟨l,trivial,h⟩
theorem rd_db {n : Nat} : RdN eh w hd n 25 3 (Eg (Hz (α := Db)) fun d => [A3 d.consts,A3 d.vars,slV eF 8 d.frames]) :=
 (Gu (Qs := [Eg (Hz (α := List Str)) fun l => [A3 l],Eg (Hz (α := List Str)) fun l => [A3 l],Eg (Hz (α := List Fr)) fun l => [slV eF 8 l]]) fl25 rfl fun m _ => ⟨Va,Va,Anv,trivial⟩).mono fun avs h => by
  obtain ⟨_,_,⟨a,_,rfl⟩,⟨_,_,⟨b,_,rfl⟩,⟨_,_,⟨c,_,rfl⟩,rfl,rfl⟩,rfl⟩,rfl⟩ := h;exact ⟨⟨a,b,c⟩,trivial,rfl⟩
theorem Afb : ∀ (n : Nat),RdN eh w hd n 32 2 (Eg (Hz (α := Au)) eT)
 | 0 => fun cs x h => by simp [DataW.trod] at h
 | 1 => (Gu (Qs := [Eg Abs e1,Eg (fun l : List Au => ∀ a ∈ l,Hz a) fun l => [slV eT 2 l]]) fl32 rfl fun m hm => ⟨L1 ut9,Io ut30 ct32 Om A2 fun m' hm' => by omega,trivial⟩).mono fun avs h => by
  obtain ⟨_,_,⟨a,ha,rfl⟩,⟨_,_,⟨b,hb,rfl⟩,rfl,rfl⟩,rfl⟩ := h;exact ⟨.node a b,trivial,(Ne a b).symm⟩
 | n + 2 => (Gu (Qs := [Eg Abs e1,Eg (fun l : List Au => ∀ a ∈ l,Hz a) fun l => [slV eT 2 l]]) fl32 rfl fun m hm => ⟨L1 ut9,Io ut30 ct32 Om A2 fun m' hm' => by
   have : m' = n := by omega
   subst this
   exact Afb m',trivial⟩).mono fun avs h => by
  obtain ⟨_,_,⟨a,ha,rfl⟩,⟨_,_,⟨b,hb,rfl⟩,rfl,rfl⟩,rfl⟩ := h;exact ⟨.node a b,trivial,(Ne a b).symm⟩
theorem ut3 : Tryz.prog.underlying 3 = some (.int .i64) := Kr
theorem ut26 : Tryz.prog.underlying 26 = some (.slice 3) := Kr
theorem ut27 : Tryz.prog.underlying 27 = some (.slice 69) := Kr
theorem ut33 : Tryz.prog.underlying 33 = some (.slice 44) := Kr
theorem ct3 : Tryz.prog.cellsOf 3 = 1 := Kr
theorem ct69 : Tryz.prog.cellsOf 69 = 2 := Kr
theorem ct44 : Tryz.prog.cellsOf 44 = 2 := Kr
theorem fl69 : Hk 69 = some [(9,0,1),(26,1,1)] := Kr
theorem fl29 : Hk 29 = some [(3,0,1),(26,1,1),(27,2,1)] := Kr
theorem fl44 : Hk 44 = some [(9,0,1),(3,1,1)] := Kr
theorem Amb {n : Nat} : RdN eh w hd n 26 1 (Eg (Hz (α := List Int)) fun l => [slV eI 1 l]) :=
 (Io (enc := eI) ut26 ct3 Om (fun _ => rfl) fun m _ => Aj7 ut3).mono fun avs ⟨l,_,h⟩ => ⟨l,trivial,h⟩
theorem Aq5 {n : Nat} : RdN eh w hd n 69 2 (Eg Hz eTb) :=
 (Gu (Qs := [Eg Abs e1,Eg (Hz (α := List Int)) fun l => [slV eI 1 l]]) fl69 rfl fun m _ => ⟨L1 ut9,Amb,trivial⟩).mono fun avs h => by
  obtain ⟨_,_,⟨a,_,rfl⟩,⟨_,_,⟨b,_,rfl⟩,rfl,rfl⟩,rfl⟩ := h;exact ⟨⟨a,b⟩,trivial,rfl⟩
theorem Anw {n : Nat} : RdN eh w hd n 27 1 (Eg (Hz (α := List Tb)) fun l => [slV eTb 2 l]) :=
 (Io ut27 ct69 Om (fun _ => rfl) fun m _ => Aq5).mono fun avs ⟨l,_,h⟩ => ⟨l,trivial,h⟩
theorem rd_md {n : Nat} : RdN eh w hd n 29 3 (Eg (Hz (α := Md)) fun m => [iV m.n,slV eI 1 m.des,slV eTb 2 m.tabs]) :=
 (Gu (Qs := [Eg (fun _ => True) fun a : Int => [iV a],Eg (Hz (α := List Int)) fun l => [slV eI 1 l],Eg (Hz (α := List Tb)) fun l => [slV eTb 2 l]]) fl29 rfl fun m _ => ⟨Aj7 ut3,Amb,Anw,trivial⟩).mono fun avs h => by
  obtain ⟨_,_,⟨a,_,rfl⟩,⟨_,_,⟨b,_,rfl⟩,⟨_,_,⟨c,_,rfl⟩,rfl,rfl⟩,rfl⟩,rfl⟩ := h;exact ⟨⟨a,b,c⟩,trivial,rfl⟩
theorem Au0 {n : Nat} : RdN eh w hd n 44 2 (Eg Hz eVl) :=
 (Gu (Qs := [Eg Abs e1,Eg (fun _ => True) fun a : Int => [iV a]]) fl44 rfl fun m _ => ⟨L1 ut9,Aj7 ut3,trivial⟩).mono fun avs h => by
  obtain ⟨_,_,⟨a,_,rfl⟩,⟨_,_,⟨b,_,rfl⟩,rfl,rfl⟩,rfl⟩ := h;exact ⟨⟨a,b⟩,trivial,rfl⟩
theorem As1 {n : Nat} : RdN eh w hd n 33 1 (Eg (Hz (α := List Vl)) fun l => [slV eVl 2 l]) :=
 (Io ut33 ct44 Om (fun _ => rfl) fun m _ => Au0).mono fun avs ⟨l,_,h⟩ => ⟨l,trivial,h⟩
end
section
mutual
def Afc {H : Type} : DataW H -> List AV
 | .lit (.string s) => [sV s]
 | .lit (.bool b) => [.bool b]
 | .lit (.int k n) => [.int k n]
 | .agg ps => Aa0 ps
 | _ => [.any]
def Aa0 {H : Type} : List (DataW H) -> List AV
 | [] => []
 | d :: r => Afc d ++ Aa0 r
end
section
variable {H : Type} {eh : TypeId × Value -> H} {w : World} {hd : Bool}
def RdX (eh : TypeId × Value -> H) (w : World) (hd : Bool) (n : Nat) (t : TypeId) (k : Nat) : Prop :=
 ∀ (cs : List Value) (x : DataW H × List MemPlace),DataW.trod eh Tryz.prog w 0 (fun _ => true) hd n t cs = some x -> cs.length = k -> RL C0 0 w (Afc x.1) cs /\ ∀ v ∈ cs,v.oneCell = true
theorem As2 {n t : Nat} (ht : Tryz.prog.underlying t = some .string) : RdX eh w hd n t 1 := by
 intro cs x h hl;obtain ⟨s,rfl,rfl,_⟩ := DataW.trod_string ht h
 exact ⟨by rw [Afc]; unfold RL; exact ⟨by unfold sV R; exact ⟨s,rfl,rfl⟩,by unfold RL; trivial⟩,fun v hv => by rw [al_.1 hv]; rfl⟩
theorem Aq6 {n t : Nat} (ht : Tryz.prog.underlying t = some .bool) : RdX eh w hd n t 1 := by
 intro cs x h hl;obtain ⟨b,rfl,rfl⟩ := DataW.trod_bool ht h
 exact ⟨by rw [Afc]; unfold RL; exact ⟨by unfold R; rfl,by unfold RL; trivial⟩,fun v hv => by rw [al_.1 hv]; rfl⟩
theorem Amc {n t : Nat} {k : IntKind} (ht : Tryz.prog.underlying t = some (.int k)) : RdX eh w hd n t 1 := by
 intro cs x h hl;obtain ⟨i,rfl,rfl,_⟩ := DataW.trod_int ht h
 exact ⟨by rw [Afc]; unfold RL; exact ⟨by unfold R; rfl,by unfold RL; trivial⟩,fun v hv => by rw [al_.1 hv]; rfl⟩
theorem Aa1 {m : Nat} {cs : List Value} : ∀ (fl : List (TypeId × Nat × Nat)) (xs : List (DataW H × List MemPlace)) (o : Nat),xs.length = fl.length ->
  (∀ (j : Nat) (f : TypeId × Nat × Nat),fl[j]? = some f -> RdX eh w hd m f.1 f.2.2 /\ DataW.trod eh Tryz.prog w 0 (fun _ => true) hd m f.1 ((cs.drop f.2.1).take f.2.2) = xs[j]?) -> Hl o fl = some cs.length -> RL C0 0 w (Aa0 (xs.map (·.1))) (cs.drop o) /\ ∀ v ∈ cs.drop o,v.oneCell = true
 | [],xs,o,hxl,_,hch => by
  simp only [Hl,ac_] at hch;subst hch;rw [dj_.1 hxl]
  exact ⟨by rw [fi_]; show RL C0 0 w (Aa0 []) []; rw [Aa0]; unfold RL; trivial,by rw [fi_]; intro v hv; cases hv⟩
 | (t0,off,k0) :: fl,[],o,hxl,_,_ => by simp at hxl
 | (t0,off,k0) :: fl,y :: xs,o,hxl,he,hch => by
  unfold Hl at hch
  split at hch
  case isFalse => cases hch
  case isTrue ho =>
  subst ho
  have gz : ∀ (fl : List (TypeId × Nat × Nat)) (o e : Nat),Hl o fl = some e -> o <= e := by
   intro fl
   induction fl with
   | nil => intro o e h; simp only [Hl,ac_] at h; omega
   | cons f fl ih =>
    intro o e h;obtain ⟨_,off,k⟩ := f;unfold Hl at h
    split at h
    ·have := ih _ _ h; omega
    ·cases h
  have hle := gz _ _ _ hch;obtain ⟨h1,h2⟩ := he 0 _ rfl
  obtain ⟨hra,hoa⟩ := h1 _ y h2 (by show ((cs.drop off).take k0).length = k0; rw [bl_,cu_]; omega)
  obtain ⟨hrb,hob⟩ := Aa1 fl xs (off + k0) (by simpa using hxl) (fun j f hj => by have := he (j + 1) f (by simpa using hj); simpa using this) hch
  have e0 : cs.drop off = (cs.drop off).take k0 ++ cs.drop (off + k0) := by rw [← fc_,ck_]
  refine ⟨?_,?_⟩
  ·rw [e0]
   show RL C0 0 w (Aa0 (y.1 :: xs.map (·.1))) _
   rw [Aa0];exact hra.append hrb
  ·rw [e0];intro v hv
   rcases bo_.1 hv with hv | hv
   ·exact hoa v hv
   ·exact hob v hv
theorem Aj8 {n t k : Nat} {fl : List (TypeId × Nat × Nat)} (hf : Hk t = some fl) (hc : Hl 0 fl = some k) (hQ : ∀ m,m + 1 = n -> ∀ (j : Nat) (f : TypeId × Nat × Nat),fl[j]? = some f -> RdX eh w hd m f.1 f.2.2) : RdX eh w hd n t k := by
 intro cs x h hl;unfold Hk at hf
 split at hf
 case h_2 => cases hf
 case h_1 fs ht =>
 cases hf;obtain ⟨xs,m,hm,rfl,_,hxl,hxf⟩ := DataW.trod_struct ht h
 have := Aa1 (cs := cs) (eh := eh) (w := w) (hd := hd) (m := m) _ xs 0 (by rw [hxl,cs_]; simp) (fun j f hj => ⟨hQ m hm.symm j f hj,by
  rw [bn_,dl_] at hj;obtain ⟨g,hg,rfl⟩ := hj
  dsimp only
  have h1 := hxf j g (by simpa using hg)
  exact h1⟩) (by rw [hc,hl])
 rw [gn_] at this;refine ⟨?_,this.2⟩;rw [Afc]; exact this.1
end
end
end Go.AM
