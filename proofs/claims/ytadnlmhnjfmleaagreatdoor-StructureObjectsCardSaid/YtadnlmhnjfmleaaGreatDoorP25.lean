/- A part of the proof; shortened by program. -/
import Derived.Test.YtadnlmhnjfmleaaGreatDoorP24
set_option maxRecDepth 100000
set_option maxHeartbeats 4000000
set_option linter.unusedSimpArgs false
set_option linter.unusedVariables false
namespace Go.AM
open Go Go.Proofs
section
variable {E : Env} {ρ : Ad} {J : Sto} {Rr : Rec} {t ty a off sz len : Nat} {cap : Option Nat} {x : Operand}
theorem Asr (hsl : Kj E.P t = true) : ∃ ti e,Aw E.P t = some ti /\ ti.desc = .slice e := by
 unfold Kj at hsl
 split at hsl
 ·rename_i ti hti
  split at hsl
  ·rename_i e he; exact ⟨ti,e,hti,he⟩
  ·cases hsl
 ·cases hsl
theorem Anc (hsl : Kj E.P t = true) (hx : Ai E ρ x = some (.sr a off sz len cap)) : A0 E Rr (.binOp .eql t x (.const (.slice none 0 0)) ty) ρ J (.bool false) J := fun tm h => by
 obtain ⟨ti,e,h1,h2⟩ := Asr hsl
 have hc : (Ck x || Ck (.const (.slice none 0 0))) = true := by rw [Bool.or_comm]; rfl
 have hy : opd E tm (.const (.slice none 0 0)) = .nil (.slice none 0 0) := rfl;simp only [opA,Ar,h.opd hx,hy,hc,Yg,h1,Jk,cond_true,Afx,S3,Rm,h2,cond_false,Bool.true_or,Uz]
theorem And (hsl : Kj E.P t = true) (hx : Ai E ρ x = some (.nil (.slice none 0 0))) : A0 E Rr (.binOp .eql t x (.const (.slice none 0 0)) ty) ρ J (.bool true) J := fun tm h => by
 obtain ⟨ti,e,h1,h2⟩ := Asr hsl
 have hc : (Ck x || Ck (.const (.slice none 0 0))) = true := by rw [Bool.or_comm]; rfl
 have hy : opd E tm (.const (.slice none 0 0)) = .nil (.slice none 0 0) := rfl;simp only [opA,Ar,h.opd hx,hy,hc,Yg,h1,Jk,cond_true,Afx,S3,h2,Uz]
theorem srcSr {α : Type} {enc : α -> List AV} {tl : List AV} {l : List α} (he : ∀ a,(enc a).length = sz) (hg : J.get a = some (.cells (l.flatMap enc ++ tl))) : Dj J sz (.sr a 0 sz l.length none) l.length = some (l.flatMap enc) := by
 simp only [Dj,Sto.cells,hg,eu_];rw [← D7 he l];exact E8
end
def Afr : AV -> Nat
 | .sr _ _ _ l _ => l
 | _ => 0
def Er (J : Sto) (v : AV) : Prop := v = .nil (.slice none 0 0) ∨ ∃ (a : Nat) (l : List Int) (tl : List AV),a < nx J /\ 0 < l.length /\ v = .sr a 0 1 l.length none /\ J.get a = some (.cells (l.flatMap eI ++ tl))
theorem Er.below {J τ : Sto} {v : AV} (h : Er J v) (hb : Below (nx J) J τ) : Er τ v := by
 rcases h with h | ⟨a,l,tl,h1,h2,h3,h4⟩
 ·exact .inl h
 ·exact .inr ⟨a,l,tl,aq_ h1 hb.1,h2,h3,(hb.2 a h1).trans h4⟩
theorem f14n (J : Sto) : Cv 14 [.nil (.slice none 0 0)] J (.nil (.slice none 0 0)) := by
 refine Ak Tryz.func14 rfl rfl fun hw hu0 => ?_
 refine G8 ?_;refine O1 (And slC rfl) ?_;refine G ?_
 refine Ab rfl (fun h1 => ?_) (fun h1 => by cases h1)
 refine G5 ?_;exact ⟨_,rfl,_,J,ag_ hw nl (fun _ _ => rfl),nl,.same rfl,rfl,rfl⟩
theorem f14r (a : Nat) (l : List Int) (tl : List AV) (J τ : Sto) (v : AV) (ha : J.get a = some (.cells (l.flatMap eI ++ tl))) (hap : Cf J 1 8 (.sv [] 1 0 (some 0)) l.length (l.flatMap eI) = some (v,τ)) (hb : nx J <= nx τ) : Aq Ew 14 [.sr a 0 1 l.length none] J fun u J' => u = v /\ J' = τ := by
 refine Ak Tryz.func14 rfl rfl fun hw hu0 => ?_
 refine G8 ?_;refine O1 (Anc slC rfl) ?_;refine G ?_
 refine Ab rfl (fun h1 => by cases h1) (fun h1 => ?_)
 refine G3 ?_;refine O1 (Ay elC byW rfl rfl rfl) ?_;refine G ?_;refine O1 (A1 elC rfl slC rfl rfl rfl (srcSr (enc := eI) (fun _ => rfl) ha) hap) ?_
 refine G2 ?_;refine Co fun hw' => Akw (i := 2) rfl fun hu => ?_
 refine G ?_;exact ⟨_,rfl,_,_,ag_ hw' nl (fun _ _ => rfl),hb,.same hu,rfl,rfl⟩
theorem Aqe {J : Sto} {v : AV} (h : Er J v) (i : Int) (hl : Afr v < 1000) : ∃ (u : AV) (τ : Sto) (n : Nat) (p : AV) (τ' : Sto),Aq Ew 14 [v] J (fun u' J' => u' = u /\ J' = τ) /\ lenA u = some n /\ Wh u = true /\ Cf τ 1 8 u 1 (eI i) = some (p,τ') /\ Er τ' p /\ Below (nx J) J τ /\ Below (nx J) J τ' /\ Afr p = Afr v + 1 := by
 rcases h with rfl | ⟨a,l,tl,ha,hll,rfl,hg⟩
 ·obtain ⟨p,τ',hap,br,bh,_⟩ := ed_ (enc := eI) (sz := 1) (l := ([] : List Int)) (by' := 8) (N := nx J) (J := J) (fun s => rfl) nl (Own.nil (enc := eI) (sz := 1)) [i] (by simp [sizeLim])
  obtain ⟨b,tl,h1,h2,rfl,h4⟩ := br.sr (i := 0) (by simp)
  exact ⟨_,J,0,_,τ',f14n J,rfl,rfl,by simpa using hap,.inr ⟨b,[] ++ [i],tl,h2,by simp,rfl,h4⟩,.rfl',bh,rfl⟩
 ·have h1 : l.length < 1000 := hl
  obtain ⟨u,τ,hap,br,bh,_⟩ := ed_ (enc := eI) (sz := 1) (l := ([] : List Int)) (by' := 8) (N := nx J) (J := J) (fun s => rfl) nl (Own.emp (enc := eI) (sz := 1)) l (by simp [sizeLim]; omega)
  obtain ⟨p,τ',g9,b6,ba,_⟩ := ed_ (enc := eI) (sz := 1) (l := [] ++ l) (by' := 8) (fun s => rfl) bh.1 br [i] (by simp [sizeLim]; omega)
  obtain ⟨b,tl2,h3,h4,rfl,h6⟩ := b6.sr (i := 0) (by simp)
  obtain ⟨h7,h8⟩ := br.lenA
  exact ⟨u,τ,_,_,τ',f14r a l tl J τ u hg hap bh.1,h7,h8,by simpa using g9,.inr ⟨b,[] ++ l ++ [i],tl2,h4,by simp,rfl,h6⟩,bh,bh.trans ⟨ba.1,ba.2⟩,by simp [Afr]⟩
theorem f11o (s : Stc) (J : Sto) (hb : s.sorts.length < 1000000) (hc : s.syms.length < 1000000) : Cv 11 [P6 s] J (P6 s) := by
 refine Ak Tryz.func11 rfl rfl fun hw hu0 => ?_
 refine G3 ?_;refine O1 (B6 ziC) ?_;refine G6 ?_
 refine O1 (Ho (n := nx J + 1) ziC (Ac _ _)) (O1 (F3 (a := nx J + 1) (off := 0) (cs := [.int .i64 0,.nil (.slice none 0 0),.nil (.slice none 0 0)]) (cs' := [iV s.size,.nil (.slice none 0 0),.nil (.slice none 0 0)]) (by rw [ab_,if_pos (Ac _ _).symm]) ldC rfl rfl rfl rfl) ?_)
 refine G10 ?_
 refine Bh s.sorts.length (fun i0 => [(1,.pv (scC s)),(2,.pr (nx J) 0),(3,.pr (nx J + 1) 0),(12,slV eSo 2 s.sorts),(13,iV (.ofNat s.sorts.length)),(14,iV (.ofNat i0))]) (fun i0 J0 => ∃ v,J0.get (nx J) = some (.cells [.int .i64 0,.nil (.slice none 0 0),.nil (.slice none 0 0)]) /\ J0.get (nx J + 1) = some (.cells [iV s.size,v,.nil (.slice none 0 0)]) /\ Own J0 (nx J + 2) eSo 2 (s.sorts.take i0) v /\ nx J + 2 <= nx J0 /\ (∀ b,b < nx J -> J0.get b = J.get b)) SL ⟨.nil (.slice none 0 0),(by rw [a_,if_neg Om,ab_,if_neg (by rw [Ac]; omega),ab_,if_pos rfl]),(by rw [a_,if_pos rfl]),.nil,(by rw [Ae,Ac,Ac]; omega),fun b hb => by rw [a_,if_neg Om,ab_,if_neg (by rw [Ac]; omega),ab_,if_neg Om]⟩ ?_
 rintro i0 J0 hi0 ⟨v,hc0,hc1,br,hn0,hg0⟩;refine G5 ?_;refine Ab rfl ?_ ?_ <;> intro h1
 ·have bc : i0 < s.sorts.length := by simpa using h1
  obtain ⟨a0,ha0⟩ := A3 bc;have hd0 := Av ha0
  have bo : ((s.sorts.take i0).length + [a0].length) * (24 + 1) <= sizeLim := by rw [b_]; simp [sizeLim]; omega
  obtain ⟨v1,τ1,hap,ho1,hb1,_⟩ := br.app (by' := 24) Afp hn0 [a0] bo
  have hn1 := hb1.1;have hc1t : τ1.get (nx J + 1) = some (.cells [iV s.size,v,.nil (.slice none 0 0)]) := (hb1.2 _ Om).trans hc1;refine G11 ?_;refine O1 (A4 hc1 ldC rfl rfl) ?_;refine G ?_;refine Dz (Ay elC byW rfl rfl rfl) (Fk (len := 1)) rfl rfl (O1 (A1 elC rfl slC rfl rfl rfl (new := [a0].flatMap eSo) rfl hap) ?_);refine G ?_;refine O1 (F3 (a := nx J + 1) (off := 1) (cs := [iV s.size,v,.nil (.slice none 0 0)]) (cs' := [iV s.size,v1,.nil (.slice none 0 0)]) hc1t ldC rfl rfl (Mf ho1) rfl) ?_;refine G5 ?_
  refine ⟨bc,SL,v1,(by rw [a_,if_neg Om]; exact (hb1.2 _ Om).trans hc0),(by rw [a_,if_pos rfl]),(by rw [Bb ha0]; exact ho1.mono (by rw [Ae]; exact nl) fun a tl _ h8 _ _ => by rw [a_,if_neg Om]),(by rw [Ae]; omega),fun b hb => by rw [a_,if_neg Om]; exact (hb1.2 _ Om).trans (hg0 b hb)⟩
 ·have bm : s.sorts.length <= i0 := by simpa using h1
  rw [ar_ bm] at br;refine G10 ?_;refine Bh s.syms.length (fun i2 => [(2,.pr (nx J) 0),(3,.pr (nx J + 1) 0),(26,slV eSy 3 s.syms),(27,iV (.ofNat s.syms.length)),(28,iV (.ofNat i2))]) (fun i2 J2 => ∃ u,J2.get (nx J + 1) = some (.cells [iV s.size,v,u]) /\ Own J2 (nx J0) eSy 3 (s.syms.take i2) u /\ nx J0 <= nx J2 /\ (∀ b,b < nx J0 -> b ≠ nx J + 1 -> J2.get b = J0.get b)) SL ⟨.nil (.slice none 0 0),hc1,.nil,nl,fun _ _ _ => rfl⟩ ?_
  rintro i2 J2 hi2 ⟨u,hd1,b6,hn2,hg2⟩;refine G5 ?_;refine Ab rfl ?_ ?_ <;> intro h2
  ·have bz : i2 < s.syms.length := by simpa using h2
   obtain ⟨a2,ha2⟩ := A3 bz;have hd2 := Av ha2
   have nb : ((s.syms.take i2).length + [a2].length) * (48 + 1) <= sizeLim := by rw [b_]; simp [sizeLim]; omega
   obtain ⟨u1,τ1,hap,ho1,hb1,_⟩ := b6.app (by' := 48) Q5 hn2 [a2] nb
   have hn1 := hb1.1;have hd1t : τ1.get (nx J + 1) = some (.cells [iV s.size,v,u]) := (hb1.2 _ Om).trans hd1;refine G11 ?_;refine O1 (A4 hd1 ldC rfl rfl) ?_;refine G ?_;refine Dz (Ay elC byW rfl rfl rfl) (Fk (len := 1)) rfl rfl (O1 (A1 elC rfl slC rfl rfl rfl (new := [a2].flatMap eSy) rfl hap) ?_);refine G ?_;refine O1 (F3 (a := nx J + 1) (off := 2) (cs := [iV s.size,v,u]) (cs' := [iV s.size,v,u1]) hd1t ldC rfl rfl (Mf ho1) rfl) ?_;refine G5 ?_
   refine ⟨bz,SL,u1,(by rw [a_,if_pos rfl]),(by rw [Bb ha2]; exact ho1.mono (by rw [Ae]; exact nl) fun a tl _ h8 _ _ => by rw [a_,if_neg Om]),(by rw [Ae]; omega),fun b hb hne => by rw [a_,if_neg hne]; exact (hb1.2 _ Om).trans (hg2 b hb hne)⟩
  ·have b9 : s.syms.length <= i2 := by simpa using h2
   rw [ar_ b9] at b6;have hc2 : J2.get (nx J) = some (.cells [.int .i64 0,.nil (.slice none 0 0),.nil (.slice none 0 0)]) := (hg2 _ Om Om).trans hc0;refine G3 ?_;refine O1 (A4 hd1 ldC rfl rfl) (O1 (F3 (a := nx J) (off := 0) (cs := [.int .i64 0,.nil (.slice none 0 0),.nil (.slice none 0 0)]) (cs' := [iV s.size,v,u]) hc2 ldC rfl rfl rfl rfl) ?_);refine G2 ?_
   exact ⟨[.agg [iV s.size,v,u]],Cy (ldC (t := 49)) rfl (by simp only [Sto.cells]; rw [a_,if_pos rfl]) rfl rfl,_,J,as_ hw ⟨by rw [Ae]; omega,fun b hb => by rw [a_,if_neg Om,hg2 b Om Om]; exact hg0 b hb⟩,nl,.agg (.cons (.same rfl) (.cons ((br.mono (by rw [Ae]; exact hn2) fun a tl _ h8 h9 _ => by rw [a_,if_neg Om,hg2 a Om Om]).fz Afp (fun a ha => hw.none Om) (Br Ah4 _)) (.cons ((b6.mono (by rw [Ae]; exact nl) fun a tl _ h8 _ _ => by rw [a_,if_neg Om]).fz Q5 (fun a ha => hw.none Om) (Br Uu _)) .nil))),rfl,rfl⟩
theorem f12 (l : List Mg) (J : Sto) (hb : l.length < 1000000) : Cv 12 [slV eMg 3 l] J (slV eMg 3 l) := by
 refine Ak Tryz.func12 rfl rfl fun hw hu0 => ?_
 iterate 16 refine G ?_
 refine Dt (fun q : Nat × AV => [(3,q.2),(6,slV eMg 3 l),(7,iV (.ofNat l.length)),(8,iV (.ofNat q.1))]) (fun q J0 => q.1 <= l.length /\ Own J0 (nx J) eMg 3 (l.take q.1) q.2 /\ Below (nx J) J J0) (fun q => l.length - q.1) (0,.nil (.slice none 0 0)) SL ⟨ca_ _,.nil,dv_⟩ ?_
 rintro ⟨i0,v0⟩ J0 hP0;obtain ⟨hi0,br,bh⟩ : i0 <= l.length /\ Own J0 (nx J) eMg 3 (l.take i0) v0 /\ Below (nx J) J J0 := hP0;refine G5 ?_;refine Ab rfl ?_ ?_ <;> intro h1
 ·have bc : i0 < l.length := by simpa using h1
  obtain ⟨a0,ha0⟩ := A3 bc;have hd0 := Av ha0
  have bo : ((l.take i0).length + [a0].length) * (48 + 1) <= sizeLim := by rw [b_]; simp [sizeLim]; omega
  obtain ⟨v1,τ1,hap,ho1,hb1,_⟩ := ed_ (by' := 48) (enc := eMg) (sz := 3) Iu bh.1 br [a0] bo
  refine G12 ?_;refine Dz (Ay elC byW rfl rfl rfl) (Fk (len := 1)) rfl rfl (O1 (A1 elC rfl slC rfl rfl rfl (new := [a0].flatMap eMg) rfl hap) ?_);refine G6 ?_
  refine ⟨(i0 + 1,v1),by show l.length - (i0 + 1) < l.length - i0; omega,SL,bc,(by rw [Bb ha0]; exact ho1),bh.trans hb1⟩
 ·have bm : l.length <= i0 := by simpa using h1
  rw [ar_ bm] at br;refine G7 ?_;exact ⟨_,rfl,slV eMg 3 l,J,as_ hw bh,nl,br.fz Iu (fun a ha => hw.none ha) (Br Kz _),rfl,rfl⟩
theorem Xg {l : List Rl} {r : Rl} {s : Str} (hn : Au l r.label = none) : Au (l ++ [r]) s = if s = r.label then some r else Au l s := by
 unfold Au at *;rw [List.find?_append]
 by_cases h : s = r.label
 ·subst h; rw [hn,if_pos rfl]; simp
 ·rw [if_neg h]
  have : (List.find? (fun x => decide (x.label = s)) [r]) = none := by simp; exact fun h' => h h'.symm
  rw [this]; cases List.find? (fun r => decide (r.label = s)) l <;> rfl
theorem Ah6 {l : List Rl} (hn : (l.map (·.label)).Nodup) {i : Nat} {r : Rl} (h : l[i]? = some r) : Au (l.take i) r.label = none := by
 unfold Au;rw [List.find?_eq_none];intro x hx hl;simp only [decide_eq_true_eq] at hl;obtain ⟨j,hj⟩ := List.getElem?_of_mem hx;rw [dm_] at hj
 split at hj
 ·rename_i hji
  have h1 : (l.map (·.label))[j]? = some r.label := by rw [az_,hj,← hl]; rfl
  have h2 : (l.map (·.label))[i]? = some r.label := by rw [az_,h]; rfl
  have hi := (ad_.1 h2).1;have := (List.getElem?_inj Om hn).1 (h1.trans h2.symm);omega
 ·cases hj
theorem Alt {E : Env} {ρ : Ad} {J : Sto} {Rr : Rec} {t n sz : Nat} {x : Operand} {v : AV} {agg : Bool} {cs : List AV} (hi : ldI E.P t = some (sz,agg)) (hx : Ai E ρ x = some v) (hc : v.cellsN sz = some cs) (hn : nx J = n) : A0 E Rr (.box t x) ρ J (.pr n 0) (J.new (.cells cs)) := by subst hn; exact Aiz hi hx hc
section
variable {d : Db} {s : Stc} {km km' : SM Int} {rm rm' : SM Rl} {sm : SM Sy} {a k r y : Nat} {J : Sto} {O : AO}
theorem Gl.setK (h : Gl d s km rm sm a k r y J) (h1 : a ≠ k) (h2 : r ≠ k) (h3 : y ≠ k) (hm : A8 iV (J.set k O) k km') : Gl d s km' rm sm a k r y (J.set k O) := by
 obtain ⟨c1,c2,⟨v3,c3⟩,⟨v4,c4⟩⟩ := h
 exact ⟨by rw [a_,if_neg h1]; exact c1,hm,⟨v3,by rw [a_,if_neg h2]; exact c3⟩,⟨v4,by rw [a_,if_neg h3]; exact c4⟩⟩
theorem Gl.setR (h : Gl d s km rm sm a k r y J) (h1 : a ≠ r) (h2 : k ≠ r) (h3 : y ≠ r) (hm : A8 rlV (J.set r O) r rm') : Gl d s km rm' sm a k r y (J.set r O) := by
 obtain ⟨c1,⟨v2,c2⟩,c3,⟨v4,c4⟩⟩ := h
 exact ⟨by rw [a_,if_neg h1]; exact c1,⟨v2,by rw [a_,if_neg h2]; exact c2⟩,hm,⟨v4,by rw [a_,if_neg h3]; exact c4⟩⟩
end
theorem f28 (d : Db) (s : Stc) (J : Sto) (hD : DbB d) (hvf : d.vars.length + d.frames.length < 1000000) (hso : s.sorts.length < 1000000) (hsy : s.syms.length < 1000000) (hyl : ∀ y ∈ s.syms,y.vals.length < 1000000) (hgs : (ofF d).1.sorts.length < 1000000) : Aq Ew 28 [dbV d,P6 s] J fun v J' => (∃ p,v = .tup [p,iV (Jd (ofF d) s)] /\ Below (nx J) J J' /\ (Jd (ofF d) s = 0 -> p = .pr (nx J + 3) 0 /\ ∃ rm,(∀ l,rm.get l = Au (ofF d).1.rules l) /\ Gl d s (Ci (ofF d).1 s).km rm (Ci (ofF d).1 s).sm (nx J + 3) (nx J) (nx J + 1) (nx J + 2) J')) := by
 have hG := Adn d;have hgl := hG.len;refine Ak Tryz.func28 rfl rfl fun hw hu0 => ?_
 refine G10 ?_;refine Af rfl rfl rfl rfl (f45 d _ hD hvf) ?_;refine G12 ?_;refine Ab rfl ?_ ?_ <;> intro h1
 ·skip
  refine G6 ?_
  have hE : Jd (ofF d) s = (ofF d).2 := by unfold Jd; rw [if_neg (by simpa using h1)]
  have hne : (ofF d).2 ≠ (0 : Int) := by simpa using h1
  refine G ?_
  exact ⟨_,rfl,_,_,ag_ hw nl (fun _ _ => rfl),nl,.same rfl,_,by rw [hE]; rfl,dv_,fun h => absurd (hE ▸ h) hne⟩
 ·have he1 : (ofF d).2 = 0 := by simpa using h1
  refine G8 ?_;refine TOr 3 ?_ (fun hg => ?_) ?_
  rotate_left
  ·iterate 3 refine Gn hg ?_
   exact Ez
  refine G ?_;refine Ab rfl ?_ ?_ <;> intro h2
  ·have he2 : (decide (s.size < 1) || decide (3 < s.size)) = true := h2
   refine G5 ?_
   have hE : Jd (ofF d) s = 3 := by unfold Jd; rw [if_pos he1,if_pos he2]
   have hne : 3 ≠ (0 : Int) := by decide
   refine G ?_
   exact ⟨_,rfl,_,_,ag_ hw nl (fun _ _ => rfl),nl,.same rfl,_,by rw [hE]; rfl,dv_,fun h => absurd (hE ▸ h) hne⟩
  ·have he2 : (decide (s.size < 1) || decide (3 < s.size)) = false := h2
   have hn1 : 1 <= s.size := by simp only [cv_,decide_eq_false_iff_not] at he2; omega
   have hn3 : s.size <= 3 := by simp only [cv_,decide_eq_false_iff_not] at he2; omega
   refine G5 ?_;refine O1 (Bq (n := nx J) Lu rfl) (O1 (Bq (n := nx J + 1) Ao2 (nx1 rfl)) (O1 (Bq (n := nx J + 2) Ao3 (nx1 (nx1 rfl))) ?_));refine G ?_;refine O1 (Alt (n := nx J + 3) (cs := B5 d s (nx J) (nx J + 1) (nx J + 2)) ldC rfl rfl (nx1 (nx1 (nx1 rfl)))) ?_;refine G11 ?_
   refine Bh s.sorts.length (fun i0 => [(3,.pv (scC s)),(6,.pv [Aj (ofF d).1.sorts,slV eR 4 (ofF d).1.rules]),(8,.pr (nx J + 3) 0),(41,slV eSo 2 s.sorts),(42,iV (.ofNat s.sorts.length)),(43,iV (.ofNat i0))]) (fun i0 J0 => ∃ km,Gl d s km [] [] (nx J + 3) (nx J) (nx J + 1) (nx J + 2) J0 /\ Below (nx J) J J0 /\ Aax (ofF d).1.sorts s.sorts [] = Aax (ofF d).1.sorts (s.sorts.drop i0) km) SL ⟨[],⟨by rw [ab_,if_pos (by rw [Ac,Ac,Ac])],⟨0,by rw [ab_,if_neg (by rw [Ac,Ac,Ac]; omega),ab_,if_neg (by rw [Ac,Ac]; omega),ab_,if_neg (by rw [Ac]; omega),ab_,if_pos rfl]; rfl⟩,⟨0,by rw [ab_,if_neg (by rw [Ac,Ac,Ac]; omega),ab_,if_neg (by rw [Ac,Ac]; omega),ab_,if_pos (by rw [Ac])]; rfl⟩,⟨0,by rw [ab_,if_neg (by rw [Ac,Ac,Ac]; omega),ab_,if_pos (by rw [Ac,Ac])]; rfl⟩⟩,⟨by rw [Ac,Ac,Ac,Ac]; omega,fun b hb => by rw [ab_,if_neg (by rw [Ac,Ac,Ac]; omega),ab_,if_neg (by rw [Ac,Ac]; omega),ab_,if_neg (by rw [Ac]; omega),ab_,if_neg Om]⟩,rfl⟩ ?_
   rintro i0 J0 hi0 ⟨km,hS0,hB0,hf0⟩;refine G5 ?_;refine Ab rfl ?_ ?_ <;> intro h3
   ·have bc : i0 < s.sorts.length := by simpa using h3
    obtain ⟨a0,ha0⟩ := A3 bc;have hd0 := Av ha0;have dn := hS0.cl;obtain ⟨vk,hvk⟩ := id hS0.ks;rw [hd0,Aax] at hf0;refine G10 ?_
    refine D3 [(82,.bool (((((!((ofF d).1.sorts.any fun y => decide (a0.code = y)) || !decide (kd km a0.code = 0)) || decide (a0.kind < 1)) || decide (3 < a0.kind)) || (decide (a0.code = [119,102,102]) && !decide (a0.kind = 3)))))] ?_ ?_
    ·rcases al_ ((!((ofF d).1.sorts.any fun y => decide (a0.code = y)))) with hg6 | hg6
     ·refine XS (l := [(46,[Aj (ofF d).1.sorts,sV a0.code],J0,.bool ((ofF d).1.sorts.any fun y => decide (a0.code = y)),J0)]) ⟨f46 (ofF d).1.sorts a0.code J0 Om,trivial⟩ ?_
      iterate 37 refine G ?_
      exact ⟨⟨Cb,trivial⟩,sb,rfl⟩
     ·rcases al_ ((!decide (kd km a0.code = 0))) with bp | bp
      ·refine XS (l := [(46,[Aj (ofF d).1.sorts,sV a0.code],J0,.bool ((ofF d).1.sorts.any fun y => decide (a0.code = y)),J0)]) ⟨f46 (ofF d).1.sorts a0.code J0 Om,trivial⟩ ?_
       refine G10 ?_;refine Xn (A4 dn ldC rfl (show Be 1 false ((B5 d s (nx J) (nx J + 1) (nx J + 2)).drop 6) = some (.mp (nx J)) from rfl)) ?_
       refine G2 ?_;refine Xn (G1 st9 Lu rfl hS0.ks rfl) ?_;refine G ?_
       refine DF (Am rfl (by first|rfl|simp only [bp,hg6]<;>rfl|simp [bp,hg6]) rfl) ?_
       iterate 21 refine G ?_
       exact ⟨⟨Cb,trivial⟩,sb,rfl⟩
      ·rcases al_ (decide (a0.kind < 1)) with bq | bq
       ·refine XS (l := [(46,[Aj (ofF d).1.sorts,sV a0.code],J0,.bool ((ofF d).1.sorts.any fun y => decide (a0.code = y)),J0)]) ⟨f46 (ofF d).1.sorts a0.code J0 Om,trivial⟩ ?_
        refine G10 ?_;refine Xn (A4 dn ldC rfl (show Be 1 false ((B5 d s (nx J) (nx J + 1) (nx J + 2)).drop 6) = some (.mp (nx J)) from rfl)) ?_
        refine G2 ?_;refine Xn (G1 st9 Lu rfl hS0.ks rfl) ?_;refine G ?_
        refine DF (Am rfl (by first|rfl|simp only [bq,bp,hg6]<;>rfl|simp [bq,bp,hg6]) rfl) ?_
        refine G4 ?_
        refine DF (Am rfl (by first|rfl|simp only [bq,bp,hg6]<;>rfl|simp [bq,bp,hg6]) rfl) ?_
        iterate 16 refine G ?_
        exact ⟨⟨Cb,trivial⟩,sb,rfl⟩
       ·rcases al_ (decide (3 < a0.kind)) with bv | bv
        ·refine XS (l := [(46,[Aj (ofF d).1.sorts,sV a0.code],J0,.bool ((ofF d).1.sorts.any fun y => decide (a0.code = y)),J0)]) ⟨f46 (ofF d).1.sorts a0.code J0 Om,trivial⟩ ?_
         refine G10 ?_;refine Xn (A4 dn ldC rfl (show Be 1 false ((B5 d s (nx J) (nx J + 1) (nx J + 2)).drop 6) = some (.mp (nx J)) from rfl)) ?_
         refine G2 ?_;refine Xn (G1 st9 Lu rfl hS0.ks rfl) ?_;refine G ?_
         refine DF (Am rfl (by first|rfl|simp only [bv,bq,bp,hg6]<;>rfl|simp [bv,bq,bp,hg6]) rfl) ?_
         refine G4 ?_
         refine DF (Am rfl (by first|rfl|simp only [bv,bq,bp,hg6]<;>rfl|simp [bv,bq,bp,hg6]) rfl) ?_
         refine G4 ?_
         refine DF (Am rfl (by first|rfl|simp only [bv,bq,bp,hg6]<;>rfl|simp [bv,bq,bp,hg6]) rfl) ?_
         refine G11 ?_;exact ⟨⟨Cb,trivial⟩,sb,rfl⟩
        ·rcases al_ (decide (a0.code = [119,102,102])) with bx | bx
         ·refine XS (l := [(46,[Aj (ofF d).1.sorts,sV a0.code],J0,.bool ((ofF d).1.sorts.any fun y => decide (a0.code = y)),J0)]) ⟨f46 (ofF d).1.sorts a0.code J0 Om,trivial⟩ ?_
          refine G10 ?_;refine Xn (A4 dn ldC rfl (show Be 1 false ((B5 d s (nx J) (nx J + 1) (nx J + 2)).drop 6) = some (.mp (nx J)) from rfl)) ?_
          refine G2 ?_;refine Xn (G1 st9 Lu rfl hS0.ks rfl) ?_;refine G ?_
          refine DF (Am rfl (by first|rfl|simp only [bx,bv,bq,bp,hg6]<;>rfl|simp [bx,bv,bq,bp,hg6]) rfl) ?_
          refine G4 ?_
          refine DF (Am rfl (by first|rfl|simp only [bx,bv,bq,bp,hg6]<;>rfl|simp [bx,bv,bq,bp,hg6]) rfl) ?_
          refine G4 ?_
          refine DF (Am rfl (by first|rfl|simp only [bx,bv,bq,bp,hg6]<;>rfl|simp [bx,bv,bq,bp,hg6]) rfl) ?_
          refine G ?_
          refine Wn (w := by first|rfl|simp only [bx,bv,bq,bp,hg6]<;>rfl|simp [bx,bv,bq,bp,hg6]) (B3 fdC rfl rfl) ?_
          refine Wn (w := by first|rfl|simp only [bx,bv,bq,bp,hg6]<;>rfl|simp [bx,bv,bq,bp,hg6]) (Ah ldC rfl rfl rfl) ?_
          refine Wn (w := by first|rfl|simp only [bx,bv,bq,bp,hg6]<;>rfl|simp [bx,bv,bq,bp,hg6]) (Sb (q := [119,102,102]) okC rfl rfl) ?_
          refine Wn (w := by first|rfl|simp only [bx,bv,bq,bp,hg6]<;>rfl|simp [bx,bv,bq,bp,hg6]) (Cm rfl) ?_
          refine Wn (w := by first|rfl|simp only [bx,bv,bq,bp,hg6]<;>rfl|simp [bx,bv,bq,bp,hg6]) (B3 fdC rfl rfl) ?_
          refine Wn (w := by first|rfl|simp only [bx,bv,bq,bp,hg6]<;>rfl|simp [bx,bv,bq,bp,hg6]) (Ah ldC rfl rfl rfl) ?_
          refine Wn (w := by first|rfl|simp only [bx,bv,bq,bp,hg6]<;>rfl|simp [bx,bv,bq,bp,hg6]) (Pe (q := 3) okC rfl rfl) ?_
          refine Wn (w := by first|rfl|simp only [bx,bv,bq,bp,hg6]<;>rfl|simp [bx,bv,bq,bp,hg6]) (E5 rfl (by first|rfl|simp only [bx,bv,bq,bp,hg6]<;>rfl|simp [bx,bv,bq,bp,hg6]) rfl) ?_
          refine DF (Am rfl (by first|rfl|simp only [bx,bv,bq,bp,hg6]<;>rfl|simp [bx,bv,bq,bp,hg6]) rfl) ?_
          refine Ii ?_
          exact ⟨⟨congrArg (fun b => some (AV.bool b)) (by first|rfl|simp only [bx,bv,bq,bp,hg6]<;>rfl|simp [bx,bv,bq,bp,hg6]),trivial⟩,sb,rfl⟩
         ·refine XS (l := [(46,[Aj (ofF d).1.sorts,sV a0.code],J0,.bool ((ofF d).1.sorts.any fun y => decide (a0.code = y)),J0)]) ⟨f46 (ofF d).1.sorts a0.code J0 Om,trivial⟩ ?_
          refine G10 ?_;refine Xn (A4 dn ldC rfl (show Be 1 false ((B5 d s (nx J) (nx J + 1) (nx J + 2)).drop 6) = some (.mp (nx J)) from rfl)) ?_
          refine G2 ?_;refine Xn (G1 st9 Lu rfl hS0.ks rfl) ?_;refine G ?_
          refine DF (Am rfl (by first|rfl|simp only [bx,bv,bq,bp,hg6]<;>rfl|simp [bx,bv,bq,bp,hg6]) rfl) ?_
          refine G4 ?_
          refine DF (Am rfl (by first|rfl|simp only [bx,bv,bq,bp,hg6]<;>rfl|simp [bx,bv,bq,bp,hg6]) rfl) ?_
          refine G4 ?_
          refine DF (Am rfl (by first|rfl|simp only [bx,bv,bq,bp,hg6]<;>rfl|simp [bx,bv,bq,bp,hg6]) rfl) ?_
          refine G ?_
          refine Wn (w := by first|rfl|simp only [bx,bv,bq,bp,hg6]<;>rfl|simp [bx,bv,bq,bp,hg6]) (B3 fdC rfl rfl) ?_
          refine Wn (w := by first|rfl|simp only [bx,bv,bq,bp,hg6]<;>rfl|simp [bx,bv,bq,bp,hg6]) (Ah ldC rfl rfl rfl) ?_
          refine Wn (w := by first|rfl|simp only [bx,bv,bq,bp,hg6]<;>rfl|simp [bx,bv,bq,bp,hg6]) (Sb (q := [119,102,102]) okC rfl rfl) ?_
          refine Wn (w := by first|rfl|simp only [bx,bv,bq,bp,hg6]<;>rfl|simp [bx,bv,bq,bp,hg6]) (Cm rfl) ?_
          refine Wx (w := by first|rfl|simp only [bx,bv,bq,bp,hg6]<;>rfl|simp [bx,bv,bq,bp,hg6]) ?_
          refine Wx (w := by first|rfl|simp only [bx,bv,bq,bp,hg6]<;>rfl|simp [bx,bv,bq,bp,hg6]) ?_
          refine Wx (w := by first|rfl|simp only [bx,bv,bq,bp,hg6]<;>rfl|simp [bx,bv,bq,bp,hg6]) ?_
          refine Wn (w := by first|rfl|simp only [bx,bv,bq,bp,hg6]<;>rfl|simp [bx,bv,bq,bp,hg6]) (Am rfl (by first|rfl|simp only [bx,bv,bq,bp,hg6]<;>rfl|simp [bx,bv,bq,bp,hg6]) rfl) ?_
          refine DF (Am rfl (by first|rfl|simp only [bx,bv,bq,bp,hg6]<;>rfl|simp [bx,bv,bq,bp,hg6]) rfl) ?_
          refine Ii ?_
          exact ⟨⟨congrArg (fun b => some (AV.bool b)) (by first|rfl|simp only [bx,bv,bq,bp,hg6]<;>rfl|simp [bx,bv,bq,bp,hg6]),trivial⟩,sb,rfl⟩
    refine Ab rfl ?_ ?_ <;> intro h4
    ·refine Co fun hw1 => ?_
     have h4' : badK (ofF d).1.sorts km a0 = true := h4;rw [if_pos h4'] at hf0
     have hK : (Us (ofF d).1 s).1 = 380 := by unfold Us; rw [hf0]
     refine G5 ?_
     have hE : Jd (ofF d) s = 380 := by unfold Jd; rw [if_pos he1,if_neg (by rw [he2]; simp)]; rw [if_neg (by rw [hK]; decide),hK]
     have hne : 380 ≠ (0 : Int) := by decide
     refine G ?_
     exact ⟨_,rfl,_,_,ag_ hw1 nl (fun _ _ => rfl),hB0.1,.same rfl,_,by rw [hE]; rfl,hB0,fun h => absurd (hE ▸ h) hne⟩
    ·have h4' : badK (ofF d).1.sorts km a0 = false := h4;refine G ?_;refine XS (l := []) trivial ?_;refine G3 ?_;refine DF (A4 dn ldC rfl (show Be 1 false ((B5 d s (nx J) (nx J + 1) (nx J + 2)).drop 6) = some (.mp (nx J)) from rfl)) ?_
     refine G4 ?_
     refine DT (Ec (v := a0.kind) st9 Lu rfl hvk rfl rfl (fun te k1 k2 => by first | exact Ex k1 k2 | exact Ey k1 k2 | exact Fc k1 k2 | exact Fe k1 k2 | exact E1 k1 k2 rfl)) ?_
     refine G5 ?_
     refine ⟨bc,SL,km.put a0.code a0.kind,hS0.setK Om Om Om dj_,⟨by rw [Ae]; exact hB0.1,fun b hb => by rw [a_,if_neg Om]; exact hB0.2 b hb⟩,by rw [hf0,if_neg (by rw [h4']; simp)]⟩
   ·have bm : s.sorts.length <= i0 := by simpa using h3
    have hK : Us (ofF d).1 s = (0,km) := by unfold Us; rw [hf0,ah_ bm]; rfl
    have dn := hS0.cl;refine G3 ?_;refine X0 ?_;refine G3 ?_;refine DF (A4 dn ldC rfl (show Be 1 false ((B5 d s (nx J) (nx J + 1) (nx J + 2)).drop 6) = some (.mp (nx J)) from rfl)) (DF (Ae8 Lu rfl hS0.ks) ?_)
    refine G5 ?_;refine ⟨rfl,rfl,?_⟩;refine Ab rfl ?_ ?_ <;> intro h4
    ·refine Co fun hw1 => ?_
     have hl1 : decide (Int.ofNat km.length < Int.ofNat (ofF d).1.sorts.length) = true := h4;refine G5 ?_
     have hE : Jd (ofF d) s = 380 := by unfold Jd; rw [if_pos he1,if_neg (by rw [he2]; simp)]; rw [if_pos (by rw [hK]),if_pos (by rw [hK]; exact hl1)]
     have hne : 380 ≠ (0 : Int) := by decide
     refine G ?_
     exact ⟨_,rfl,_,_,ag_ hw1 nl (fun _ _ => rfl),hB0.1,.same rfl,_,by rw [hE]; rfl,hB0,fun h => absurd (hE ▸ h) hne⟩
    ·have hl1 : decide (Int.ofNat km.length < Int.ofNat (ofF d).1.sorts.length) = false := h4
     iterate 14 refine G ?_
     refine Bh (ofF d).1.rules.length (fun i2 => [(3,.pv (scC s)),(8,.pr (nx J + 3) 0),(11,iV (.ofNat (axR ((ofF d).1.rules.take i2)).length)),(102,slV eR 4 (ofF d).1.rules),(103,iV (.ofNat (ofF d).1.rules.length)),(104,iV (.ofNat i2))]) (fun i2 J2 => ∃ rm,Gl d s km rm [] (nx J + 3) (nx J) (nx J + 1) (nx J + 2) J2 /\ Below (nx J) J J2 /\ ∀ l,rm.get l = Au ((ofF d).1.rules.take i2) l) SL ⟨[],hS0,hB0,fun _ => rfl⟩ ?_
     rintro i2 J2 hi2 ⟨rm,hS2,hB2,hr2⟩;refine G5 ?_;refine Ab rfl ?_ ?_ <;> intro h5
     ·have bz : i2 < (ofF d).1.rules.length := by simpa using h5
      obtain ⟨a2,ha2⟩ := A3 bz;have hd2 := Av ha2;have pf := hS2.cl;obtain ⟨vr,hvr⟩ := id hS2.rs;have hnl := Ah6 hG.nd ha2
      have hax : (axR ((ofF d).1.rules.take (i2 + 1))).length = (axR ((ofF d).1.rules.take i2)).length + if (!a2.var) = true then 1 else 0 := by
       unfold axR;rw [Bb ha2,dy_,aw_]
       congr 1
       cases hq : a2.var <;> simp [hq]
      have hxl : (axR ((ofF d).1.rules.take i2)).length <= i2 := bc_ (co_ _ _) (by rw [b_]; omega)
      refine G10 ?_;refine XS (l := []) trivial ?_;refine G3 ?_;refine DF (A4 pf ldC rfl (show Be 1 false ((B5 d s (nx J) (nx J + 1) (nx J + 2)).drop 7) = some (.mp (nx J + 1)) from rfl)) ?_
      refine G3 ?_
      refine DT (Ec (v := a2) st9 Ao2 rfl hvr rfl rfl (fun te k1 k2 => by first | exact Ex k1 k2 | exact Ey k1 k2 | exact Fc k1 k2 | exact Fe k1 k2 | exact E1 k1 k2 rfl)) ?_
      refine G7 ?_;refine Ab rfl ?_ ?_ <;> intro h6
      ·rw [if_pos h6] at hax;refine G9 ?_
       refine ⟨bz,⟨rfl,rfl,(by rw [hax]; rfl),rfl,rfl,rfl,trivial⟩,rm.put a2.label a2,hS2.setR Om Om Om dj_,⟨by rw [Ae]; exact hB2.1,fun b hb => by rw [a_,if_neg Om]; exact hB2.2 b hb⟩,fun l => by rw [cc_,Bb ha2,Xg hnl,hr2]⟩
      ·rw [if_neg (by rw [h6]; simp),dx_] at hax
       refine G5 ?_
       refine ⟨bz,⟨rfl,rfl,(by rw [hax]; rfl),rfl,rfl,rfl,trivial⟩,rm.put a2.label a2,hS2.setR Om Om Om dj_,⟨by rw [Ae]; exact hB2.1,fun b hb => by rw [a_,if_neg Om]; exact hB2.2 b hb⟩,fun l => by rw [cc_,Bb ha2,Xg hnl,hr2]⟩
     ·have b9 : (ofF d).1.rules.length <= i2 := by simpa using h5
      rw [ar_ b9] at hr2;rw [ar_ b9];refine G10 ?_;refine Bh s.syms.length (fun i4 => [(8,.pr (nx J + 3) 0),(11,iV (.ofNat (axR (ofF d).1.rules).length)),(122,slV eSy 3 s.syms),(123,iV (.ofNat s.syms.length)),(124,iV (.ofNat i4))]) (fun i4 J4 => ∃ sm,Gl d s km rm sm (nx J + 3) (nx J) (nx J + 1) (nx J + 2) J4 /\ Below (nx J) J J4 /\ Lh ⟨(ofF d).1.rules,km,[],s.size⟩ s.syms [] = Lh ⟨(ofF d).1.rules,km,[],s.size⟩ (s.syms.drop i4) sm) SL ⟨[],hS2,hB2,rfl⟩ ?_
      rintro i4 J4 hi4 ⟨sm,hS4,hB4,hf4⟩;refine G5 ?_;refine Ab rfl ?_ ?_ <;> intro h6
      ·have dy : i4 < s.syms.length := by simpa using h6
       obtain ⟨a4,ha4⟩ := A3 dy;have hd4 := Av ha4;refine Co fun hw4 => ?_
       have hwl := (hw4 _ _ hS4.cl).1;rw [hd4,Lh] at hf4;have hyb := hyl a4 (af_ ha4)
       iterate 13 refine G ?_
       refine Bu rfl rfl rfl rfl (f47 d s (ofF d).1 ⟨(ofF d).1.rules,km,sm,s.size⟩ rm a4 (nx J + 3) (nx J) (nx J + 1) (nx J + 2) _ hG rfl rfl hn1 hn3 hr2 hS4 hyb) ?_;rintro _ τ ⟨rfl,hnt,hgt,hmt⟩
       have hB5 : Below (nx J) J τ := ⟨bc_ hB4.1 hnt,fun b hb => (hgt b (by have := hB4.1; omega) Om).trans (hB4.2 b hb)⟩
       refine G7 ?_;refine Ab rfl ?_ ?_ <;> intro h7
       ·refine Co fun hw1 => ?_
        have h7' : ¬ I4 ⟨(ofF d).1.rules,km,sm,s.size⟩ a4 = 0 := by simpa using h7
        rw [if_neg h7'] at hf4
        have hY : (Lh ⟨(ofF d).1.rules,km,[],s.size⟩ s.syms []).1 = I4 ⟨(ofF d).1.rules,km,sm,s.size⟩ a4 := by rw [hf4]
        refine G6 ?_
        have hE : Jd (ofF d) s = I4 ⟨(ofF d).1.rules,km,sm,s.size⟩ a4 := by unfold Jd; rw [if_pos he1,if_neg (by rw [he2]; simp)]; rw [if_pos (by rw [hK]),if_neg (by rw [hK]; simp only; rw [hl1]; simp),if_neg (by rw [hK]; simp only; rw [hY]; exact h7'),hK]; exact hY
        have hne : I4 ⟨(ofF d).1.rules,km,sm,s.size⟩ a4 ≠ (0 : Int) := h7';refine G ?_
        exact ⟨_,rfl,_,_,ag_ hw1 nl (fun _ _ => rfl),hB5.1,.same rfl,_,by rw [hE]; rfl,hB5,fun h => absurd (hE ▸ h) hne⟩
       ·have h7' : I4 ⟨(ofF d).1.rules,km,sm,s.size⟩ a4 = 0 := by simpa using h7
        rw [if_pos h7'] at hmt
        have hS5 : Gl d s km rm (sm.put a4.label a4) (nx J + 3) (nx J) (nx J + 1) (nx J + 2) τ := ⟨(hgt _ (by have := hwl; omega) Om).trans hS4.cl,hS4.ks.imp fun v h => (hgt _ Om Om).trans h,hS4.rs.imp fun v h => (hgt _ Om Om).trans h,hmt⟩
        refine G5 ?_
        refine ⟨dy,SL,sm.put a4.label a4,hS5,hB5,by rw [hf4,if_pos h7']⟩
      ·have fq : s.syms.length <= i4 := by simpa using h6
       have hY : Lh ⟨(ofF d).1.rules,km,[],s.size⟩ s.syms [] = (0,sm) := by rw [hf4,ah_ fq]; rfl
       have hbw : Ci (ofF d).1 s = ⟨(ofF d).1.rules,km,sm,s.size⟩ := by unfold Ci; rw [hK]; simp only; rw [hY]
       refine G7 ?_;refine O1 (A4 hS4.cl ldC rfl (show Be 1 false ((B5 d s (nx J) (nx J + 1) (nx J + 2)).drop 8) = some (.mp (nx J + 2)) from rfl)) (O1 (Ae8 Ao3 rfl hS4.ss) ?_)
       refine G3 ?_;refine Ab rfl ?_ ?_ <;> intro h7
       ·refine Co fun hw1 => ?_
        have hl2 : decide (Int.ofNat sm.length < Int.ofNat (axR (ofF d).1.rules).length) = true := h7;refine G5 ?_
        have hE : Jd (ofF d) s = 381 := by unfold Jd; rw [if_pos he1,if_neg (by rw [he2]; simp)]; rw [if_pos (by rw [hK]),if_neg (by rw [hK]; simp only; rw [hl1]; simp),if_pos (by rw [hK]; simp only; rw [hY]),if_pos (by rw [hbw]; exact hl2)]
        have hne : 381 ≠ (0 : Int) := by decide
        refine G ?_
        exact ⟨_,rfl,_,_,ag_ hw1 nl (fun _ _ => rfl),hB4.1,.same rfl,_,by rw [hE]; rfl,hB4,fun h => absurd (hE ▸ h) hne⟩
       ·refine Co fun hw1 => ?_
        have hl2 : decide (Int.ofNat sm.length < Int.ofNat (axR (ofF d).1.rules).length) = false := h7;refine G7 ?_
        have hE : Jd (ofF d) s = 0 := by unfold Jd; rw [if_pos he1,if_neg (by rw [he2]; simp)]; rw [if_pos (by rw [hK]),if_neg (by rw [hK]; simp only; rw [hl1]; simp),if_pos (by rw [hK]; simp only; rw [hY]),if_neg (by rw [hbw]; simp only; rw [hl2]; simp)]
        refine G ?_
        exact ⟨_,rfl,_,_,ag_ hw1 nl (fun _ _ => rfl),hB4.1,.same (by show (AV.und (nx J4) (.pr (nx J + 3) 0) && (true && true)) = true; rw [show AV.und (nx J4) (.pr (nx J + 3) 0) = true from C6 (hw1 _ _ hS4.cl).1]; rfl),_,by rw [hE]; rfl,hB4,fun _ => ⟨rfl,rm,hr2,by rw [hbw]; exact hS4⟩⟩
mutual
def Jj : As -> List Str
 | .node s ks => s :: Uv ks
def Uv : List As -> List Str
 | [] => []
 | t :: r => Jj t ++ Uv r
end
mutual
theorem Adx : ∀ t : As,(Jj t).length = Ch t
 | .node s ks => by rw [Jj,Ch,ap_,Ady ks,eb_]
theorem Ady : ∀ l : List As,(Uv l).length = Dw l
 | [] => rfl
 | t :: r => by rw [Uv,Dw,aw_,Adx t,Ady r]
end
def K0 (g : List Rl) (acc : List Str) (s : Str) : List Str := if (Abz g s && !acc.any fun x => decide (s = x)) = true then acc ++ [s] else acc
mutual
theorem Aa2 {g : List Rl} : ∀ (t : As) (acc : List Str),C9 g t acc = (Jj t).foldl (K0 g) acc
 | .node s ks,acc => by rw [C9,Jj,dk_,Aa3 ks]; rfl
theorem Aa3 {g : List Rl} : ∀ (l : List As) (acc : List Str),Ur g l acc = (Uv l).foldl (K0 g) acc
 | [],acc => rfl
 | t :: r,acc => by rw [Ur,Uv,dp_,Aa2 t,Aa3 r]
end
theorem Aqf {k : As} : ∀ {l : List As},k ∈ l -> hT k <= hL l
 | [],h => by cases h
 | t :: r,h => by
  unfold hL
  rcases ai_.1 h with rfl | h
  ·omega
  ·have := Aqf h; omega
theorem Ane {ks : List As} {i : Nat} {k : As} (h : ks[i]? = some k) : Dw (ks.drop i) = Ch k + Dw (ks.drop (i + 1)) := by rw [Av h,Dw]
def Oa (L : RF) (a : Nat) : List AV := [.fn (.func 68) [] [.pv [.yl L.aY],.pr a 0]]
structure YSt (L : RF) (a : Nat) (S : List Str -> Sto -> Prop) : Prop where
 st : ∀ ls τ τ',S ls τ -> Below (nx τ) τ τ' -> S ls τ'
 y : ∀ (ls : List Str) (t : As) (p : AV) (τ : Sto),ls.length < 1000000 -> a < nx τ -> S ls τ -> τ.get a = some (.cells (Oa L a)) -> YTo Ew L [p,Bp t] τ fun τ' => S (ls ++ [Da t]) τ' /\ τ'.get a = some (.cells (Oa L a)) /\ ∀ v,Er τ v -> Er τ' v
theorem f68n (L : RF) (a : Nat) (S : List Str -> Sto -> Prop) (hY : YSt L a S) (s : Str) (ks : List As) (p : AV) (ls : List Str) (J : Sto) (hbl : ls.length + Ch (.node s ks) <= 900000) (hh : Afr p + hT (.node s ks) < 1000) (hp : Er J p) (han : a < nx J) (hS : S ls J) (ha : J.get a = some (.cells (Oa L a)))
  (ih : ∀ k ∈ ks,∀ p ls τ,ls.length + Ch k <= 900000 -> Afr p + hT k < 1000 -> Er τ p -> a < nx τ -> S ls τ -> τ.get a = some (.cells (Oa L a)) -> Ac4 Ew L 68 [p,Bp k,.pv [.yl L.aY],.pr a 0] τ fun v τ' => v = .bool true /\ S (ls ++ Jj k) τ' /\ τ'.get a = some (.cells (Oa L a)) /\ ∀ v,Er τ v -> Er τ' v) :
  Ac4 Ew L 68 [p,Bp (.node s ks),.pv [.yl L.aY],.pr a 0] J fun v τ' => v = .bool true /\ S (ls ++ Jj (.node s ks)) τ' /\ τ'.get a = some (.cells (Oa L a)) /\ ∀ v,Er J v -> Er τ' v := by
 have hc1 : Ch (.node s ks) = 1 + Dw ks := by rw [Ch]
 have hh1 : hT (.node s ks) = 1 + hL ks := by rw [hT]
 have hkl := Mh ks;refine As8 Tryz.func68 (L7 _ _ Tryz.func68) rfl rfl fun hw hu0 => ?_
 refine De (F0 (C7 ?_));refine Ql ldC rfl (Bk (B2 (.node s ks))) rfl ?_;refine G2 ?_;refine De ?_;refine De (Sk ?_);refine Im noR rfl rfl (Ah ldC rfl rfl rfl) ?_;refine Im noR rfl rfl (Cm rfl) ?_;refine Im noR rfl rfl (Ah ldC rfl rfl (B0 (B2 _))) ?_;refine Ac1 (fun _ _ => rfl) rfl rfl rfl rfl (hY.y ls (.node s ks) p J Om han hS ha) fun J1 hS1 hn1 => ?_
 refine Im noR rfl rfl (M2 rfl) ?_;refine Ug ?_
 refine Md rfl (fun h1 => by cases h1) (fun h1 => ?_)
 refine Mc ?_;refine De ?_;refine De (F0 (C7 ?_));refine O1 (Ah ldC rfl rfl (B0 (B2 (.node s ks)))) (Af rfl rfl rfl rfl (f69 s ks _ Om) ?_);refine G3 ?_;refine Qv ?_
 refine Ac0 (fun i => [(0,p),(3,.pr a 0),(15,slV eT 2 ks),(16,iV (.ofNat ks.length)),(17,iV (.ofNat i))]) (fun i τ => i <= ks.length /\ nx J <= nx τ /\ τ.get a = some (.cells (Oa L a)) /\ (∀ v,Er J v -> Er τ v) /\ ∃ ls',S ls' τ /\ ls ++ Jj (.node s ks) = ls' ++ Uv (ks.drop i) /\ ls'.length + Dw (ks.drop i) <= 900000) (fun i => ks.length - i) 0 SL ⟨ca_ _,hn1,hS1.2.1,hS1.2.2,ls ++ [s],hS1.1,by rw [Jj]; simp,by rw [aw_,dc_,eu_]; omega⟩ ?_
 rintro i J0 ⟨hi0,hn0,ha0,hp0,ls0,hS0,hl0,hb0⟩;refine De (F0 (C7 ?_));refine G2 ?_;refine De ?_;refine Md rfl ?_ ?_ <;> intro h2
 ·have bc : i < ks.length := by simpa using h2
  obtain ⟨k,hk0⟩ := A3 bc;have hkm := af_ hk0;have hkh := Aqf hkm;rw [Ane hk0] at hb0;refine Mc ?_;refine De ?_;refine Qv ?_;refine Ak3 fun hw0 => ?_
  refine De (F0 (C7 ?_));refine G ?_;refine O1 (Bn elC B2 rfl rfl hk0) (O1 (Ah ldC rfl rfl (B4 (B2 k) _)) (O1 (Ho (n := nx J0) ziC rfl) ?_));refine G ?_
  refine O1 (F3 (a := nx J0) (off := 0) (cs := [.str [],.nil (.slice none 0 0)]) (cs' := eT k) (by rw [ab_,if_pos rfl]) ldC rfl rfl (Bk (B2 k)) (Cx (B2 k))) ?_
  refine G ?_;obtain ⟨J2,hJ2⟩ : ∃ J2,(J0.new (.cells [.str [],.nil (.slice none 0 0)])).set (nx J0) (.cells (eT k)) = J2 := ⟨_,rfl⟩
  have ba : Below (nx J0) J0 J2 := by rw [← hJ2]; exact ⟨by rw [Ae,Ac]; omega,fun c hc => by rw [a_,if_neg Om,ab_,if_neg Om]⟩
  have h8 : J2.get (nx J0) = some (.cells (eT k)) := by rw [← hJ2,a_,if_pos rfl]
  have hn2 : nx J0 < nx J2 := by rw [← hJ2,Ae,Ac]; omega
  have pg : a < nx J0 := by omega
  have ha2 : J2.get a = some (.cells (Oa L a)) := (ba.2 a pg).trans ha0;have hpp := (hp0 p hp).below ba;obtain ⟨u,τ1,n,p1,τ2,c14,hl14,hs14,hap,hP1,hB1,hB2,hpl⟩ := Aqe hpp (.ofNat i) Om;have hx1 : Below (nx J2) J2 τ1 := hB1;have ha3 : τ1.get a = some (.cells (Oa L a)) := (hB1.2 a Om).trans ha2;have ha4 : τ2.get a = some (.cells (Oa L a)) := (hB2.2 a Om).trans ha2;have h83 : τ1.get (nx J0) = some (.cells (eT k)) := (hB1.2 _ hn2).trans h8;have h84 : τ2.get (nx J0) = some (.cells (eT k)) := (hB2.2 _ hn2).trans h8
  have iy : Below (nx J0) J0 τ2 := ⟨bc_ ba.1 hB2.1,fun c hc => (hB2.2 c (by have := ba.1; omega)).trans (ba.2 c hc)⟩
  rw [hJ2];refine De (Amt 7 (Rr := Eq [(14,[p],J2,u,τ1)]) (anns := [aR 0 2,aP 0 0,aE 0 1,aP 0 1,aP 0 1,aE 1 2,aR 0 2]) Kr Cu (Fv ⟨c14,trivial⟩) Kr ?_);refine DF (A4 ha2 ldC rfl rfl) ?_;refine G3 ?_;refine DF (Ay elC byW rfl rfl rfl) (DT (A1 elC rfl slC rfl rfl rfl (new := eI (.ofNat i)) rfl hap) (DF (A4 h84 ldC rfl (B0 (B2 k))) ?_));refine G ?_
  refine ⟨⟨fun s hs => (by replace hs : s ∈ [J2,τ1,τ2] := hs; simp at hs; rcases hs with rfl | rfl | rfl; exact ⟨_,A4 ha2 (ldC (t := 167)) rfl rfl⟩; exact ⟨_,A4 ha3 (ldC (t := 167)) rfl rfl⟩; exact ⟨_,A4 ha4 (ldC (t := 167)) rfl rfl⟩),trivial,trivial,trivial,trivial,trivial,(fun s hs => by replace hs : s ∈ [J2,τ1,τ2] := hs; simp at hs; rcases hs with rfl | rfl | rfl; exact ⟨_,A4 h8 (ldC (t := 32)) rfl (B0 (B2 k))⟩; exact ⟨_,A4 h83 (ldC (t := 32)) rfl (B0 (B2 k))⟩; exact ⟨_,A4 h84 (ldC (t := 32)) rfl (B0 (B2 k))⟩),trivial⟩,?_⟩
  refine Ac5 rfl rfl rfl rfl (ih k hkm p1 ls0 τ2 Om Om hP1 (by have := iy.1; omega) (hY.st _ _ _ hS0 iy) ha4) ?_
  rintro _ J3 ⟨rfl,hS3,ha5,hp3⟩ hn3;refine Im noR rfl rfl (M2 rfl) ?_;refine Ug ?_
  refine Md rfl (fun h3 => by cases h3) (fun h3 => ?_)
  refine Mc ?_;refine F0 (C7 ?_);refine G3 ?_
  exact ⟨i + 1,by omega,SL,bc,by have := iy.1; omega,ha5,fun v hv => hp3 v ((hp0 v hv).below iy),ls0 ++ Jj k,hS3,by rw [hl0,Av hk0,Uv,bu_],by rw [aw_,Adx]; omega⟩
 ·have bm : ks.length <= i := by simpa using h2
  refine Aha ?_;refine De (F0 (C7 ?_));refine G2 ?_;refine Ak3 fun hw9 => ?_
  refine Ari ?_;refine ⟨_,rfl,_,J0,ag_ hw9 nl (fun _ _ => rfl),hn0,.same rfl,rfl,?_,ha0,hp0⟩
  rw [hl0,ah_ bm,Uv,cn_];exact hS0
theorem f68 (L : RF) (a : Nat) (S : List Str -> Sto -> Prop) (hY : YSt L a S) (t : As) : ∀ p ls τ,ls.length + Ch t <= 900000 -> Afr p + hT t < 1000 -> Er τ p -> a < nx τ -> S ls τ -> τ.get a = some (.cells (Oa L a)) -> Ac4 Ew L 68 [p,Bp t,.pv [.yl L.aY],.pr a 0] τ fun v τ' => v = .bool true /\ S (ls ++ Jj t) τ' /\ τ'.get a = some (.cells (Oa L a)) /\ ∀ v,Er τ v -> Er τ' v := by
 refine As.ind' (P := fun t => ∀ p ls τ,ls.length + Ch t <= 900000 -> Afr p + hT t < 1000 -> Er τ p -> a < nx τ -> S ls τ -> τ.get a = some (.cells (Oa L a)) -> Ac4 Ew L 68 [p,Bp t,.pv [.yl L.aY],.pr a 0] τ fun v τ' => v = .bool true /\ S (ls ++ Jj t) τ' /\ τ'.get a = some (.cells (Oa L a)) /\ ∀ v,Er τ v -> Er τ' v) ?_ t
 intro s ks ih p ls τ h1 h2 h3 h4 h5 h6;exact f68n L a S hY s ks p ls τ h1 h2 h3 h4 h5 h6 ih
theorem it67 (L : RF) (t : As) (J : Sto) (S : List Str -> Sto -> Prop) (hc : Ch t <= 900000) (hh : hT t < 1000) (h0 : ∀ τ,Below (nx J) J τ -> S [] τ) (hY : ∀ a,nx J <= a -> YSt L a S) : Lt Ew L 67 [.yl L.aY,.pv (eT t)] J (S (Jj t)) := by
 refine Aox Tryz.func67 rfl rfl rfl fun hw hu0 => ?_
 refine De (F0 (C7 ?_));refine G2 ?_;refine De (F0 (C7 ?_));refine O1 (Ho (n := nx J) ziC rfl) ?_;refine G ?_;refine De (F0 (C7 ?_));refine G ?_
 refine O1 (F3 (cs := [.nil (.nilFunc)]) (cs' := Oa L (nx J)) (by rw [ab_,if_pos rfl]) ldC rfl rfl rfl rfl) ?_
 refine G ?_
 have hg : ((J.new (.cells [.nil (.nilFunc)])).set (nx J) (.cells (Oa L (nx J)))).get (nx J) = some (.cells (Oa L (nx J))) := by rw [a_,if_pos rfl]
 have hn : nx J < nx ((J.new (.cells [.nil (.nilFunc)])).set (nx J) (.cells (Oa L (nx J)))) := by rw [Ae,Ac]; omega
 refine Sk ?_;refine Im noR rfl rfl (A4 hg ldC rfl rfl) ?_;refine Im noR rfl rfl (Ah ldC rfl rfl (B0 (B2 t))) ?_
 refine Ac5 rfl rfl rfl rfl (f68 L (nx J) S (hY _ nl) t (.nil (.slice none 0 0)) [] _ (by simpa using hc) (by simpa [Afr] using hh) (.inl rfl) hn (h0 _ ⟨ga_ hn,fun b hb => by rw [a_,if_neg Om,ab_,if_neg Om]⟩) hg) ?_
 rintro _ J1 ⟨rfl,hS1,_⟩ hn1;refine Ug ?_;exact hS1
theorem f50 (t : As) (J : Sto) : Cv 50 [Bp t] J (.fn (.func 67) [] [.pv (eT t)]) := by
 refine Ak Tryz.func50 rfl rfl fun hw hu0 => ?_
 have hu : AV.unds (nx J) (eT t) = true := by
  have : (AV.und (nx J) (Bp t) && true) = true := hu0;rw [Bool.and_true] at this;cases t;exact this
 refine G11 ?_
 exact ⟨_,rfl,_,_,ag_ hw nl (fun _ _ => rfl),nl,.same (by show (true && ((AV.unds (nx J) (eT t)) && true)) = true; rw [hu]; rfl),rfl,rfl⟩
theorem Ah7 {g : List Rl} {s : Str} : (Gx g s).var = Abz g s := by unfold Gx Abz; cases Au g s <;> rfl
theorem Adz {g : List Rl} : ∀ (ls acc : List Str),(ls.foldl (K0 g) acc).length <= acc.length + ls.length
 | [],acc => by simp
 | s :: ls,acc => by
  rw [dk_,ap_];have := Adz (g := g) ls (K0 g acc s)
  have h2 : (K0 g acc s).length <= acc.length + 1 := by unfold K0; split <;> simp
  omega
structure Afs (g : List Rl) (J : Sto) (ls : List Str) (J' : Sto) : Prop where
 mk' ::
 ex : ∃ v,J'.get (nx J + 1) = some (.cells [v]) /\ Own J' (nx J + 4) e1 1 (ls.foldl (K0 g) []) v /\ (ls.foldl (K0 g) [] = [] -> v = .nil (.slice none 0 0)) /\ J'.get (nx J + 3) = some (.loop .ready) /\ (∀ b,b < nx J -> J'.get b = J.get b) /\ nx J + 4 <= nx J'
theorem Afs.rd {g : List Rl} {J J' : Sto} {ls : List Str} (h : Afs g J ls J') : J'.get (nx J + 3) = some (.loop .ready) := by obtain ⟨_,_,_,_,h,_⟩ := h.ex; exact h
theorem Afs.below {g : List Rl} {J τ τ' : Sto} {ls : List Str} (h : Afs g J ls τ) (hb : Below (nx τ) τ τ') : Afs g J ls τ' := by
 obtain ⟨v,h1,h2,h0,h3,h4,h5⟩ := h.ex;have hb1 := hb.1
 exact ⟨v,(hb.2 _ Om).trans h1,h2.mono hb1 fun a tl _ _ h8 _ => hb.2 a h8,h0,(hb.2 _ Om).trans h3,fun b hbs => (hb.2 b Om).trans (h4 b hbs),by omega⟩
theorem Anf {l : List Int} {tl : List AV} (h : 0 < l.length) : ∃ x r,l.flatMap eI ++ tl = iV x :: r := by
 cases l with
 | nil => simp at h
 | cons x l => exact ⟨x,l.flatMap eI ++ tl,rfl⟩
theorem Er.keep {J τ : Sto} (hn : nx J <= nx τ) (hk : ∀ (b : Nat) (x : Int) (r : List AV),b < nx J -> J.get b = some (.cells (iV x :: r)) -> τ.get b = J.get b) : ∀ v,Er J v -> Er τ v := fun v h => by
 rcases h with h | ⟨a,l,tl,h1,h2,h3,h4⟩
 ·exact .inl h
 ·obtain ⟨x,r,e⟩ := Anf (tl := tl) h2
  exact .inr ⟨a,l,tl,by omega,h2,h3,(hk a x r h1 (by rw [h4,e])).trans h4⟩
theorem f31 (d : Db) (t : As) (J : Sto) (hD : DbB d) (hvf : d.vars.length + d.frames.length < 1000000) (hb : Ch t <= 4000) (hh : hT t <= 100) :
  Cv 31 [dbV d,Bp t] J (.tup [Aj (if P3 d t = 0 then C9 (ofF d).1.rules t [] else []),iV (P3 d t)]) := by
 refine Ase Tryz.func31 (L7 _ _ Tryz.func31) rfl rfl fun hw hu0 => ?_
 have hG := Adn d;have hgl := hG.len;refine Sn ?_;refine G6 ?_;refine Sn ?_;refine G3 ?_;refine Af rfl rfl rfl rfl (f49 d t _ hD hvf hb hh) ?_;refine G8 ?_;refine Sn ?_;refine G5 ?_;refine Ab rfl ?_ ?_ <;> intro h1
 ·refine G6 ?_
  have hne : ¬ P3 d t = 0 := by simpa using h1
  refine G ?_
  exact ⟨_,rfl,.tup [Aj [],iV (P3 d t)],J,ag_ hw (by rw [Bi]; omega) (fun a _ => D6 J a),nl,.tup (.cons Dd (.cons (.same rfl) .nil)),by rw [if_neg hne],rfl⟩
 ·have he : P3 d t = 0 := by simpa using h1
  refine G ?_;refine Sn ?_;refine G ?_;refine O1 (B6 ziC) ?_;refine G ?_;refine Ac2 ?_;refine G2 ?_;refine Af rfl rfl rfl rfl (f50 t _) ?_;refine G ?_;have hA : nx J.bump = nx J + 1 := Bi J
  have h1n : nx (J.bump.new (.cells [.nil (.slice none 0 0)])) = nx J + 2 := by rw [Ac,hA]
  have hsn : nx ((J.bump.new (.cells [.nil (.slice none 0 0)])).bump.new (.loop .ready)) = nx J + 4 := by rw [Ac,Bi,h1n]
  refine ⟨67,[.pv (eT t)],_,fun J' => Afs (ofF d).1.rules J (Jj t) J',rfl,Tryz.func67,L7 _ _ Tryz.func67,rfl,fun tm ht => ?_,fun J' aD hS hn => ?_⟩
  ·rw [h1n];refine Lt.post (it67 _ t _ (fun ls J' => Afs (ofF d).1.rules J ls J') Om Om (fun τ hB => Afs.below (τ := _) ?_ hB) fun a ha => ⟨fun ls τ τ' h1 h2 => h1.below h2,?_⟩) fun J' hS => ⟨hS.rd,hS⟩
   ·refine ⟨⟨.nil (.slice none 0 0),?_,.nil,fun _ => rfl,?_,fun b hb' => ?_,by rw [hsn]; exact nl⟩⟩
    ·rw [ab_,Bi,if_neg (by rw [h1n]; omega),D6,ab_,if_pos hA.symm]
    ·rw [ab_,Bi,if_pos (by rw [h1n])]
    ·rw [ab_,Bi,if_neg (by rw [h1n]; omega),D6,ab_,if_neg (by rw [hA]; omega),D6]
   ·intro ls x p τ hls han hS hga;rw [hsn] at ha;obtain ⟨v,cj,br,d6,hrd,di,hnn⟩ := hS.ex;have hnb : nx (τ.set (nx J + 3) (.loop .busy)) = nx τ := Ae _ _ _
    have hfl : ((ls ++ [Da x]).foldl (K0 (ofF d).1.rules) []) = K0 (ofF d).1.rules (ls.foldl (K0 (ofF d).1.rules) []) (Da x) := by rw [dp_]; rfl
    have hll := Adz (g := (ofF d).1.rules) ls [];simp only [dr_,be_] at hll;obtain ⟨acc,pj⟩ : ∃ acc,ls.foldl (K0 (ofF d).1.rules) [] = acc := ⟨_,rfl⟩;rw [pj] at br hfl hll d6
    have iz : ∀ r,Be 1 false (eT x ++ r) = some (sV (Da x)) := fun r => by cases x; rw [Jr]; rfl
    have ic : Be 1 false ((eT x).drop 0) = some (sV (Da x)) := by cases x; rw [Jr]; rfl
    have ce : (τ.set (nx J + 3) (.loop .busy)).get (nx J + 1) = some (.cells [v]) := by rw [a_,if_neg Om]; exact cj
    have dv : Own (τ.set (nx J + 3) (.loop .busy)) (nx J + 4) e1 1 acc v := br.mono (by rw [hnb]; exact nl) fun a tl _ h8 h9 _ => by rw [a_,if_neg Om]
    have hcl : ∀ τ : Sto,τ.get (nx J + 1) = some (.cells [v]) -> Cn τ (.pr (nx J + 1) 0) = some [v] := fun τ h => by simp only [Cn,Sto.cells,h]; rfl
    refine Aov (ρL := _) ht rfl rfl hrd (by show nx J + 3 < nx τ; omega) ?_
    refine Ks Kr ?_;refine Zr ziC ldC rfl (fun _ => rfl) rfl (Bk (B2 x)) rfl rfl ?_
    refine G ?_;refine ⟨hrd,?_⟩;refine Acz ?_;refine Arh (Ks Kr ?_);refine G2 ?_;refine O1 (Ah ldC rfl rfl ic) (Af rfl rfl rfl rfl (f51 (ofF d).1 (Da x) _ Om) ?_);refine O1 (Zh fdC rfl rfl) ?_;refine G ?_;refine TAn 5 ?_ (fun hg => ?_) ?_
    rotate_left
    ·refine On hg (Ah (u := .pr (nx J + 1) 0) (cs := [v]) ldC (by rw [← hA]; rfl) (hcl _ ce) rfl) ?_
     refine Gn hg ?_
     refine On hg (Ah ldC rfl rfl ic) (Bg rfl rfl rfl (by rw [hg]; rfl) rfl rfl rfl rfl (Aps acc (Da x) v _ dv Om) ?_)
     refine Gn hg ?_;exact Ez
    refine G ?_;refine Aot rfl ?_ ?_ <;> intro h2
    ·rw [Ah7] at h2;have hst : K0 (ofF d).1.rules acc (Da x) = acc ++ [Da x] := if_pos h2
     have bo : (acc.length + [Da x].length) * (16 + 1) <= sizeLim := by simp only [dc_,sizeLim]; omega
     obtain ⟨v1,τ1,hap,ho1,hb1,hk1⟩ := dv.app (by' := 16) (enc := e1) (sz := 1) (fun _ => rfl) (by rw [hnb]; omega) [Da x] bo
     have fk : τ1.get (nx J + 1) = some (.cells [v]) := (hb1.2 _ Om).trans ce;refine Ks Kr ?_
     refine O1 (Ah (u := .pr (nx J + 1) 0) (cs := [v]) ldC (by rw [← hA]; rfl) (hcl _ ce) rfl) ?_
     refine G ?_
     refine O1 (Ah ldC rfl rfl ic) (Dz (Ay elC byW rfl rfl rfl) (Fk (len := 1)) rfl rfl (O1 (A1 elC rfl slC rfl rfl rfl (new := e1 (Da x)) rfl hap) (O1 (A6 (ad := nx J + 1) (off := 0) (vs := [v]) (vs' := [v1]) (cs := [v1]) ldC (by rw [← hA]; rfl) rfl (Mf ho1) (by simp only [Sto.cells,fk]) rfl) ?_)))
     refine G ?_
     have hn1 : nx τ <= nx τ1 := by have := hk1; have := hb1.1; omega
     have hne : ∀ b,b < nx τ -> b ≠ nx J + 1 -> b ≠ nx J + 3 -> (∀ c,v = .sr c 0 1 acc.length none -> b ≠ c) -> ((τ1.set (nx J + 1) (.cells [v1])).set (nx J + 3) (.loop .ready)).get b = τ.get b := fun b h3 h4 h5 h6 => by
      rw [a_,if_neg h5,a_,if_neg h4,hk1 b (by rw [hnb]; exact h3) h6,a_,if_neg h5]
     have hvt : ∀ c,v = .sr c 0 1 acc.length none -> (∃ s r,τ.get c = some (.cells (sV s :: r))) := fun c hc => by
      rcases br with ⟨_,rfl | rfl⟩ | ⟨c',tl,k1,k2,k3,k4⟩
      ·cases hc
      ·cases hc
      ·rw [k3] at hc;cases hc;cases acc with
       | nil => rw [d6 rfl] at k3; cases k3
       | cons s r => exact ⟨s,r.flatMap e1 ++ tl,k4⟩
     refine ⟨by rw [a_,if_neg (by show ¬ nx J + 3 = nx J + 1; omega),hb1.2 _ (by show nx J + 3 < nx J + 4; omega),a_,if_pos rfl],⟨⟨v1,?_,?_,(fun h0 => by rw [hfl,hst] at h0; simp at h0),by rw [a_,if_pos rfl],fun b hb' => ?_,by rw [Ae,Ae]; omega⟩⟩,?_,?_⟩
     ·rw [a_,if_neg (by show ¬ nx J + 1 = nx J + 3; omega),a_,if_pos rfl]
     ·rw [hfl,hst]
      exact ho1.mono (by rw [Ae,Ae]; exact nl) fun a tl _ h8 h9 _ => by rw [a_,if_neg (by show ¬ a = nx J + 3; omega),a_,if_neg Om]
     ·rw [a_,if_neg (by show ¬ b = nx J + 3; omega),a_,if_neg Om,hb1.2 b Om,a_,if_neg Om]
      exact di b hb'
     ·rw [show _ = τ.get a from hne a han Om Om fun c hc he => ?_]
      ·exact hga
      ·obtain ⟨s,r,e⟩ := hvt c hc;rw [← he,hga] at e;cases e
     ·refine Er.keep (by rw [Ae,Ae]; exact hn1) fun b y r h3 h4 => hne b h3 (fun h5 => ?_) (fun h5 => ?_) fun c hc he => ?_
      ·rw [h5,cj] at h4;simp only [ac_,AO.cells.injEq,de_] at h4
       rcases br with ⟨_,rfl | rfl⟩ | ⟨_,_,_,_,rfl,_⟩ <;> cases h4.1
      ·rw [h5,hrd] at h4; cases h4
      ·obtain ⟨s,r',e⟩ := hvt c hc;rw [← he,h4] at e;cases e
    ·rw [Ah7] at h2
     have hst : K0 (ofF d).1.rules acc (Da x) = acc := if_neg (by rw [h2]; simp)
     refine Aos ?_
     refine ⟨by rw [a_,if_pos rfl],⟨⟨v,?_,?_,(fun h0 => d6 (by rw [hfl,hst] at h0; exact h0)),by rw [a_,if_pos rfl],fun b hb' => ?_,by rw [Ae,Ae]; exact hnn⟩⟩,?_,?_⟩
     ·rw [a_,if_neg (by show ¬ nx J + 1 = nx J + 3; omega)]; exact ce
     ·rw [hfl,hst]
      exact dv.mono (by simp only [Ae,Nat.le_refl]) fun a tl _ h8 h9 _ => by rw [a_,if_neg (by show ¬ a = nx J + 3; omega)]
     ·rw [a_,if_neg (by show ¬ b = nx J + 3; omega),a_,if_neg (by show ¬ b = nx J + 3; omega)]
      exact di b hb'
     ·rw [a_,if_neg (by show ¬ a = nx J + 3; omega),a_,if_neg (by show ¬ a = nx J + 3; omega)]; exact hga
     ·refine Er.keep (by rw [Ae,Ae]; exact nl) fun b y r h3 h4 => ?_
      have h5 : b ≠ nx J + 3 := fun h5 => by rw [h5,hrd] at h4; cases h4
      rw [a_,if_neg (by exact h5),a_,if_neg h5]
  ·have hS' : Afs (ofF d).1.rules J (Jj t) J' := hS;obtain ⟨v,cj,br,d6,hrd,di,hnn⟩ := hS'.ex;rw [h1n];have hnk : nx (J'.kill (nx J + 2 + 1)) = nx J' := By _ _
   have hgk : ∀ b,b ≠ nx J + 3 -> (J'.kill (nx J + 2 + 1)).get b = J'.get b := fun b hb' => by rw [db_,if_neg hb']
   have ek : Own (J'.kill (nx J + 2 + 1)) (nx J + 4) e1 1 ((Jj t).foldl (K0 (ofF d).1.rules) []) v := br.mono (by rw [hnk]; exact nl) fun a tl _ h8 h9 _ => hgk a Om
   refine G2 ?_
   refine O1 (Ah (u := .pr (nx J + 1) 0) (cs := [v]) ldC (by rw [← hA]; rfl) (by simp only [Cn,Sto.cells,(hgk _ Om).trans cj]; rfl) rfl) ?_
   refine G4 ?_
   refine ⟨_,rfl,.tup [Aj (C9 (ofF d).1.rules t []),iV 0],J,as_ hw ⟨by rw [hnk]; omega,fun b hb' => (hgk b Om).trans (di b hb')⟩,nl,.tup (.cons ?_ (.cons (.same rfl) .nil)),by rw [if_pos he,he],rfl⟩
   rw [Aa2];exact ek.fz (fun _ => rfl) (fun a ha => hw.none Om) (Br Lf _)
end Go.AM
