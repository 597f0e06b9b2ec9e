/- A part of the proof; shortened by program. -/
import Derived.Test.YtadnlmhnjfmleaaGreatDoorP21
set_option maxRecDepth 100000
set_option maxHeartbeats 4000000
set_option linter.unusedSimpArgs false
set_option linter.unusedVariables false
namespace Go.AM
open Go Go.Proofs
def Hq (l : List Hp) (m : SM Hp) : SM Hp := l.foldl (fun m h => m.put (txv h) h) m
theorem Adk : ∀ {l : List Hp} {m : SM Hp} {v : Str},(∃ h ∈ l,txv h = v) -> ∃ h ∈ l,(Hq l m).get v = some h /\ txv h = v
 | [],_,_,⟨_,h,_⟩ => by cases h
 | x :: l,m,v,hx => by
  by_cases hl : ∃ h ∈ l,txv h = v
  ·obtain ⟨h,h1,h2⟩ := Adk (m := m.put (txv x) x) hl;exact ⟨h,am_ _ h1,h2⟩
  ·obtain ⟨h,hm,e⟩ := hx
   rcases ai_.1 hm with rfl | hm
   ·refine ⟨h,bn_ ..,?_,e⟩
    show (Hq l (m.put (txv h) h)).get v = some h
    have key : ∀ {l : List Hp} {m : SM Hp},(∀ y ∈ l,txv y ≠ v) -> (Hq l m).get v = m.get v := by
     intro l
     induction l with
     | nil => intro m _; rfl
     | cons y l ih =>
      intro m hy
      show (Hq l (m.put (txv y) y)).get v = _
      rw [ih (fun z hz => hy z (am_ _ hz)),cc_,if_neg (go_ (hy y (bn_ ..)))]
    rw [key (fun y hy e => hl ⟨y,hy,e⟩),cc_,if_pos e.symm]
   ·exact absurd ⟨h,hm,e⟩ hl
def zG : Gr := ⟨[],[]⟩
def Afj (g : Gr) (t0 : Str) : List Str := if (!(g.sorts.any fun x => decide (t0 = x))) = true then g.sorts ++ [t0] else g.sorts
def varG (h : Hp) (v : Str) (g : Gr) : Gr := ⟨Afj g (h.text.headD []),g.rules ++ [⟨h.label,h.text.headD [],[⟨v,[],0⟩],true⟩]⟩
def N8 (hy : SM Hp) : List Str -> Gr -> Option Gr
 | [],g => some g
 | v :: r,g => match hy.get v with
  | none => none
  | some h => if decide (h.text.headD [] = [124,45]) = true then none else N8 hy r (varG h v g)
def Adl (f : Fr) (g : Gr) : Bool := (f.thm || f.hyps.any (fun h => !h.floating)) || !(g.sorts.any fun x => decide (f.text.headD [] = x))
def Ge : List Fr -> Gr -> Option Gr
 | [],g => some g
 | f :: r,g => if Adl f g = true then Ge r g else match H5 f with
  | none => none
  | some rl => Ge r ⟨g.sorts,g.rules ++ [rl]⟩
def ofF (d : Db) : Gr × Int :=
 if (!decide (Dv d = 0)) = true then (zG,Dv d)
 else match N8 (Hq (Bf d) []) d.vars zG with
  | none => (zG,11)
  | some g => match Ge d.frames g with
   | none => (zG,150)
   | some g => if (!decide (Gk g = 0)) = true then (zG,4) else (g,0)
def eRg (r : Rl) : List AV := [sV r.label,sV r.sort,.sv (r.parts.flatMap ePt) 3 r.parts.length (if r.var = true then some 1 else none),.bool r.var]
theorem Ati {J τ : Sto} (r : Rl) : FzL J τ (eRg r) (eR r) := .cons (.same rfl) (.cons (.same rfl) (.cons (.sv (fun q h => by cases h) (.same (Br Aam _))) (.cons (.same rfl) .nil)))
theorem Ajw {f : Fr} {r : Rl} (h : H5 f = some r) : r.var = false := by
 unfold H5 at h
 split at h
 ·cases h
 ·cases h; rfl
theorem Atj {r : Rl} (h : r.var = false) : eRg r = eR r := by unfold eRg eR slV; rw [h]; rfl
theorem Afk {args : SM Nat} {hyps : List Hp} : ∀ {l : List Str} {met : SM Bool} {ps q : List Pt},axP args hyps l met ps = some q -> q.length = ps.length + l.length
 | [],_,ps,q,h => by cases h; rfl
 | s :: l,met,ps,q,h => by
  unfold axP at h
  split at h
  ·have := Afk h; rw [this,aw_]; simp; omega
  ·split at h
   ·cases h
   ·have := Afk h; rw [this,aw_]; simp; omega
theorem Ajx {f : Fr} {r : Rl} (h : H5 f = some r) : r.parts.length <= f.text.length := by
 unfold H5 at h
 split at h
 ·cases h
 ·rename_i ps hp; cases h
  have := Afk hp
  show ps.length <= _
  rw [this]; simp
theorem Ahs {pw : Str -> Bool} {k : Kn} {f : Fr} {before : List Hp} (h : E2 pw k f before = 0) : ∃ t0 tl,f.text = t0 :: tl := by
 have ht : (k.fr f.label).textF f.text = 0 := by
  unfold E2 at h
  split at h
  ·cases h
  ·split at h
   ·cases h
   ·split at h
    ·cases h
    ·split at h
     ·rename_i hc; rw [h] at hc; exact absurd hc (by decide)
     ·split at h
      ·exact h
      ·rename_i hc; simpa using hc
 cases hx : f.text with
 | nil => unfold Kn.textF at ht; rw [hx] at ht; simp at ht
 | cons a l => exact ⟨a,l,rfl⟩
theorem Ajy {pw : Str -> Bool} {d : Db} (h : E3 pw d = 0) {f : Fr} (hf : f ∈ d.frames) : ∃ t0 tl,f.text = t0 :: tl := by
 obtain ⟨k',be',_,h2⟩ := Su (Ahl h) f hf;exact Ahs h2
theorem Am8 {d : Db} (h : Dv d = 0) : E3 Ef d = 0 /\ (∀ x ∈ Bf d,∃ a b,x.text = [a,b]) /\ ∀ v ∈ d.vars,∃ x ∈ Bf d,txv x = v := by
 unfold Dv at h
 split at h
 ·rename_i hc
  split at h
  ·rename_i ho
   obtain ⟨l,hl⟩ := bp_.1 ho
   have e : Bf d = l := by unfold Bf; rw [if_pos hc,hl]; rfl
   rw [e];exact ⟨hc,Ahn hc hl⟩
  ·cases h
 ·rename_i hc; exact absurd h hc
theorem Aht {vars : List Str} {s : Ord} : ∀ {n : Nat} {done : SM Bool} {out l : List Hp},Vx vars s n done out = some l -> l.length = out.length + n
 | 0,_,_,_,e => by cases e; rfl
 | n + 1,done,out,l,e => by
  unfold Vx at e
  split at e
  ·cases e
  ·split at e
   ·cases e
   ·rw [Aht e,aw_]; simp; omega
theorem Ahu (d : Db) : (Bf d).length <= d.vars.length := by
 unfold Bf
 split
 ·cases ho : Ee d with
  | none => simp
  | some l =>
   show l.length <= _
   unfold Ee at ho
   split at ho
   ·split at ho
    ·cases ho; simp
    ·cases ho
   ·split at ho
    ·cases ho
    ·rw [Aht ho]; simp
 ·simp
def H6 : List AV := [.nil (.slice none 0 0),.nil (.slice none 0 0)]
structure GSt (J τ : Sto) (hy : SM Hp) (g : Gr) (vS vR : AV) : Prop where
 n : nx J + 3 <= nx τ
 g0 : ∀ b,b < nx J -> τ.get b = J.get b
 t : τ.get (nx J) = some (.cells H6)
 m : A8 hV τ (nx J + 1) hy
 c : τ.get (nx J + 2) = some (.cells [vS,vR])
 s : Own τ (nx J + 3) e1 1 g.sorts vS
 r : Own τ (nx J + 3) eRg 4 g.rules vR
 d : ∀ a b x y,vS = .sr a 0 1 x none -> vR = .sr b 0 4 y none -> a ≠ b
theorem Afl {J : Sto} {N sz a : Nat} {α : Type} {enc : α -> List AV} {l : List α} {v : AV} (h : Own J N enc sz l v) {n : Nat} (e : v = .sr a 0 sz n none) : N <= a /\ a < nx J := by
 rcases h with ⟨_,rfl | rfl⟩ | ⟨b,tl,h1,h2,h3,_⟩
 ·cases e
 ·cases e
 ·rw [h3] at e; cases e; exact ⟨h1,h2⟩
theorem GSt.addS {J τ : Sto} {hy : SM Hp} {g : Gr} {vS vR : AV} (h : GSt J τ hy g vS vR) (t0 : Str) (bo : (g.sorts.length + 1) * (16 + 1) <= sizeLim) :
  ∃ J1 v1,Cf τ 1 16 vS 1 (e1 t0) = some (v1,J1) /\ v1.cellsN 1 = some [v1] /\ J1.get (nx J + 2) = some (.cells [vS,vR]) /\ GSt J (J1.set (nx J + 2) (.cells [v1,vR])) hy ⟨g.sorts ++ [t0],g.rules⟩ v1 vR := by
 have hn := h.n
 obtain ⟨J1,h1,h2,h3,h4,h5⟩ := Own.app1 (sz := 1) (enc := e1) (by' := 16) (fun _ => rfl) (show nx J + 3 <= nx τ from hn) h.s t0 bo
 have lo : ∀ b,b < nx J + 3 -> J1.get b = τ.get b := fun b hb => h5 b Om fun c hc e => by have := (Afl h.s hc).1; omega
 refine ⟨J1,_,h1,rfl,(lo _ Om).trans h.c,⟨by rw [Ae,h3]; omega,fun b hb => by rw [a_,if_neg Om,lo b Om]; exact h.g0 b hb,by rw [a_,if_neg Om,lo _ Om]; exact h.t,(h.m.of_get (lo _ Om)).set Om,by rw [a_,if_pos rfl],h4.mono (by rw [Ae]; exact nl) fun a tl _ k1 _ _ => by rw [a_,if_neg Om],?_,fun a b x y e1' e2 => ?_⟩⟩
 ·refine h.r.mono (by rw [Ae,h3]; omega) fun a tl hv k1 k2 _ => ?_
  rw [a_,if_neg Om];exact h5 a k2 fun c hc e => h.d c a _ _ hc hv e.symm
 ·cases e1';have := (Afl h.r e2).2;omega
theorem GSt.addR {J τ : Sto} {hy : SM Hp} {g : Gr} {vS vR : AV} (h : GSt J τ hy g vS vR) (r : Rl) (bo : (g.rules.length + 1) * (64 + 1) <= sizeLim) :
  ∃ J1 v1,Cf τ 4 64 vR 1 (eRg r) = some (v1,J1) /\ v1.cellsN 1 = some [v1] /\ J1.get (nx J + 2) = some (.cells [vS,vR]) /\ GSt J (J1.set (nx J + 2) (.cells [vS,v1])) hy ⟨g.sorts,g.rules ++ [r]⟩ vS v1 := by
 have hn := h.n
 obtain ⟨J1,h1,h2,h3,h4,h5⟩ := Own.app1 (sz := 4) (enc := eRg) (by' := 64) (fun _ => rfl) (show nx J + 3 <= nx τ from hn) h.r r bo
 have lo : ∀ b,b < nx J + 3 -> J1.get b = τ.get b := fun b hb => h5 b Om fun c hc e => by have := (Afl h.r hc).1; omega
 refine ⟨J1,_,h1,rfl,(lo _ Om).trans h.c,⟨by rw [Ae,h3]; omega,fun b hb => by rw [a_,if_neg Om,lo b Om]; exact h.g0 b hb,by rw [a_,if_neg Om,lo _ Om]; exact h.t,(h.m.of_get (lo _ Om)).set Om,by rw [a_,if_pos rfl],?_,h4.mono (by rw [Ae]; exact nl) fun a tl _ k1 _ _ => by rw [a_,if_neg Om],fun a b x y e1' e2 => ?_⟩⟩
 ·refine h.s.mono (by rw [Ae,h3]; omega) fun a tl hv k1 k2 _ => ?_
  rw [a_,if_neg Om];exact h5 a k2 fun c hc e => h.d a c _ _ hv hc e
 ·cases e2;have := (Afl h.s e1').2;omega
theorem Ab0 {pw : Str -> Bool} {d : Db} (h : E3 pw d = 0) {f : Fr} (hf : f ∈ d.frames) (ha : (f.hyps.any fun h => !h.floating) = false) : ∀ x ∈ f.hyps,∃ a b,x.text = [a,b] := fun x hx => by
 refine ((Uo h hf).1 x (by simp [Fr.all,hx]) ?_).1
 have := dq_.1 ha x hx
 simpa using this
theorem Atk (o : Option Rl) : axV o = .tup [.agg (eR (o.getD ⟨[],[],[],false⟩)),.bool o.isSome] := by cases o <;> rfl
theorem Apt {N : Nat} (g : Gr) (i : Int) : AV.und N (.tup [grV g,iV i]) = true := by
 show ((AV.und N (Aj g.sorts) && (AV.und N (slV eR 4 g.rules) && true)) && (true && true)) = true
 rw [show AV.und N (Aj g.sorts) = true from Cw Lf _,Cw Lg]; rfl
theorem Apu {J : Sto} (hw : WFS J) : WFS (J.new (.cells H6)) := hw.new rfl trivial
theorem f62g (f : Fr) (J : Sto) (t0 : Str) (hB : FrB f) (htx : ∃ tl,f.text = t0 :: tl) (hh : ∀ h ∈ f.hyps,∃ a b,h.text = [a,b]) : Cv 62 [.agg (eF f)] J (.tup [.agg (eR ((H5 f).getD ⟨[],[],[],false⟩)),.bool (H5 f).isSome]) := by
 rw [← Atk]; exact f62 f J t0 hB htx hh
theorem f45 (d : Db) (J : Sto) (hB : DbB d) (hvf : d.vars.length + d.frames.length < 1000000) : Cv 45 [dbV d] J (.tup [grV (ofF d).1,iV (ofF d).2]) := by
 refine Ak Tryz.func45 rfl rfl fun hw hu0 => ?_
 refine G3 ?_;refine O1 (B6 ziC) ?_;refine G5 ?_;refine Af rfl rfl rfl rfl (f60 d _ hB) ?_;refine G12 ?_;refine Ab rfl ?_ ?_ <;> intro h1
 ·refine G4 ?_
  refine O1 (A6 (ad := nx J) (off := 0) (vs := H6) (vs' := H6) (cs := H6) ldC rfl rfl rfl (by simp only [Sto.cells]; rw [ab_,if_pos rfl]; rfl) rfl) ?_
  refine G2 ?_;have hF : ofF d = (zG,Dv d) := if_pos h1;refine G ?_
  exact ⟨[.agg H6,iV (Dv d)],Cy (ldC (t := 124)) rfl (by simp only [Sto.cells]; rw [a_,if_pos rfl]) rfl (En rfl rfl),.tup [grV zG,iV (Dv d)],J,as_ hw ⟨by rw [Ae,Ac]; omega,fun b hb => by rw [a_,if_neg Om,ab_,if_neg Om]⟩,nl,.tup (.cons (.agg (.cons Dd (.cons Dd .nil))) (.cons (.same rfl) .nil)),by rw [hF],rfl⟩
 ·have he0 : Dv d = 0 := by simpa using h1
  obtain ⟨hok,bt,jv⟩ := Am8 he0;have hfl := Ahu d;have hbv := hB.v;have hbn := hB.n;refine G3 ?_;refine O1 (Bq (n := nx J + 1) Po (nx1 rfl)) ?_;refine G10 ?_
  refine Bh (Bf d).length (fun i0 => [(1,.pv [Aj d.consts,Aj d.vars,slV eF 8 d.frames]),(2,.pr (nx J) 0),(6,.mp (nx J + 1)),(28,slV eH 3 (Bf d)),(29,iV (.ofNat (Bf d).length)),(30,iV (.ofNat i0))]) (fun i0 J0 => nx J0 = nx J + 2 /\ J0.get (nx J) = some (.cells H6) /\ (∀ b,b < nx J -> J0.get b = J.get b) /\ ∃ m,A8 hV J0 (nx J + 1) m /\ (Hq (Bf d) []) = Hq ((Bf d).drop i0) m) SL ⟨by rw [Ac,Ac],by rw [ab_,if_neg (by rw [Ac]; omega),ab_,if_pos rfl]; rfl,fun b hb => by rw [ab_,if_neg (by rw [Ac]; omega),ab_,if_neg Om],[],⟨0,by rw [ab_,if_pos (by rw [Ac])]; rfl⟩,rfl⟩ ?_
  rintro i0 J0 hi0 ⟨hn0,h20,hg0,m,hm0,hf0⟩;refine G5 ?_;refine Ab rfl ?_ ?_ <;> intro h2
  ·have bc : i0 < (Bf d).length := by simpa using h2
   obtain ⟨a0,ha0⟩ := A3 bc;have hd0 := Av ha0;obtain ⟨u0,u1,hux⟩ := bt a0 (af_ ha0);obtain ⟨vm,hvm⟩ := id hm0;refine G9 ?_;refine XS (l := []) trivial ?_;refine G3 ?_
   refine DF (Bn elC (fun _ => rfl) rfl rfl (by rw [hux]; rfl : a0.text[1]? = some u1) (i := 1)) ?_
   refine G2 ?_
   refine DT (Ec (v := a0) st9 Po rfl hvm rfl rfl (fun te k1 k2 => by first | exact Ex k1 k2 | exact Ey k1 k2 | exact Fc k1 k2 | exact Fe k1 k2 | exact E1 k1 k2 rfl)) ?_
   refine G5 ?_
   refine ⟨bc,SL,by rw [Ae]; exact hn0,by rw [a_,if_neg Om]; exact h20,fun b hb => by rw [a_,if_neg Om]; exact hg0 b hb,m.put u1 a0,dj_,by rw [hf0,hd0]; show Hq _ (m.put (txv a0) a0) = _; rw [X9 hux]⟩
  ·have bm : (Bf d).length <= i0 := by simpa using h2
   have bg : (Hq (Bf d) []) = m := by rw [hf0,ah_ bm]; rfl
   rw [← bg] at hm0;refine G4 ?_
   refine O1 (Ho (n := nx J + 2) ziC hn0) (O1 (A6 (ad := nx J + 2) (off := 0) (vs := H6) (vs' := H6) (cs := H6) ldC rfl rfl rfl (by simp only [Sto.cells]; rw [ab_,if_pos hn0.symm]; rfl) rfl) ?_)
   refine G9 ?_
   have fm : ∃ g vS vR,GSt J ((J0.new (.cells H6)).set (nx J + 2) (.cells H6)) (Hq (Bf d) []) g vS vR /\ g.sorts.length <= 0 /\ g.rules.length <= 0 /\ (∀ r ∈ g.rules,r.parts.length < 1000000) /\ N8 (Hq (Bf d) []) d.vars zG = N8 (Hq (Bf d) []) (d.vars.drop 0) g := by
    have hlo : ∀ b,b < nx J + 2 -> ((J0.new (.cells H6)).set (nx J + 2) (.cells H6)).get b = J0.get b := fun b hb => by rw [a_,if_neg Om,ab_,if_neg Om]
    exact ⟨zG,.nil (.slice none 0 0),.nil (.slice none 0 0),⟨by rw [Ae,Ac,hn0]; exact nl,fun b hb => (hlo b Om).trans (hg0 b hb),(hlo _ Om).trans h20,hm0.of_get (hlo _ Om),by rw [a_,if_pos rfl]; rfl,.nil,.nil,fun a b x y e1 _ => by cases e1⟩,nl,nl,fun r hr => (by cases hr),rfl⟩
   refine G ?_;refine Bh d.vars.length (fun i2 => [(1,.pv [Aj d.consts,Aj d.vars,slV eF 8 d.frames]),(2,.pr (nx J) 0),(6,.mp (nx J + 1)),(9,.pr (nx J + 2) 0),(43,Aj d.vars),(44,iV (.ofNat d.vars.length)),(45,iV (.ofNat i2))]) (fun i2 J2 => ∃ g vS vR,GSt J J2 (Hq (Bf d) []) g vS vR /\ g.sorts.length <= i2 /\ g.rules.length <= i2 /\ (∀ r ∈ g.rules,r.parts.length < 1000000) /\ N8 (Hq (Bf d) []) d.vars zG = N8 (Hq (Bf d) []) (d.vars.drop i2) g) SL fm ?_
   rintro i2 J2 hi2 ⟨g,vS,vR,hG2,hsl,hrl,hpl,hf2⟩;refine G5 ?_;refine Ab rfl ?_ ?_ <;> intro h3
   ·have bz : i2 < d.vars.length := by simpa using h3
    obtain ⟨a2,ha2⟩ := A3 bz;have hd2 := Av ha2;obtain ⟨x2,hx2,hxv⟩ := jv a2 (af_ ha2);obtain ⟨hh,hhm,hhg,hhv⟩ := Adk (m := []) ⟨x2,hx2,hxv⟩;obtain ⟨u0,u1,hux⟩ := bt hh hhm
    have hu : hh.text.headD [] = u0 := by rw [hux]; rfl
    iterate 13 refine G ?_
    refine O1 (F4 st9 Po rfl hG2.m rfl hhg) ?_;refine G7 ?_
    refine O1 (Bn elC (fun _ => rfl) rfl rfl (by rw [hux]; rfl : hh.text[0]? = some u0) (i := 0)) ?_
    refine G ?_;refine O1 (Sb (q := [124,45]) okC rfl rfl) ?_;refine G ?_;refine Ab rfl ?_ ?_ <;> intro h4
    ·refine G3 ?_
     refine O1 (A6 (ad := nx J) (off := 0) (vs := H6) (vs' := H6) (cs := H6) ldC rfl rfl rfl (by simp only [Sto.cells,hG2.t]) rfl) ?_
     refine G2 ?_
     have hv0 : N8 (Hq (Bf d) []) d.vars zG = none := by rw [hf2,hd2,N8,hhg]; simp only [hu]; exact if_pos h4
     have hF : ofF d = (zG,11) := (if_neg (fun hc => Bool.noConfusion (h1.symm.trans hc))).trans (by rw [hv0])
     refine G ?_
     exact ⟨[.agg H6,iV (11)],Cy (ldC (t := 124)) rfl (by simp only [Sto.cells]; rw [a_,if_pos rfl]) rfl (En rfl rfl),.tup [grV zG,iV (11)],J,as_ hw ⟨by rw [Ae]; have := hG2.n; omega,fun b hb => by rw [a_,if_neg Om]; exact hG2.g0 b hb⟩,nl,.tup (.cons (.agg (.cons Dd (.cons Dd .nil))) (.cons (.same rfl) .nil)),by rw [hF],rfl⟩
    ·refine G3 ?_;refine XS (l := [(46,[vS,sV u0],J2,.bool (g.sorts.any fun x => decide (u0 = x)),J2)]) ⟨Aps g.sorts u0 vS J2 hG2.s Om,trivial⟩ ?_
     refine G ?_
     refine DF (Ah (u := .pr (nx J + 2) 0) (cs := [vS,vR]) ldC rfl (by simp only [Cn,Sto.cells,hG2.c]; rfl) rfl) ?_
     refine G2 ?_
     refine DF (Bn elC (fun _ => rfl) rfl rfl (by rw [hux]; rfl : hh.text[0]? = some u0) (i := 0)) ?_
     refine G4 ?_;refine Ab rfl ?_ ?_ <;> intro h5
     ·obtain ⟨J3,v1,hap,hc1,hcS,hG3⟩ := hG2.addS u0 (by simp [sizeLim]; omega)
      obtain ⟨J5,v2,g9,hc2,hcR,hG2''⟩ := hG3.addR (⟨hh.label,u0,[⟨a2,[],0⟩],true⟩ : Rl) (by simp [sizeLim]; omega)
      have ib : ∀ r ∈ g.rules ++ [(⟨hh.label,u0,[⟨a2,[],0⟩],true⟩ : Rl)],r.parts.length < 1000000 := fun r hr => by
       rcases bq_.1 hr with hr | hr
       ·exact hpl r hr
       ·rw [an_.1 hr]; show 1 < 1000000; omega
      refine XS (l := []) trivial ?_;refine G ?_
      refine DF (Ah (u := .pr (nx J + 2) 0) (cs := [vS,vR]) ldC rfl (by simp only [Cn,Sto.cells,hG2.c]; rfl) rfl) ?_
      refine G2 ?_
      refine DF (Bn elC (fun _ => rfl) rfl rfl (by rw [hux]; rfl : hh.text[0]? = some u0) (i := 0)) ?_
      refine G ?_;refine DF (Ay elC byW rfl rfl rfl) (DT (A1 elC rfl slC rfl rfl rfl (new := e1 u0) rfl hap) ?_);refine G ?_
      refine DT (A6 (ad := nx J + 2) (off := 0) (vs := [vS,vR]) (vs' := [v1,vR]) (cs := [v1]) ldC rfl rfl hc1 (by simp only [Sto.cells,hcS]) rfl) ?_
      refine G ?_;refine XS (l := []) trivial ?_;refine G ?_
      refine DF (Ah (u := .pr (nx J + 2) 1) (cs := [vR]) ldC rfl (by simp only [Cn,Sto.cells,hG3.c]; rfl) rfl) ?_
      refine G4 ?_
      refine DF (Bn elC (fun _ => rfl) rfl rfl (by rw [hux]; rfl : hh.text[0]? = some u0) (i := 0)) ?_
      refine G3 ?_;refine DF (Ay elC byW rfl rfl rfl) ?_;refine G ?_;refine DF (Ay elC byW rfl rfl rfl) (DT (A1 elC rfl slC rfl rfl rfl (new := eRg (⟨hh.label,u0,[⟨a2,[],0⟩],true⟩ : Rl)) rfl g9) ?_);refine G ?_
      refine DT (A6 (ad := nx J + 2) (off := 1) (vs := [v1,vR]) (vs' := [v1,v2]) (cs := [v2]) ldC rfl rfl hc2 (by simp only [Sto.cells,hcR]) rfl) ?_
      refine G5 ?_
      refine ⟨bz,SL,⟨g.sorts ++ [u0],g.rules ++ [(⟨hh.label,u0,[⟨a2,[],0⟩],true⟩ : Rl)]⟩,v1,v2,hG2'',by simp; omega,by simp; omega,ib,by rw [hf2,hd2,N8,hhg]; simp only [hu]; rw [if_neg (by rw [h4]; simp)]; unfold varG Afj; rw [hu,if_pos h5]⟩
     ·obtain ⟨J5,v2,g9,hc2,hcR,hG2''⟩ := hG2.addR (⟨hh.label,u0,[⟨a2,[],0⟩],true⟩ : Rl) (by simp [sizeLim]; omega)
      have ib : ∀ r ∈ g.rules ++ [(⟨hh.label,u0,[⟨a2,[],0⟩],true⟩ : Rl)],r.parts.length < 1000000 := fun r hr => by
       rcases bq_.1 hr with hr | hr
       ·exact hpl r hr
       ·rw [an_.1 hr]; show 1 < 1000000; omega
      refine G ?_;refine XS (l := []) trivial ?_;refine G ?_
      refine DF (Ah (u := .pr (nx J + 2) 1) (cs := [vR]) ldC rfl (by simp only [Cn,Sto.cells,hG2.c]; rfl) rfl) ?_
      refine G4 ?_
      refine DF (Bn elC (fun _ => rfl) rfl rfl (by rw [hux]; rfl : hh.text[0]? = some u0) (i := 0)) ?_
      refine G3 ?_;refine DF (Ay elC byW rfl rfl rfl) ?_;refine G ?_;refine DF (Ay elC byW rfl rfl rfl) (DT (A1 elC rfl slC rfl rfl rfl (new := eRg (⟨hh.label,u0,[⟨a2,[],0⟩],true⟩ : Rl)) rfl g9) ?_);refine G ?_
      refine DT (A6 (ad := nx J + 2) (off := 1) (vs := [vS,vR]) (vs' := [vS,v2]) (cs := [v2]) ldC rfl rfl hc2 (by simp only [Sto.cells,hcR]) rfl) ?_
      refine G5 ?_
      refine ⟨bz,SL,⟨g.sorts,g.rules ++ [(⟨hh.label,u0,[⟨a2,[],0⟩],true⟩ : Rl)]⟩,vS,v2,hG2'',by simp; omega,by simp; omega,ib,by rw [hf2,hd2,N8,hhg]; simp only [hu]; rw [if_neg (by rw [h4]; simp)]; unfold varG Afj; rw [hu,if_neg (by rw [h5]; simp)]⟩
   ·have b9 : d.vars.length <= i2 := by simpa using h3
    have hv2 : N8 (Hq (Bf d) []) d.vars zG = some g := by rw [hf2,ah_ b9]; rfl
    obtain ⟨gv,hgv⟩ : ∃ x,x = g := ⟨_,rfl⟩;rw [← hgv] at hv2
    have js : ∃ g4 vS vR,GSt J J2 (Hq (Bf d) []) g4 vS vR /\ g4.sorts.length <= d.vars.length /\ g4.rules.length <= d.vars.length + 0 /\ (∀ r ∈ g4.rules,r.parts.length < 1000000) /\ Ge d.frames gv = Ge (d.frames.drop 0) g4 := ⟨g,vS,vR,hG2,by omega,by omega,hpl,by rw [hgv]; rfl⟩
    iterate 14 refine G ?_
    refine Bh d.frames.length (fun i4 => [(2,.pr (nx J) 0),(9,.pr (nx J + 2) 0),(13,.fn (.func 61) [] []),(92,slV eF 8 d.frames),(93,iV (.ofNat d.frames.length)),(94,iV (.ofNat i4))]) (fun i4 J4 => ∃ g vS vR,GSt J J4 (Hq (Bf d) []) g vS vR /\ g.sorts.length <= d.vars.length /\ g.rules.length <= d.vars.length + i4 /\ (∀ r ∈ g.rules,r.parts.length < 1000000) /\ Ge d.frames gv = Ge (d.frames.drop i4) g) SL js ?_
    rintro i4 J4 hi4 ⟨g,vS,vR,hG4,hsl,hrl,hpl,hf4⟩;refine G5 ?_;refine Ab rfl ?_ ?_ <;> intro h4
    ·have dy : i4 < d.frames.length := by simpa using h4
     obtain ⟨a4,ha4⟩ := A3 dy;have hd4 := Av ha4;have hFa := hB.f a4 (af_ ha4);obtain ⟨t0,tl,htx⟩ := Ajy hok (af_ ha4)
     have htd : a4.text.headD [] = t0 := by rw [htx]; rfl
     refine G10 ?_
     refine D3 [(115,.bool ((a4.thm || a4.hyps.any (fun h => !h.floating)) || !(g.sorts.any fun x => decide (t0 = x))))] ?_ ?_
     ·rcases al_ (a4.thm) with hg2 | hg2
      ·refine XS (l := [(18,[slV eH 3 a4.hyps,.fn (.func 61) [] []],J4,.bool (a4.hyps.any fun h => !h.floating),J4),(46,[vS,sV t0],J4,.bool (g.sorts.any fun x => decide (t0 = x)),J4)]) ⟨f18 (fun h => !h.floating) a4.hyps 61 [] J4 (by have := hFa.h; omega) (fun a _ => f61 a J4),Aps g.sorts t0 vS J4 hG4.s Om,trivial⟩ ?_
       refine G6 ?_
       refine Qr rfl rfl rfl rfl (by first|rfl|simp only [hg2]<;>rfl|simp [hg2]) rfl rfl ?_
       refine G8 ?_
       refine Qr rfl rfl rfl rfl (by first|rfl|simp only [hg2]<;>rfl|simp [hg2]) rfl rfl ?_
       refine G3 ?_;exact ⟨⟨Cb,trivial⟩,sb,rfl⟩
      ·rcases al_ ((a4.hyps.any fun h => !h.floating)) with hg8 | hg8
       ·refine XS (l := [(18,[slV eH 3 a4.hyps,.fn (.func 61) [] []],J4,.bool (a4.hyps.any fun h => !h.floating),J4),(46,[vS,sV t0],J4,.bool (g.sorts.any fun x => decide (t0 = x)),J4)]) ⟨f18 (fun h => !h.floating) a4.hyps 61 [] J4 (by have := hFa.h; omega) (fun a _ => f61 a J4),Aps g.sorts t0 vS J4 hG4.s Om,trivial⟩ ?_
        refine G6 ?_
        refine Se rfl rfl rfl rfl (by first|rfl|simp only [hg8,hg2]<;>rfl|simp [hg8,hg2]) rfl rfl (Bo rfl rfl Bx) ?_
        refine DF (Am rfl (by first|rfl|simp only [hg8,hg2]<;>rfl|simp [hg8,hg2]) rfl) ?_
        refine G7 ?_
        refine Qr rfl rfl rfl rfl (by first|rfl|simp only [hg8,hg2]<;>rfl|simp [hg8,hg2]) rfl rfl ?_
        refine G3 ?_;exact ⟨⟨Cb,trivial⟩,sb,rfl⟩
       ·refine XS (l := [(18,[slV eH 3 a4.hyps,.fn (.func 61) [] []],J4,.bool (a4.hyps.any fun h => !h.floating),J4),(46,[vS,sV t0],J4,.bool (g.sorts.any fun x => decide (t0 = x)),J4)]) ⟨f18 (fun h => !h.floating) a4.hyps 61 [] J4 (by have := hFa.h; omega) (fun a _ => f61 a J4),Aps g.sorts t0 vS J4 hG4.s Om,trivial⟩ ?_
        refine G6 ?_
        refine Se rfl rfl rfl rfl (by first|rfl|simp only [hg8,hg2]<;>rfl|simp [hg8,hg2]) rfl rfl (Bo rfl rfl Bx) ?_
        refine DF (Am rfl (by first|rfl|simp only [hg8,hg2]<;>rfl|simp [hg8,hg2]) rfl) ?_
        refine G2 ?_
        refine Wn (w := by first|rfl|simp only [hg8,hg2]<;>rfl|simp [hg8,hg2]) (Ah (u := .pr (nx J + 2) 0) (cs := [vS,vR]) ldC rfl (by simp only [Cn,Sto.cells,hG4.c]; rfl) rfl) ?_
        refine G2 ?_
        refine Wn (w := by first|rfl|simp only [hg8,hg2]<;>rfl|simp [hg8,hg2]) (Bn elC (fun _ => rfl) rfl rfl (by rw [htx]; rfl : a4.text[0]? = some t0) (i := 0)) ?_
        refine Wn (w := by first|rfl|simp only [hg8,hg2]<;>rfl|simp [hg8,hg2]) (Ah ldC rfl rfl rfl) ?_
        refine Se rfl rfl rfl rfl (by first|rfl|simp only [hg8,hg2]<;>rfl|simp [hg8,hg2]) rfl rfl (Bo rfl rfl (Cc (by decide) Bx)) ?_
        refine Wn (w := by first|rfl|simp only [hg8,hg2]<;>rfl|simp [hg8,hg2]) (M2 rfl) ?_
        refine DF (Am rfl (by first|rfl|simp only [hg8,hg2]<;>rfl|simp [hg8,hg2]) rfl) ?_
        refine Ii ?_
        exact ⟨⟨congrArg (fun b => some (AV.bool b)) (by first|rfl|simp only [hg8,hg2]<;>rfl|simp [hg8,hg2]),trivial⟩,sb,rfl⟩
     refine Ab rfl ?_ ?_ <;> intro h5
     ·replace h5 : Adl a4 g = true := by unfold Adl; rw [htd]; exact h5
      refine G5 ?_
      refine ⟨dy,SL,g,vS,vR,hG4,hsl,by omega,hpl,by rw [hf4,hd4,Ge,if_pos h5]⟩
     ·replace h5 : Adl a4 g = false := by unfold Adl; rw [htd]; exact h5
      have hfl : ∀ x ∈ a4.hyps,∃ a b,x.text = [a,b] := Ab0 hok (af_ ha4) (by unfold Adl at h5; cases hh : (a4.hyps.any fun h => !h.floating) with | false => rfl | true => rw [hh] at h5; simp at h5)
      refine G4 ?_;refine Af rfl rfl rfl rfl (f62g a4 J4 t0 hFa ⟨tl,htx⟩ hfl) ?_;refine G12 ?_;refine Ab rfl ?_ ?_ <;> intro h6
      ·have hax : H5 a4 = none := by simpa using h6
       refine G3 ?_
       refine O1 (A6 (ad := nx J) (off := 0) (vs := H6) (vs' := H6) (cs := H6) ldC rfl rfl rfl (by simp only [Sto.cells,hG4.t]) rfl) ?_
       refine G2 ?_
       have hfr : Ge d.frames gv = none := by rw [hf4,hd4,Ge,if_neg (by rw [h5]; simp),hax]
       have hF : ofF d = (zG,150) := (if_neg (fun hc => Bool.noConfusion (h1.symm.trans hc))).trans (by rw [hv2]; simp only []; rw [hfr])
       refine G ?_
       exact ⟨[.agg H6,iV (150)],Cy (ldC (t := 124)) rfl (by simp only [Sto.cells]; rw [a_,if_pos rfl]) rfl (En rfl rfl),.tup [grV zG,iV (150)],J,as_ hw ⟨by rw [Ae]; have := hG4.n; omega,fun b hb => by rw [a_,if_neg Om]; exact hG4.g0 b hb⟩,nl,.tup (.cons (.agg (.cons Dd (.cons Dd .nil))) (.cons (.same rfl) .nil)),by rw [hF],rfl⟩
      ·obtain ⟨rl,hax⟩ : ∃ rl,H5 a4 = some rl := bp_.1 (by simpa using h6)
       obtain ⟨J5,v1,hap,hc1,hcR,hG5⟩ := hG4.addR rl (by simp [sizeLim]; omega)
       have ib : ∀ r ∈ g.rules ++ [rl],r.parts.length < 1000000 := fun r hr => by
        rcases bq_.1 hr with hr | hr
        ·exact hpl r hr
        ·rw [an_.1 hr]; exact ek_ (Ajx hax) hFa.t
       refine G3 ?_
       refine O1 (Ah (u := .pr (nx J + 2) 1) (cs := [vR]) ldC rfl (by simp only [Cn,Sto.cells,hG4.c]; rfl) rfl) ?_
       refine G ?_
       refine Dz (Ay elC byW rfl rfl rfl) (Fk (len := 1)) rfl rfl (O1 (A1 elC rfl slC rfl rfl rfl (new := eRg rl) (by rw [hax,Atj (Ajw hax)]; rfl) hap) ?_)
       refine G ?_
       refine O1 (A6 (ad := nx J + 2) (off := 1) (vs := [vS,vR]) (vs' := [vS,v1]) (cs := [v1]) ldC rfl rfl hc1 (by simp only [Sto.cells,hcR]) rfl) ?_
       refine G5 ?_
       refine ⟨dy,SL,⟨g.sorts,g.rules ++ [rl]⟩,vS,v1,hG5,hsl,by simp; omega,ib,by rw [hf4,hd4,Ge,if_neg (by rw [h5]; simp),hax]⟩
    ·have fq : d.frames.length <= i4 := by simpa using h4
     have hfr : Ge d.frames gv = some g := by rw [hf4,ah_ fq]; rfl
     refine G ?_
     have hGB : GrB g := ⟨by omega,by omega,hpl⟩
     have hn4 := hG4.n
     refine Akp (J.new (.cells H6)) [(2,.pr (nx J) 0),(9,.pv [Aj g.sorts,slV eR 4 g.rules])] (ag_ (Apu hw) (by rw [Ac]; omega) fun b hb => ?_) (by rw [Ac]; omega) ⟨⟨_,rfl,.same ?_⟩,⟨_,rfl,.pr hG4.c (by rw [ab_,if_neg Om]; exact hw.none Om) (.cons (hG4.s.fz (fun _ => rfl) (fun a ha => by rw [ab_,if_neg Om]; exact hw.none Om) (Br Lf _)) (.cons (hG4.r.fzE (fun _ => rfl) (fun a ha => by rw [ab_,if_neg Om]; exact hw.none Om) Ati) .nil))⟩,trivial⟩ ?_
     ·rw [Ac] at hb;rw [ab_]
      split
      ·rename_i e; rw [e]; exact hG4.t
      ·exact hG4.g0 b Om
     ·unfold AV.und; rw [Ac]; simp
     refine G4 ?_;refine Af rfl rfl rfl rfl (f63 g _ hGB) ?_;refine G2 ?_;refine Ab rfl ?_ ?_ <;> intro h5
     ·refine G3 ?_
      refine O1 (A6 (ad := nx J) (off := 0) (vs := H6) (vs' := H6) (cs := H6) ldC rfl rfl rfl (by simp only [Sto.cells]; rw [ab_,if_pos rfl]) rfl) ?_
      refine G2 ?_
      have hF : ofF d = (zG,4) := (if_neg (fun hc => Bool.noConfusion (h1.symm.trans hc))).trans (by rw [hv2]; simp only []; rw [hfr]; exact if_pos h5)
      refine G ?_
      exact ⟨[.agg H6,iV (4)],Cy (ldC (t := 124)) rfl (by simp only [Sto.cells]; rw [a_,if_pos rfl]) rfl (En rfl rfl),.tup [grV zG,iV (4)],J,as_ hw ⟨by rw [Ae,Ac]; omega,fun b hb => by rw [a_,if_neg Om,ab_,if_neg Om]⟩,nl,.tup (.cons (.agg (.cons Dd (.cons Dd .nil))) (.cons (.same rfl) .nil)),by rw [hF],rfl⟩
     ·refine G4 ?_
      refine O1 (A6 (ad := nx J) (off := 0) (vs := H6) (vs' := [Aj g.sorts,slV eR 4 g.rules]) (cs := [Aj g.sorts,slV eR 4 g.rules]) ldC rfl rfl rfl (by simp only [Sto.cells]; rw [ab_,if_pos rfl]) rfl) ?_
      refine G2 ?_
      have hF : ofF d = (g,0) := (if_neg (fun hc => Bool.noConfusion (h1.symm.trans hc))).trans (by rw [hv2]; simp only []; rw [hfr]; exact if_neg (by rw [h5]; simp))
      refine G ?_
      exact ⟨[grV g,iV 0],Cy (ldC (t := 124)) rfl (by simp only [Sto.cells]; rw [a_,if_pos rfl]) rfl (En rfl rfl),.tup [grV g,iV 0],J,as_ hw ⟨by rw [Ae,Ac]; omega,fun b hb => by rw [a_,if_neg Om,ab_,if_neg Om]⟩,nl,.same (Apt _ _),by rw [hF],rfl⟩
mutual
def Ch : As -> Nat
 | .node _ ks => 1 + Dw ks
def Dw : List As -> Nat
 | [] => 0
 | t :: r => Ch t + Dw r
end
mutual
def dpT : As -> Nat -> Nat
 | .node _ ks,lv => dpL ks (lv + 1) lv
def dpL : List As -> Nat -> Nat -> Nat
 | [],_,d => d
 | t :: r,lv,d => dpL r lv (max d (dpT t lv))
end
theorem Apv (t : As) : 1 <= Ch t := by cases t; unfold Ch; omega
theorem P0 : ∀ (l m : List As),Dw (l ++ m) = Dw l + Dw m
 | [],m => by simp [Dw]
 | t :: r,m => by simp only [av_,Dw,P0 r m]; omega
theorem Ali : ∀ (l m : List As) (lv d : Nat),dpL (l ++ m) lv d = dpL m lv (dpL l lv d)
 | [],m,lv,d => by simp [dpL]
 | t :: r,m,lv,d => by simp only [av_,dpL,Ali r m]
theorem Apw {α : Type} {l : List α} {i : Nat} {a : α} (h : l[i]? = some a) : l.take (i + 1) = l.take i ++ [a] := by
 rw [List.take_add_one,h]; rfl
theorem Adm {l : List As} {i : Nat} {a : As} (h : l[i]? = some a) : Dw (l.take i) + Ch a <= Dw l := by
 have e : Dw l = Dw (l.take (i + 1)) + Dw (l.drop (i + 1)) := by rw [← P0,bx_]
 rw [e,Apw h,P0]; simp only [Dw]; omega
theorem P2 : ∀ {l : List As} {a : As},a ∈ l -> Ch a <= Dw l
 | x :: r,a,h => by
  unfold Dw
  rcases ai_.1 h with rfl | h
  ·omega
  ·have := P2 h; omega
theorem Mh : ∀ l : List As,l.length <= Dw l
 | [] => nl
 | t :: r => by have := Mh r; have := Apv t; simp only [ap_,Dw]; omega
theorem Ng (l : Str) (ks : List As) : Bp (.node l ks) = .agg [sV l,slV eT 2 ks] := by rw [Bp,Jr]
mutual
theorem Alj : ∀ (t : As) (n : Int),0 <= Ls t n -> Int.ofNat (Ch t) = n - Ls t n
 | .node _ ks,n,h => by
  unfold Ls at h ⊢;unfold Ch;have := Ahv ks (n - 1) h;simp only [aj_] at *; omega
theorem Ahv : ∀ (l : List As) (n : Int),0 <= M7 l n -> Int.ofNat (Dw l) = n - M7 l n
 | [],n,h => by unfold M7 Dw; simp
 | t :: r,n,h => by
  unfold M7 at h ⊢;unfold Dw
  split at h
  ·rename_i h0
   rw [if_pos h0];have h2 := Ahv r (Ls t n) h
   have h3 : 0 <= Ls t n := by
    by_cases hh : 0 <= Ls t n
    ·exact hh
    ·rw [Ag4 Om] at h; omega
   have h1 := Alj t n h3;simp only [aj_] at *; omega
  ·omega
end
theorem Atl {t : As} {n : Nat} (h : fewB t (Int.ofNat n) = true) : Ch t <= n := by
 have h1 : 0 <= Ls t (Int.ofNat n) := by simpa [fewB] using h
 have h2 := Alj t _ h1;simp only [aj_] at *; omega
def Asm (s : Str) (ks : List As) : AV := cond ks.isEmpty (.ifc 193 (sV s)) (.ifc 195 (.agg [sV s,slV eT 2 ks]))
theorem f85 (s : Str) (ks : List As) (J : Sto) (hb : ks.length < 1000000) : Cv 85 [Bp (.node s ks)] J (Asm s ks) := by
 rw [Ng];refine Ak Tryz.func85 rfl rfl fun hw hu0 => ?_
 iterate 13 refine G ?_
 refine Ab rfl ?_ ?_ <;> intro h1
 ·have e : ks = [] := ee_.1 (by simpa using h1)
  refine G4 ?_;refine O1 (Apo Asl rfl) ?_;refine G3 ?_;refine A2 hw rfl ?_;subst e; rfl
 ·have e : ks ≠ [] := fun e => by subst e; simp at h1
  refine G8 ?_;refine O1 (Apo App rfl) ?_;refine G3 ?_
  refine ⟨_,rfl,_,_,ag_ hw nl (fun _ _ => rfl),nl,.same (by show (true && ((AV.und (nx J) (slV eT 2 ks)) && true)) = true; rw [Cw Qt]; rfl),?_,rfl⟩
  unfold Asm; rw [show ks.isEmpty = false by cases ks with | nil => exact absurd rfl e | cons => rfl]; rfl
theorem f69a (s : Str) (J : Sto) : Cv 69 [Bp (.node s [])] J (slV eT 2 []) := by
 refine Ak Tryz.func69 rfl rfl fun hw hu0 => ?_
 refine G9 ?_
 refine Af rfl rfl rfl rfl (f85 s [] _ (by decide)) ?_
 refine G4 ?_;refine O1 (Am7 App (t' := 193) (v := sV s) rfl rfl) ?_;refine G3 ?_;refine Ab rfl ?_ ?_ <;> intro h1
 ·exact absurd h1 (by simp)
 ·skip
  refine G2 ?_;refine O1 (Ahq Asl rfl) ?_;refine G3 ?_;refine Ab rfl ?_ ?_ <;> intro h2
  ·skip
   refine G8 ?_;exact ⟨_,rfl,_,_,ag_ hw nl (fun _ _ => rfl),nl,Dd,rfl,rfl⟩
  ·exact absurd h2 (by simp)
theorem f69b (s : Str) (k : As) (ks : List As) (J : Sto) (hb : (k :: ks).length < 1000000) : Cv 69 [Bp (.node s (k :: ks))] J (slV eT 2 (k :: ks)) := by
 refine Ak Tryz.func69 rfl rfl fun hw hu0 => ?_
 refine G9 ?_;refine Af rfl rfl rfl rfl (f85 s (k :: ks) _ hb) ?_;refine G4 ?_;refine O1 (Ahq App rfl) ?_;refine G3 ?_;refine Ab rfl ?_ ?_ <;> intro h1
 ·skip
  refine G11 ?_;exact ⟨_,rfl,_,_,ag_ hw nl (fun _ _ => rfl),nl,.same (show AV.und (nx J) (slV eT 2 (k :: ks)) = true from Cw Qt _),rfl,rfl⟩
 ·exact absurd h1 (by simp)
theorem f69 (s : Str) (ks : List As) (J : Sto) (hb : ks.length < 1000000) : Cv 69 [Bp (.node s ks)] J (slV eT 2 ks) := by
 cases ks with
 | nil => exact f69a s J
 | cons k ks => exact f69b s k ks J hb
mutual
def hT : As -> Nat
 | .node _ ks => 1 + hL ks
def hL : List As -> Nat
 | [] => 0
 | t :: r => max (hT t) (hL r)
end
theorem Apx : ∀ (l m : List As),hL (l ++ m) = max (hL l) (hL m)
 | [],m => by simp [hL]
 | t :: r,m => by simp only [av_,hL,Apx r m]; omega
mutual
theorem Asn : ∀ t : As,hT t <= Ch t
 | .node _ ks => by unfold hT Ch; have := Apy ks; omega
theorem Apy : ∀ l : List As,hL l <= Dw l
 | [] => nl
 | t :: r => by unfold hL Dw; have := Asn t; have := Apy r; omega
end
mutual
theorem Aso : ∀ (t : As) (lv : Nat),dpT t lv + 1 = lv + hT t
 | .node _ ks,lv => by unfold dpT hT; have := Asp ks (lv + 1) lv nl; omega
theorem Asp : ∀ (l : List As) (lv d : Nat),lv <= d + 1 -> dpL l lv d + 1 = max (d + 1) (lv + hL l)
 | [],lv,d,h => by unfold dpL hL; omega
 | t :: r,lv,d,h => by
  unfold dpL hL;have h1 := Aso t lv;rw [Asp r lv (max d (dpT t lv)) Om];omega
end
theorem f113n (s : Str) (ks : List As) (J : Sto) (hb : Ch (.node s ks) <= 100000) (ih : ∀ k ∈ ks,Cv 113 [Bp k] J (.tup [iV (.ofNat (Ch k)),iV (.ofNat (hT k))])) : Cv 113 [Bp (.node s ks)] J (.tup [iV (.ofNat (Ch (.node s ks))),iV (.ofNat (hT (.node s ks)))]) := by
 have hlk := Mh ks
 have hck : 1 + Dw ks <= 100000 := by unfold Ch at hb; exact hb
 refine Ak Tryz.func113 rfl rfl fun hw hu0 => ?_
 refine G10 ?_;refine Af rfl rfl rfl rfl (f69 s ks _ Om) ?_;refine G4 ?_;refine Bh ks.length (fun i0 => [(2,iV (.ofNat (Dw (ks.take i0)))),(3,iV (.ofNat (hL (ks.take i0)))),(9,slV eT 2 ks),(10,iV (.ofNat ks.length)),(11,iV (.ofNat i0))]) (fun i0 J0 => J0 = J) SL rfl ?_
 rintro i0 J0 hi0 rfl;refine G5 ?_;refine Ab rfl ?_ ?_ <;> intro h1
 ·have bc : i0 < ks.length := by simpa using h1
  obtain ⟨a0,ha0⟩ := A3 bc;have hd0 := Av ha0;have hct := Adm ha0
  have e4 : Int.ofNat (Dw (ks.take i0) + Ch a0) = Int.ofNat (Dw (ks.take (i0 + 1))) := by rw [Bb ha0,P0]; simp only [Dw,aj_]; omega
  have e5 : max (Int.ofNat (hL (ks.take i0))) (Int.ofNat (hT a0)) = Int.ofNat (hL (ks.take (i0 + 1))) := by rw [Bb ha0,Apx]; simp only [hL,aj_]; omega
  refine G5 ?_;refine O1 (Bn elC B2 rfl rfl ha0) (O1 (Ah ldC rfl rfl (B4 (B2 a0) _)) (Zr ziC ldC rfl (fun _ => rfl) rfl (Bk (B2 a0)) rfl rfl ?_))
  refine G4 ?_;refine Af rfl rfl rfl rfl (ih a0 (af_ ha0)) ?_;refine G9 ?_;refine O1 (Ek okC rfl rfl Om) ?_;refine G2 ?_;refine O1 (Aon okC rfl rfl) ?_;refine G7 ?_;refine ⟨bc,⟨congrArg (fun x => some (iV x)) e4,congrArg (fun x => some (iV x)) e5,rfl,rfl,rfl,trivial⟩,rfl⟩
 ·have bm : ks.length <= i0 := by simpa using h1
  rw [ar_ bm];have hhl := Apy ks;refine G11 ?_;refine A2 hw rfl ?_;unfold Ch hT; rw [eb_ 1 (Dw ks),eb_ 1 (hL ks)]; rfl
theorem f113 (t : As) (J : Sto) (hb : Ch t <= 100000) : Cv 113 [Bp t] J (.tup [iV (.ofNat (Ch t)),iV (.ofNat (hT t))]) := by
 revert hb
 refine As.ind' (P := fun t => Ch t <= 100000 -> Cv 113 [Bp t] J (.tup [iV (.ofNat (Ch t)),iV (.ofNat (hT t))])) ?_ t
 intro s ks ih hb;refine f113n s ks J hb fun k hk => ih k hk ?_
 have := P2 hk;unfold Ch at hb;omega
theorem f83 (t : As) (J : Sto) (hb : Ch t <= 4000) (hh : hT t <= 100) : Cv 83 [Bp t] J (iV 0) := by
 refine Ak Tryz.func83 rfl rfl fun hw hu0 => ?_
 refine G8 ?_;refine Af rfl rfl rfl rfl (f113 t _ Om) ?_
 iterate 14 refine G ?_
 refine Ab rfl ?_ ?_ <;> intro h1
 ·exact absurd h1 (by simp only [aj_,decide_eq_true_eq]; omega)
 ·skip
  refine G6 ?_;refine Ab rfl ?_ ?_ <;> intro h2
  ·exact absurd h2 (by simp only [aj_,decide_eq_true_eq]; omega)
  ·skip
   refine G6 ?_;refine A2 hw rfl ?_
   rfl
theorem f152n (s : Str) (ks : List As) (lv : Nat) (J : Sto) (hb : Ch (.node s ks) <= 4000) (hlv : lv <= 100000) (ih : ∀ k ∈ ks,Cv 152 [Bp k,iV (.ofNat (lv + 1))] J (.tup [iV (.ofNat (Ch k)),iV (.ofNat (dpT k (lv + 1)))])) : Cv 152 [Bp (.node s ks),iV (.ofNat lv)] J (.tup [iV (.ofNat (Ch (.node s ks))),iV (.ofNat (dpT (.node s ks) lv))]) := by
 have hlk := Mh ks
 have hck : 1 + Dw ks <= 4000 := by unfold Ch at hb; exact hb
 rw [Ng];refine Ak Tryz.func152 rfl rfl fun hw hu0 => ?_
 iterate 21 refine G ?_
 refine Bh ks.length (fun i0 => [(1,iV (.ofNat lv)),(4,iV (.ofNat (1 + Dw (ks.take i0)))),(5,iV (.ofNat (dpL (ks.take i0) (lv + 1) lv))),(12,slV eT 2 ks),(13,iV (.ofNat ks.length)),(14,iV (.ofNat i0))]) (fun i0 J0 => J0 = J) ⟨rfl,congrArg (fun x => some (iV x)) (show Int.ofNat 1 = Int.ofNat (1 + Dw (ks.take 0)) by simp [Dw]),congrArg (fun x => some (iV x)) (show Int.ofNat lv = Int.ofNat (dpL (ks.take 0) (lv + 1) lv) by simp [dpL]),rfl,rfl,rfl,trivial⟩ rfl ?_
 rintro i0 J0 hi0 rfl;refine G5 ?_;refine Ab rfl ?_ ?_ <;> intro h1
 ·have bc : i0 < ks.length := by simpa using h1
  obtain ⟨a0,ha0⟩ := A3 bc;have hd0 := Av ha0;have hct := Adm ha0
  have e4 : Int.ofNat (1 + Dw (ks.take i0) + Ch a0) = Int.ofNat (1 + Dw (ks.take (i0 + 1))) := by rw [Bb ha0,P0]; simp only [Dw,aj_]; omega
  have e5 : max (Int.ofNat (dpL (ks.take i0) (lv + 1) lv)) (Int.ofNat (dpT a0 (lv + 1))) = Int.ofNat (dpL (ks.take (i0 + 1)) (lv + 1) lv) := by rw [Bb ha0,Ali]; simp only [dpL,aj_]; omega
  refine G5 ?_;refine O1 (Bn elC B2 rfl rfl ha0) (O1 (Ah ldC rfl rfl (B4 (B2 a0) _)) (Zr ziC ldC rfl (fun _ => rfl) rfl (Bk (B2 a0)) rfl rfl ?_))
  refine G7 ?_;refine Ab rfl ?_ ?_ <;> intro h2
  ·exact absurd h2 (by simp only [aj_,decide_eq_true_eq]; omega)
  ·skip
   refine G6 ?_;refine Af rfl rfl rfl rfl (ih a0 (af_ ha0)) ?_;refine G9 ?_;refine O1 (Ek okC rfl rfl Om) ?_;refine G2 ?_;refine O1 (Aon okC rfl rfl) ?_;refine G7 ?_;refine ⟨bc,⟨rfl,congrArg (fun x => some (iV x)) e4,congrArg (fun x => some (iV x)) e5,rfl,rfl,rfl,trivial⟩,rfl⟩
 ·have bm : ks.length <= i0 := by simpa using h1
  refine G9 ?_;refine A2 hw rfl ?_;rw [ar_ bm]; unfold Ch dpT; rfl
theorem f152 (t : As) (J : Sto) : ∀ lv,lv + Ch t <= 100000 -> Ch t <= 4000 -> Cv 152 [Bp t,iV (.ofNat lv)] J (.tup [iV (.ofNat (Ch t)),iV (.ofNat (dpT t lv))]) := by
 refine As.ind' (P := fun t => ∀ lv,lv + Ch t <= 100000 -> Ch t <= 4000 -> Cv 152 [Bp t,iV (.ofNat lv)] J (.tup [iV (.ofNat (Ch t)),iV (.ofNat (dpT t lv))])) ?_ t
 intro s ks ih lv h1 h2;refine f152n s ks lv J h2 Om fun k hk => ?_
 have := P2 hk;unfold Ch at h1 h2;exact ih k hk (lv + 1) Om Om
theorem Ahw {d : Db} : (ofF d).1 = zG ∨ Gk (ofF d).1 = 0 := by
 unfold ofF
 split
 ·exact .inl rfl
 ·split
  ·exact .inl rfl
  ·split
   ·exact .inl rfl
   ·split
    ·exact .inl rfl
    ·rename_i hc; exact .inr (by simpa using hc)
theorem Adn (d : Db) : GOk (ofF d).1 := by
 rcases Ahw (d := d) with h | h
 ·rw [h]
  exact ⟨⟨fun r hr => (by cases hr),fun r hr => (by cases hr)⟩,et_,fun r hr => (by cases hr),by simp [zG],fun r hr => (by cases hr)⟩
 ·exact Am6 h
def spV (g : Gr) (q : Nat) : AV := .pv [Aj g.sorts,slV eR 4 g.rules,.mp q]
theorem Apz {g : Gr} (hG : GOk g) (s : Str) : (Au g.rules s = none /\ (Eg g.rules 0 []).get s = none) ∨ ∃ r j,Au g.rules s = some r /\ (Eg g.rules 0 []).get s = some j /\ g.rules[j]? = some r := by
 obtain ⟨k1,k2⟩ := Aaq (s := s) (i := 0) (m := []) hG.nd fun _ _ => rfl
 cases h : Au g.rules s with
 | none => exact .inl ⟨rfl,k1 h⟩
 | some r =>
  obtain ⟨j,h1,h2⟩ := k2 r h
  exact .inr ⟨r,j,rfl,by rw [h1,be_],h2⟩
def Da : As -> Str
 | .node l _ => l
theorem Asq {g : List Rl} {k : As} {q : Str} : decide (Bm g k = some q) = ((Au g (Da k)).isSome && decide ((Gx g (Da k)).sort = q) && (Bm g k).isSome) := by
 cases k with
 | node l ks =>
  unfold Bm Da Gx;cases h : Au g l with
  | none => rfl
  | some r =>
   simp only [fz_,Bool.true_and,ef_]
   split
   ·simp
   ·simp
theorem Ahx {l : List (Option Str)} {ps : List Pt} {p : Pt} : Io l (ps ++ [p]) = (Io l ps && (decide (p.sort = []) || decide (l[p.arg.toNat]? = some (some p.sort)))) := by unfold Io; rw [List.all_append]; simp
theorem Xa {l : List (Option Str)} {ps : List Pt} {i : Nat} (h : Io l (ps.take i) = false) : Io l ps = false := by
 cases hh : Io l ps with
 | false => rfl
 | true =>
  unfold Io at h hh;rw [br_] at hh;rw [show (ps.take i).all _ = true from br_.2 fun x hx => hh x (ct_ hx)] at h
  cases h
theorem f115 (g : Gr) (q : Nat) (s : Str) (J : Sto) (hG : GOk g) (hm : A8 iN J q (Eg g.rules 0 [])) : Cv 115 [spV g q,sV s] J (.tup [.agg (eR (Gx g.rules s)),.bool (Au g.rules s).isSome]) := by
 refine Ak Tryz.func115 rfl rfl fun hw hu0 => ?_
 have hm1 : A8 iN (J.new (.cells [.str [],.str [],.nil (.slice none 0 0),.bool false])) q (Eg g.rules 0 []) := by
  obtain ⟨v,h⟩ := hm
  exact ⟨v,by rw [ab_,if_neg (by have := (hw _ _ h).1; omega)]; exact h⟩
 refine G2 ?_;refine O1 (B6 ziC) ?_;refine G9 ?_;refine O1 (Qq st9 Lu rfl hm1 rfl) ?_;refine G12 ?_;refine Ab rfl ?_ ?_ <;> intro h1
 ·have e0 : Au g.rules s = none := by
   rcases Apz hG s with ⟨e,_⟩ | ⟨r,j,_,e2,_⟩
   ·exact e
   ·rw [e2] at h1; exact absurd h1 (by simp)
  refine G3 ?_
  refine O1 (F3 (a := nx J) (off := 0) (cs := [.str [],.str [],.nil (.slice none 0 0),.bool false]) (cs' := [.str [],.str [],.nil (.slice none 0 0),.bool false]) (by rw [ab_,if_pos rfl]) ldC rfl rfl rfl rfl) ?_
  refine G3 ?_
  exact ⟨[.agg [.str [],.str [],.nil (.slice none 0 0),.bool false],.bool false],Cy (ldC (t := 100)) rfl (by simp only [Sto.cells]; rw [a_,if_pos rfl]) rfl (En rfl rfl),_,J,as_ hw ⟨by rw [Ae,Ac]; omega,fun b hb => by rw [a_,if_neg Om,ab_,if_neg Om]⟩,nl,.tup (.cons (.agg Apn) (.cons (.same rfl) .nil)),by unfold Gx; rw [e0]; rfl,rfl⟩
 ·obtain ⟨r,j,e1,e2,e3⟩ : ∃ r j,Au g.rules s = some r /\ (Eg g.rules 0 []).get s = some j /\ g.rules[j]? = some r := by
   rcases Apz hG s with ⟨_,e⟩ | h
   ·rw [e] at h1; exact absurd h1 (by simp)
   ·exact h
  refine G9 ?_
  refine O1 (Bn (i := j) elC (fun _ => rfl) rfl (show some ((Option.map iN ((Eg g.rules 0 []).get s)).getD (iV 0)) = some (iN j) by rw [e2]; rfl) e3) ?_
  refine O1 (Ah ldC rfl rfl (B4 (Pz r) _)) (O1 (F3 (a := nx J) (off := 0) (cs := [.str [],.str [],.nil (.slice none 0 0),.bool false]) (cs' := eR r) (by rw [ab_,if_pos rfl]) ldC rfl rfl rfl rfl) ?_)
  refine G3 ?_
  exact ⟨[.agg (eR r),.bool true],Cy (ldC (t := 100)) rfl (by simp only [Sto.cells]; rw [a_,if_pos rfl]) rfl (En rfl rfl),_,J,as_ hw ⟨by rw [Ae,Ac]; omega,fun b hb => by rw [a_,if_neg Om,ab_,if_neg Om]⟩,nl,.tup (.cons (.same (Lg r)) (.cons (.same rfl) .nil)),by unfold Gx; rw [e1]; rfl,rfl⟩
theorem Ap0 {g : List Rl} {l : List As} {j : Nat} : (Py g l)[j]? = l[j]?.map (Bm g) := by rw [Vz,az_]
theorem f153n (g : Gr) (q : Nat) (s : Str) (ks : List As) (J : Sto) (hG : GOk g) (hm : A8 iN J q (Eg g.rules 0 [])) (hb : ks.length < 1000000) (ih : ∀ k ∈ ks,Cv 153 [spV g q,Bp k] J (.bool (Bm g.rules k).isSome)) : Cv 153 [spV g q,Bp (.node s ks)] J (.bool (Bm g.rules (.node s ks)).isSome) := by
 rw [Ng];refine Ak Tryz.func153 rfl rfl fun hw hu0 => ?_
 refine G10 ?_;refine Af rfl rfl rfl rfl (f115 g q s _ hG hm) ?_;refine G12 ?_;refine Ab rfl ?_ ?_ <;> intro h1
 ·have e0 : Au g.rules s = none := by
   cases hh : Au g.rules s with
   | none => rfl
   | some x => rw [hh] at h1; exact absurd h1 (by simp)
  refine G5 ?_;refine A2 hw rfl ?_;rw [Bm,e0]; rfl
 ·obtain ⟨r,hr⟩ : ∃ r,Au g.rules s = some r := by
   cases hh : Au g.rules s with
   | none => rw [hh] at h1; exact absurd h1 (by simp)
   | some x => exact ⟨x,rfl⟩
  have hrl : Gx g.rules s = r := by unfold Gx; rw [hr]; rfl
  rw [hrl];have hpl := hG.prt r (Hf hr)
  iterate 14 refine G ?_
  refine Bh r.parts.length (fun i0 => [(0,spV g q),(3,.pv [sV s,slV eT 2 ks]),(7,iV (.ofNat ((r.parts.take i0).filter fun p => !decide (p.sort = [])).length)),(22,slV ePt 3 r.parts),(23,iV (.ofNat r.parts.length)),(24,iV (.ofNat i0))]) (fun i0 J0 => J0 = J /\ Io (Py g.rules ks) (r.parts.take i0) = true) SL ⟨rfl,rfl⟩ ?_
  rintro i0 J0 hi0 ⟨rfl,hp0⟩;refine G5 ?_;refine Ab rfl ?_ ?_ <;> intro h2
  ·have bc : i0 < r.parts.length := by simpa using h2
   obtain ⟨a0,ha0⟩ := A3 bc;have hd0 := Av ha0
   have hl0 : ((r.parts.take i0).filter fun p => !decide (p.sort = [])).length <= i0 := bc_ (co_ _ _) (by rw [b_]; omega)
   have ht0 : ((r.parts.take (i0 + 1)).filter fun p => !decide (p.sort = [])).length = ((r.parts.take i0).filter fun p => !decide (p.sort = [])).length + if (!decide (a0.sort = [])) = true then 1 else 0 := by
    rw [Bb ha0,dy_,aw_]
    congr 1
    cases hq : (!decide (a0.sort = [])) <;> simp [hq]
   have hps := Ahx (l := Py g.rules ks) (ps := r.parts.take i0) (p := a0);rw [← Bb ha0,hp0,Bool.true_and] at hps
   iterate 16 refine G ?_
   refine Ab rfl ?_ ?_ <;> intro h3
   ·have h3' : a0.sort = [] := of_decide_eq_true h3
    rw [show (!decide (a0.sort = [])) = false by rw [decide_eq_true h3']; rfl,if_neg (by simp),dx_] at ht0
    refine G5 ?_
    refine ⟨bc,⟨rfl,rfl,(by rw [ht0]; rfl),rfl,rfl,rfl,trivial⟩,rfl,(by rw [hps,decide_eq_true h3']; rfl)⟩
   ·have h3' : ¬ a0.sort = [] := of_decide_eq_false h3
    rw [show (!decide (a0.sort = [])) = true by rw [decide_eq_false h3']; rfl,if_pos rfl] at ht0
    obtain ⟨j,hj,hjn⟩ := hG.arg r (Hf hr) a0 (af_ ha0) h3'
    have hjt : a0.arg.toNat = j := by rw [hj]; rfl
    rw [decide_eq_false h3',Bool.false_or,Ap0,hjt] at hps
    iterate 17 refine G ?_
    refine Ab rfl ?_ ?_ <;> intro h4
    ·have hkn : ks[j]? = none := List.getElem?_eq_none (by have := of_decide_eq_true h4; rw [hj] at this; simp only [aj_] at this; omega)
     have hP : Io (Py g.rules ks) r.parts = false := Xa (i := i0 + 1) (by rw [hps,hkn]; rfl)
     have hF : Bm g.rules (.node s ks) = none := by
      rw [Bm,hr]; simp only; rw [if_neg];rw [hP,Bool.false_and]; simp
     refine G5 ?_;refine A2 hw rfl ?_;rw [hF]; rfl
    ·obtain ⟨k,hk⟩ := A3 (show j < ks.length by have := of_decide_eq_false h4; rw [hj] at this; simp only [aj_] at this; omega)
     rw [hk] at hps
     have ma : Io (Py g.rules ks) (r.parts.take (i0 + 1)) = ((Au g.rules (Da k)).isSome && decide ((Gx g.rules (Da k)).sort = a0.sort) && (Bm g.rules k).isSome) := by rw [hps,← Asq]; simp
     have iz : ∀ r,Be 1 false (eT k ++ r) = some (sV (Da k)) := fun r => by cases k; rw [Jr]; rfl
     refine G8 ?_;refine O1 (Bn (i := j) elC B2 rfl (congrArg (fun x => some (AV.int .i64 x)) hj) hk) ?_
     refine G ?_;refine O1 (Ah ldC rfl rfl (iz _)) (Af rfl rfl rfl rfl (f115 g q (Da k) _ hG hm) ?_);refine G11 ?_;refine TOr 5 ?_ (fun hg => ?_) ?_
     rotate_left
     ·iterate 4 refine Gn hg ?_
      refine On hg (Lr okC rfl rfl) ?_;exact Ez
     refine G ?_;refine TOr 9 ?_ (fun hg => ?_) ?_
     rotate_left
     ·iterate 5 refine Gn hg ?_
      refine On hg (Bn (i := j) elC B2 rfl (congrArg (fun x => some (AV.int .i64 x)) hj) hk) ?_
      refine On hg (Ah ldC rfl rfl (B4 (B2 k) _)) (Bg rfl rfl rfl (by rw [hg]; rfl) rfl rfl rfl rfl (ih k (af_ hk)) ?_)
      refine Gn hg ?_;exact Ez
     refine G ?_;refine Ab rfl ?_ ?_ <;> intro h5
     ·have h5' : ((!(Au g.rules (Da k)).isSome || !decide ((Gx g.rules (Da k)).sort = a0.sort)) || !(Bm g.rules k).isSome) = true := h5
      have hP : Io (Py g.rules ks) r.parts = false := Xa (i := i0 + 1) (by rw [ma]; revert h5'; cases (Au g.rules (Da k)).isSome <;> cases decide ((Gx g.rules (Da k)).sort = a0.sort) <;> cases (Bm g.rules k).isSome <;> simp)
      have hF : Bm g.rules (.node s ks) = none := by
       rw [Bm,hr]; simp only; rw [if_neg];rw [hP,Bool.false_and]; simp
      refine G5 ?_;refine A2 hw rfl ?_;rw [hF]; rfl
     ·have h5' : ((!(Au g.rules (Da k)).isSome || !decide ((Gx g.rules (Da k)).sort = a0.sort)) || !(Bm g.rules k).isSome) = false := h5
      have hps : Io (Py g.rules ks) (r.parts.take (i0 + 1)) = true := by rw [ma]; revert h5'; cases (Au g.rules (Da k)).isSome <;> cases decide ((Gx g.rules (Da k)).sort = a0.sort) <;> cases (Bm g.rules k).isSome <;> simp
      refine G5 ?_
      refine ⟨bc,⟨rfl,rfl,(by rw [ht0]; rfl),rfl,rfl,rfl,trivial⟩,rfl,hps⟩
  ·have bm : r.parts.length <= i0 := by simpa using h2
   rw [ar_ bm] at hp0 ⊢;refine G11 ?_;refine A2 hw rfl ?_;rw [Bm,hr]; simp only; rw [hp0,Bool.true_and]; show AV.bool _ = _; congr 1; unfold Kw; by_cases hh : (r.parts.filter fun p => !decide (p.sort = [])).length = ks.length <;> simp [hh] <;> omega
theorem f153 (g : Gr) (q : Nat) (J : Sto) (hG : GOk g) (hm : A8 iN J q (Eg g.rules 0 [])) (t : As) : Ch t <= 100000 -> Cv 153 [spV g q,Bp t] J (.bool (Bm g.rules t).isSome) := by
 refine As.ind' (P := fun t => Ch t <= 100000 -> Cv 153 [spV g q,Bp t] J (.bool (Bm g.rules t).isSome)) ?_ t
 intro s ks ih hb;have hlk := Mh ks
 have hc : 1 + Dw ks <= 100000 := by unfold Ch at hb; exact hb
 refine f153n g q s ks J hG hm Om fun k hk => ih k hk ?_
 have := P2 hk;omega
theorem Xb {a : Rl} : ∀ (l : List Rl) (i : Nat) (m : SM Nat),Eg (l ++ [a]) i m = (Eg l i m).put a.label (i + l.length)
 | [],i,m => rfl
 | x :: l,i,m => by
  simp only [av_,Eg,Xb l,ap_]
  congr 1; omega
theorem f114 (g : Gr) (t : As) (J : Sto) (hG : GOk g) (hB : GrB g) (hc : Gk g = 0) (hb : Ch t <= 4000) (hh : hT t <= 100) : Aq Ew 114 [grV g,Bp t] J fun v J' => (∃ p,v = .tup [p,iV (if (Bm g.rules t).isSome = true then 0 else 2)] /\ Below (nx J) J J' /\ ((Bm g.rules t).isSome = true -> ∃ q,p = spV g q /\ A8 iN J' q (Eg g.rules 0 []))) := by
 have hdp := Aso t 1;have hgl := hG.len;refine Ak Tryz.func114 rfl rfl fun hw hu0 => ?_
 refine G11 ?_;refine Af rfl rfl rfl rfl (f63 g _ hB) ?_;refine G7 ?_;refine Ab rfl ?_ ?_ <;> intro h1
 ·exact absurd h1 (by rw [hc]; simp)
 ·skip
  refine G4 ?_;refine Af rfl rfl rfl rfl (f152 t _ 1 Om hb) ?_;refine G12 ?_;refine Ab rfl ?_ ?_ <;> intro h2
  ·exact absurd h2 (by simp only [aj_,decide_eq_true_eq]; omega)
  ·skip
   refine G7 ?_;refine Ab rfl ?_ ?_ <;> intro h3
   ·exact absurd h3 (by simp only [aj_,decide_eq_true_eq]; omega)
   ·skip
    refine G4 ?_;refine O1 (Kl Lu) ?_
    iterate 13 refine G ?_
    refine Bh g.rules.length (fun i0 => [(3,.pv (eT t)),(9,spV g (nx J)),(31,slV eR 4 g.rules),(32,iV (.ofNat g.rules.length)),(33,iV (.ofNat i0))]) (fun i0 J0 => A8 iN J0 (nx J) (Eg (g.rules.take i0) 0 []) /\ Below (nx J) J J0 /\ nx J < nx J0) SL ⟨⟨0,by rw [ab_,if_pos rfl]; rfl⟩,⟨by rw [Ac]; omega,fun b hb => by rw [ab_,if_neg Om]⟩,by rw [Ac]; omega⟩ ?_
    rintro i0 J0 hi0 ⟨hm0,hb0,hn0⟩;refine G5 ?_;refine Ab rfl ?_ ?_ <;> intro h4
    ·have bc : i0 < g.rules.length := by simpa using h4
     obtain ⟨a0,ha0⟩ := A3 bc;have hd0 := Av ha0;obtain ⟨vm,hvm⟩ := id hm0
     have oe : ((J0.new (.cells [.str [],.str [],.nil (.slice none 0 0),.bool false])).set (nx J0) (.cells (eR a0))).get (nx J) = some (.map 9 (B1 iN (Eg (g.rules.take i0) 0 [])) vm) := by rw [a_,if_neg Om,ab_,if_neg Om]; exact hvm
     have hcl : ((J0.new (.cells [.str [],.str [],.nil (.slice none 0 0),.bool false])).set (nx J0) (.cells (eR a0))).get (nx J0) = some (.cells (eR a0)) := by rw [a_,if_pos rfl]
     have e9 : Eg (g.rules.take (i0 + 1)) 0 [] = (Eg (g.rules.take i0) 0 []).put a0.label i0 := by rw [Bb ha0,Xb,b_,be_,dt_ hi0]
     refine G7 ?_;refine O1 (Ah ldC rfl rfl (B4 (Pz a0) _)) (O1 (B6 ziC) ?_);refine G ?_
     refine O1 (F3 (a := nx J0) (off := 0) (cs := [.str [],.str [],.nil (.slice none 0 0),.bool false]) (cs' := eR a0) (by rw [ab_,if_pos rfl]) ldC rfl rfl rfl rfl) ?_
     refine G ?_;refine XS (l := []) trivial ?_;refine G5 ?_;refine DF (A4 hcl ldC rfl rfl) ?_;refine G ?_
     refine DT (Ec (v := i0) st9 Lu rfl oe rfl rfl (fun te k1 k2 => by first | exact Apq k1 k2 | exact Ex k1 k2 | exact Ey k1 k2 | exact Fc k1 k2 | exact Fe k1 k2 | exact E1 k1 k2 rfl)) ?_
     refine G5 ?_
     refine ⟨bc,SL,(by rw [e9]; exact dj_),⟨by rw [Ae,Ae,Ac]; omega,fun b hb => by rw [a_,if_neg Om,a_,if_neg Om,ab_,if_neg Om]; exact hb0.2 b hb⟩,by rw [Ae,Ae,Ac]; omega⟩
    ·have bm : g.rules.length <= i0 := by simpa using h4
     have hm1 : A8 iN J0 (nx J) (Eg g.rules 0 []) := by rw [ar_ bm] at hm0; exact hm0
     refine Co fun hw1 => ?_
     refine G6 ?_;refine Af rfl rfl rfl rfl (f153 g (nx J) _ hG hm1 t Om) ?_;refine G2 ?_;refine Ab rfl ?_ ?_ <;> intro h5
     ·have hF : (Bm g.rules t).isSome = false := by simpa using h5
      refine G6 ?_
      exact ⟨_,rfl,_,_,ag_ hw1 nl (fun _ _ => rfl),hb0.1,.same rfl,_,by rw [hF]; rfl,hb0,fun h => absurd (hF.symm.trans h) (by simp)⟩
     ·have hF : (Bm g.rules t).isSome = true := by simpa using h5
      refine G8 ?_
      exact ⟨_,rfl,_,_,ag_ hw1 nl (fun _ _ => rfl),hb0.1,.same (by show (AV.und (nx J0) (spV g (nx J)) && (true && true)) = true; rw [show AV.und (nx J0) (spV g (nx J)) = true by show (AV.und (nx J0) (Aj g.sorts) && (AV.und (nx J0) (slV eR 4 g.rules) && (AV.und (nx J0) (.mp (nx J)) && true))) = true; rw [show AV.und (nx J0) (Aj g.sorts) = true from Cw Lf _,Cw Lg,show AV.und (nx J0) (.mp (nx J)) = true from C6 hn0]; rfl]; rfl),_,by rw [hF]; rfl,hb0,fun _ => ⟨_,rfl,hm1⟩⟩
end Go.AM
