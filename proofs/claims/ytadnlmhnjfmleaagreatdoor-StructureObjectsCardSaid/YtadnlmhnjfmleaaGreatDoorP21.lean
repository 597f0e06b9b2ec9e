/- A part of the proof; shortened by program. -/
import Derived.Test.YtadnlmhnjfmleaaGreatDoorP20
set_option maxRecDepth 100000
set_option maxHeartbeats 4000000
set_option linter.unusedSimpArgs false
set_option linter.unusedVariables false
namespace Go.AM
open Go Go.Proofs Go.Sort
abbrev eI (i : Int) : List AV := [iV i]
def Ds (l : List Int) : List Int := l.mergeSort fun x y => decide (x <= y)
theorem Api {C : Ctx} {N : Nat} {w : World} {c : Nat} : ∀ {vs : List AV} {o j : Nat} {x : AV},RC C N w c vs o -> vs[j]? = some x -> ∃ v,w.cell? ⟨c,o + j,none⟩ = some v /\ v.oneCell = true /\ R C N w x v
 | [],_,_,_,_,h => by simp at h
 | y :: r,o,0,x,hr,h => by
  unfold RC at hr
  simp at h; subst h
  simpa using hr.1
 | y :: r,o,j + 1,x,hr,h => by
  unfold RC at hr
  have := Api hr.2 (show r[j]? = some x by simpa using h)
  rwa [show o + 1 + j = o + (j + 1) by omega] at this
theorem Asj {C : Ctx} {N : Nat} {w : World} {c : Nat} : ∀ {vs : List AV} {o : Nat},(∀ j x,vs[j]? = some x -> ∃ v,w.cell? ⟨c,o + j,none⟩ = some v /\ v.oneCell = true /\ R C N w x v) -> RC C N w c vs o
 | [],_,_ => by unfold RC; trivial
 | y :: r,o,h => by
  unfold RC
  refine ⟨by simpa using h 0 y rfl,Asj fun j x hx => ?_⟩
  have := h (j + 1) x (by simpa using hx)
  rwa [show o + (j + 1) = o + 1 + j by omega] at this
theorem Apj : ∀ l : List Int,l.flatMap eI = l.map iV
 | [] => rfl
 | x :: l => by simp [Apj l]
theorem Ask (l : List Int) (tl : List AV) (j : Nat) (h : j < l.length) : (l.flatMap eI ++ tl)[j]? = some (iV l[j]) := by
 rw [Apj,bb_ (by simpa using h)]; simp [h]
theorem Apk (l : List Int) : (l.flatMap eI).length = l.length := by induction l with
 | nil => rfl
 | cons x l ih => simp [ih]
theorem Qz (l : List Int) : (Ds l).length = l.length := List.length_mergeSort l
theorem f112n (J : Sto) : Cv 112 [.nil (.slice none 0 0)] J An := by
 refine Sr ⟨_,Tryz.func112,rfl,rfl⟩ fun C w vs ha => ?_
 obtain ⟨v,rfl,hv⟩ := Ai6 ha;unfold R at hv;obtain ⟨rfl,_⟩ := hv;exact ⟨_,Tryz.slices_Sort_int_none none 0 w,Pc⟩
theorem f112 (l : List Int) (a : Nat) (tl : List AV) (J : Sto) (hg : J.get a = some (.cells (l.flatMap eI ++ tl))) (hne : l ≠ []) (hl : l.length < 1000000) :
  Aq Ew 112 [.sr a 0 1 l.length none] J fun v J' => v = An /\ J' = J.set a (.cells ((Ds l).flatMap eI ++ tl)) := by
 intro C w vs hs hgl ha;refine ⟨⟨_,Tryz.func112,rfl,rfl⟩,?_⟩;obtain ⟨v,rfl,hv⟩ := Ai6 ha;unfold R at hv;obtain ⟨ad,k,rfl,hN,hlk,_,bw⟩ := hv;obtain ⟨c,o,cs,T,hl1,hh,hrc⟩ := hs.obj a _ hg;have dt : 0 < l.length := List.length_pos_iff.2 hne;have had := (bw c o hl1).1 Om;subst had;rw [dx_]
 have hH : Holds (Value.int .i64) w c o l.toArray := fun j hj => by
  have hj : j < l.length := by simpa using hj
  obtain ⟨v,h1,_,h3⟩ := Api hrc (Ask l tl j hj);unfold iV R at h3;subst h3
  refine ⟨by rw [h1]; simp [hj],?_⟩
  unfold World.frozen?;rw [hh]; simp
 refine (Tryz.slices_Sort_int c o k l w hH (hs.lt a c o hl1) Om).mono fun e w' he => ?_
 obtain ⟨rfl,n,os,rfl⟩ := he;have hd : (Ds l).length = l.length := Qz l;obtain ⟨s1,e1⟩ := hs.same (w' := Go.Sort.ahead w n) nl (fun b _ => rfl) ⟨rfl,rfl⟩
 have hH1 : Holds (Value.int .i64) (Go.Sort.ahead w n) c o l.toArray := hH
 have hwr : Wr (Go.Sort.ahead w n) (putRow (Value.int .i64) (Go.Sort.ahead w n) c o (Ds l).toArray) c (.cells (putCells (Value.int .i64) o (Ds l).toArray cs) T (0,0)) := by
  refine ⟨size_putRow ..,?_,fun b hb => ?_,rfl,rfl⟩
  ·show ((Go.Sort.ahead w n).heap.modify c (onCells _))[c]? = _
   rw [dw_,if_pos rfl]
   show (w.heap[c]?).map _ = _
   rw [hh]; rfl
  ·show ((Go.Sort.ahead w n).heap.modify c (onCells _))[b]? = _
   rw [dw_,if_neg (go_ hb)]
 obtain ⟨s2,e2⟩ := s1.upd (O₀ := .cells (l.flatMap eI ++ tl)) hl1 hwr (by
   unfold csize;rw [hwr.here]
   show _ = (match w.heap[c]? with | some (.cells cs _ _) => cs.size | _ => 0)
   rw [hh]; simp [putCells]) hg (.cells ((Ds l).flatMap eI ++ tl)) rfl (fun _ _ _ h => by cases h) (fun e => by
   refine ⟨c,o,_,T,hl1,hwr.here,Asj fun j x hx => ?_⟩
   rw [Ae]
   by_cases hj : j < (Ds l).length
   ·rw [Ask _ tl j hj] at hx; cases hx
    refine ⟨_,cell?_putRow (Value.int .i64) (Go.Sort.ahead w n) c o l.toArray (Ds l).toArray hH1 (by simpa using hd) j (by simpa using hj),rfl,?_⟩
    unfold iV R; simp [hj]
   ·have hx' : (l.flatMap eI ++ tl)[j]? = some x := by
     rw [cb_ (by rw [Apk]; omega),Apk] at hx ⊢
     rw [← hd]; exact hx
    obtain ⟨v,h1,h2,h3⟩ := Api hrc hx';refine ⟨v,?_,h2,R.ext (e1.trans e) _ _ h3⟩
    rw [cell?_putRow_other _ _ _ _ _ _ (.inr (.inr (by show o + (Ds l).toArray.size <= o + j; simp; omega)))]
    exact h1)
 obtain ⟨s3,e3⟩ := s2.same (w' := Go.Sort.grow (putRow (Value.int .i64) (Go.Sort.ahead w n) c o (Ds l).toArray) os) (by simp [Go.Sort.grow]) (fun b hb => by
   show (_ ++ os)[b]? = _
   rw [di_ hb]) ⟨rfl,rfl⟩
 refine ⟨An,_,C,⟨rfl,rfl⟩,s3,?_,Pc⟩;rw [Ae] at e3 ⊢;exact (e1.trans e2).trans e3
section
open Go Go.Proofs
def Afh : List Int -> Nat -> Bool
 | [],_ => false
 | a :: r,i => !decide (a = Int.ofNat i) || Afh r (i + 1)
def Dg (r : Rl) : List Int := (Hn r.parts).map (·.arg)
def Gj (g : Gr) (r : Rl) : Bool :=
 if ((!Ade r.label || !(g.sorts.any fun x => decide (r.sort = x))) || r.parts.any (fun p => !Ahp g.sorts p)) = true then false
 else if Afh (Ds (Dg r)) 0 = true then false
 else !r.var || (decide (Int.ofNat r.parts.length = 1) && decide (Int.ofNat (Dg r).length = 0))
theorem Aam {N : Nat} (p : Pt) : AV.unds N (ePt p) = true := rfl
theorem Lg {N : Nat} (r : Rl) : AV.unds N (eR r) = true := by
 show (true && (true && (AV.und N (slV ePt 3 r.parts) && (true && true)))) = true
 rw [Cw Aam r.parts]; rfl
theorem f111 (r : Rl) (J : Sto) : Cv 111 [.agg (eR r)] J (.fn (.func 149) [] [.pv (eR r)]) := by
 refine Ak Tryz.func111 rfl rfl fun hw hu0 => ?_
 refine G11 ?_
 exact ⟨_,rfl,_,_,ag_ hw nl (fun _ _ => rfl),nl,.same (by show (true && ((AV.unds (nx J) (eR r)) && true)) = true; rw [Lg]; rfl),rfl,rfl⟩
theorem f79 (r : Rl) (J : Sto) : Cv 79 [.agg (eR r)] J (.bool (decide ((200 : Int) < Int.ofNat r.parts.length))) := by
 refine Ak Tryz.func79 rfl rfl fun hw hu0 => ?_
 iterate 14 refine G ?_
 refine A2 hw rfl ?_;exact rfl
end
section
open Go Go.Proofs
structure Apl (J : Sto) (l : List Pt) (J' : Sto) : Prop where
 mk' ::
 ex : ∃ v,J'.get (nx J + 1) = some (.cells [v]) /\ Own J' (nx J + 4) eI 1 (l.map (·.arg)) v /\ (l = [] -> v = .nil (.slice none 0 0)) /\ J'.get (nx J + 3) = some (.loop .ready) /\ (∀ b,b < nx J -> J'.get b = J.get b) /\ nx J + 4 <= nx J'
theorem Apl.rd {J J' : Sto} {l : List Pt} (h : Apl J l J') : J'.get (nx J + 3) = some (.loop .ready) := by obtain ⟨_,_,_,_,h,_⟩ := h.ex; exact h
theorem Lt.post {E : Env} {L : RF} {f : Nat} {args : List AV} {J : Sto} {P P' : Sto -> Prop} (h : Lt E L f args J P) (k : ∀ J',P J' -> P' J') : Lt E L f args J P' := fun C w vs hi hs hg ha => (h C w vs hi hs hg ha).mono fun e w' he => by
 cases e with
 | returned x => obtain ⟨J',C',h1,h2⟩ := he; exact ⟨J',C',k _ h1,h2⟩
 | panicked _ => exact he.elim
 | outgrown => exact he.elim
theorem Mf {J : Sto} {N sz : Nat} {α : Type} {enc : α -> List AV} {l : List α} {v : AV} (h : Own J N enc sz l v) : v.cellsN 1 = some [v] := by
 rcases h with ⟨_,rfl | rfl⟩ | ⟨a,tl,_,_,rfl,_⟩ <;> rfl
theorem f82 (r : Rl) (g : Gr) (J : Sto) (hb : r.parts.length < 1000000) (hgs : g.sorts.length < 1000000) : Cv 82 [.agg (eR r),grV g] J (.bool (Gj g r)) := by
 refine Ase Tryz.func82 (L7 _ _ Tryz.func82) rfl rfl fun hw hu0 => ?_
 refine Sn ?_;refine G5 ?_;refine Sn ?_;refine G4 ?_;refine Af rfl rfl rfl rfl (f81 r.label _) ?_;refine G2 ?_;refine TOr 6 ?_ (fun hg => ?_) ?_
 rotate_left
 ·iterate 4 refine Gn hg ?_
  refine Bg rfl rfl rfl (by rw [hg]; rfl) rfl rfl rfl rfl (f46 g.sorts r.sort _ Om) ?_
  refine Gn hg ?_;exact Ez
 refine G ?_;refine TOr 4 ?_ (fun hg => ?_) ?_
 rotate_left
 ·iterate 3 refine Gn hg ?_
  refine Bg rfl rfl rfl (by rw [hg]; rfl) rfl rfl rfl rfl (f108 (fun p => !Ahp g.sorts p) r.parts 109 [.pv [Aj g.sorts,slV eR 4 g.rules]] _ Om (fun p _ => f109 p g _ hgs)) ?_
  exact Ez
 refine G ?_;refine Ab rfl ?_ ?_ <;> intro h1
 ·refine G4 ?_;have hV : Gj g r = false := if_pos h1;refine G ?_
  exact ⟨_,rfl,.bool false,J,ag_ hw (by rw [Bi]; omega) (fun a _ => D6 J a),nl,.same rfl,congrArg AV.bool hV.symm,rfl⟩
 ·refine G ?_;refine Sn ?_;refine G ?_;refine O1 (B6 ziC) ?_;refine G ?_;refine Ac2 ?_;refine G2 ?_;refine Af rfl rfl rfl rfl (f111 r _) ?_;refine G ?_
  -- J1: behind the variable
  have hA : nx J.bump = nx J + 1 := Bi J
  have h1n : nx (J.bump.new (.cells [.nil (.slice none 0 0)])) = nx J + 2 := by rw [Ac,hA]
  have hsn : nx ((J.bump.new (.cells [.nil (.slice none 0 0)])).bump.new (.loop .ready)) = nx J + 4 := by rw [Ac,Bi,h1n]
  refine ⟨149,[.pv (eR r)],_,fun J' => Apl J (Hn r.parts) J',rfl,Tryz.func149,L7 _ _ Tryz.func149,rfl,fun tm ht => ?_,fun J' aD hS hn => ?_⟩
  ·rw [h1n];refine Lt.post (it225 _ r _ (fun l J' => Apl J l J') hb ?_ ?_) fun J' hS => ⟨hS.rd,hS⟩
   ·refine ⟨⟨.nil (.slice none 0 0),?_,.nil,fun _ => rfl,?_,fun b hb' => ?_,by rw [hsn]; exact nl⟩⟩
    ·rw [ab_,Bi,if_neg (by rw [h1n]; omega),D6,ab_,if_pos hA.symm]
    ·rw [ab_,Bi,if_pos (by rw [h1n])]
    ·rw [ab_,Bi,if_neg (by rw [h1n]; omega),D6,ab_,if_neg (by rw [hA]; omega),D6]
   ·intro i p J' hp hpb hn' hS;obtain ⟨v,cj,br,d6,hrd,di,hnn⟩ := hS.ex;rw [hsn] at hn';have hnb : nx (J'.set (nx J + 3) (.loop .busy)) = nx J' := Ae _ _ _
    refine Aov (ρL := _) ht rfl rfl hrd (by show nx J + 3 < nx J'; omega) ?_
    refine Ks Kr ?_;refine G2 ?_;refine ⟨hrd,?_⟩;refine Acz (Ks Kr ?_)
    have dv : Own (J'.set (nx J + 3) (.loop .busy)) (nx J + 4) eI 1 ((Hn (r.parts.take i)).map (·.arg)) v := br.mono (by rw [hnb]; exact nl) fun a tl _ h8 h9 _ => by rw [a_,if_neg Om]
    have bn : ((Hn (r.parts.take i)).map (·.arg)).length <= i := by
     rw [by_]
     exact bc_ (co_ _ _) (by rw [b_]; omega)
    have hil : i < r.parts.length := (ad_.1 hp).1
    have bo : (((Hn (r.parts.take i)).map (·.arg)).length + [p.arg].length) * (8 + 1) <= sizeLim := by simp only [dc_,sizeLim]; omega
    obtain ⟨v1,τ1,hap,ho1,hb1,hk1⟩ := dv.app (by' := 8) (enc := eI) (sz := 1) (fun _ => rfl) (by rw [hnb]; omega) [p.arg] bo
    have ce : (J'.set (nx J + 3) (.loop .busy)).get (nx J + 1) = some (.cells [v]) := by rw [a_,if_neg Om]; exact cj
    have fk : τ1.get (nx J + 1) = some (.cells [v]) := (hb1.2 _ Om).trans ce
    refine O1 (Ah (u := .pr (nx J + 1) 0) (cs := [v]) ldC (by rw [← hA]; rfl) (by simp only [Cn,Sto.cells,ce]; rfl) rfl) ?_
    refine G2 ?_
    refine Dz (Ay elC byW rfl rfl rfl) (Fk (len := 1)) rfl rfl (O1 (A1 elC rfl slC rfl rfl rfl (new := eI p.arg) rfl hap) (O1 (A6 (ad := nx J + 1) (off := 0) (vs := [v]) (vs' := [v1]) (cs := [v1]) ldC (by rw [← hA]; rfl) rfl (Mf ho1) (by simp only [Sto.cells,fk]) rfl) ?_))
    refine G ?_
    have hn1 : nx J + 4 <= nx τ1 := bc_ (by rw [hnb]; omega) hb1.1
    refine ⟨by rw [a_,if_neg (by show ¬ nx J + 3 = nx J + 1; omega),hb1.2 _ (by show nx J + 3 < nx J + 4; omega),a_,if_pos rfl],⟨v1,?_,?_,fun h => (by simp at h),by rw [a_,if_pos rfl],fun b hb' => ?_,by rw [Ae,Ae]; exact hn1⟩⟩
    ·rw [a_,if_neg (by show ¬ nx J + 1 = nx J + 3; omega),a_,if_pos rfl]
    ·rw [ci_]
     exact ho1.mono (by rw [Ae,Ae]; exact nl) fun a tl _ h8 h9 _ => by rw [a_,if_neg (by show ¬ a = nx J + 3; omega),a_,if_neg Om]
    ·rw [a_,if_neg (by show ¬ b = nx J + 3; omega),a_,if_neg Om,hb1.2 b Om,a_,if_neg Om]
     exact di b hb'
  ·have hS' : Apl J (Hn r.parts) J' := hS;obtain ⟨v,cj,br,d6,hrd,di,hnn⟩ := hS'.ex;rw [h1n];have hnk : nx (J'.kill (nx J + 2 + 1)) = nx J' := By _ _
   have hgk : ∀ b,b ≠ nx J + 3 -> (J'.kill (nx J + 2 + 1)).get b = J'.get b := fun b hb' => by rw [db_,if_neg hb']
   have bn : (Dg r).length < 1000000 := by
    unfold Dg Hn;rw [by_];exact ek_ (co_ _ _) hb
   have ek : Own (J'.kill (nx J + 2 + 1)) (nx J + 4) eI 1 (Dg r) v := br.mono (by rw [hnk]; exact nl) fun a tl _ h8 h9 _ => hgk a Om
   obtain ⟨Js,c6,hcs,em,ms,hns⟩ : ∃ Js,(Aq Ew 112 [v] (J'.kill (nx J + 2 + 1)) fun u τ => u = An /\ τ = Js) /\ Js.get (nx J + 1) = some (.cells [v]) /\ Own Js (nx J + 4) eI 1 (Ds (Dg r)) v /\ (∀ b,b < nx J -> Js.get b = J.get b) /\ nx J + 4 <= nx Js := by
    by_cases hne : Dg r = []
    ·have hv : v = .nil (.slice none 0 0) := d6 (by unfold Dg at hne; exact List.map_eq_nil_iff.1 hne)
     subst hv
     refine ⟨_,f112n _,(hgk _ Om).trans cj,?_,fun b hb' => (hgk b Om).trans (di b hb'),by rw [hnk]; exact hnn⟩
     rw [hne] at ek ⊢
     rw [show Ds [] = [] by simp [Ds]]
     exact ek
    ·rcases ek with ⟨h0,_⟩ | ⟨a,tl,ha1,ha2,rfl,ha3⟩
     ·exact absurd h0 hne
     ·refine ⟨_,f112 (Dg r) a tl _ ha3 hne bn,?_,.inr ⟨a,tl,ha1,by rw [Ae]; exact ha2,by rw [Qz],by rw [a_,if_pos rfl]⟩,fun b hb' => ?_,by rw [Ae,hnk]; exact hnn⟩
      ·rw [a_,if_neg Om,hgk _ Om]; exact cj
      ·rw [a_,if_neg Om,hgk _ Om]; exact di b hb'
   have hsl : (Ds (Dg r)).length = (Dg r).length := Qz _
   have bh : nx J <= nx Js /\ ∀ b,b < nx J -> Js.get b = J.get b := ⟨by omega,ms⟩
   have hld : ∀ τ : Sto,τ.get (nx J + 1) = some (.cells [v]) -> Cn τ (.pr (nx J + 1) 0) = some [v] := fun τ h => by simp only [Cn,Sto.cells,h]; rfl
   have hno : ∀ b : Bool,Gj g r = b -> T Ew Tryz.f82.ntmps [(Gh,[.yl aD,.yl (nx J)])] (nx J + 1) .ret (Amh (Ae2 Ew Tryz.f82 (nx J) fun v J' => v = .bool (Gj g r) /\ J' = J)) [(4,.bool b)] Js := fun b hb' => by
    refine G ?_;exact ⟨_,rfl,.bool b,J,ag_ hw bh.1 bh.2,nl,.same rfl,congrArg AV.bool hb'.symm,rfl⟩
   refine G2 ?_
   refine O1 (Ah (u := .pr (nx J + 1) 0) (cs := [v]) ldC (by rw [← hA]; rfl) (hld _ ((hgk _ Om).trans cj)) rfl) ?_
   refine Af rfl rfl rfl rfl c6 ?_;refine G4 ?_
   refine O1 (Ah (u := .pr (nx J + 1) 0) (cs := [v]) ldC (by rw [← hA]; rfl) (hld _ hcs) rfl) ?_
   refine O1 (Em slC rfl em.lenA.1 em.lenA.2) ?_;refine G3 ?_
   refine Bh (Ds (Dg r)).length (fun i2 => [(2,.pv (eR r)),(5,.pr (nx J + 1) 0),(37,v),(38,iV (.ofNat (Ds (Dg r)).length)),(39,iV (.ofNat i2))]) (fun i2 J2 => J2 = Js /\ Afh (Ds (Dg r)) 0 = Afh ((Ds (Dg r)).drop i2) i2) ⟨rfl,by rw [← hA]; rfl,rfl,rfl,rfl,trivial⟩ ⟨rfl,rfl⟩ ?_
   rintro i2 J2 hi2 ⟨rfl,hf2⟩;refine G5 ?_;refine Ab rfl ?_ ?_ <;> intro h2
   ·have bz : i2 < (Ds (Dg r)).length := by simpa using h2
    obtain ⟨u2,ha2⟩ := A3 bz;have hd2 := Av ha2
    have hov : ∃ a tl,v = .sr a 0 1 (Ds (Dg r)).length none /\ J2.get a = some (.cells ((Ds (Dg r)).flatMap eI ++ tl)) := by
     rcases em with ⟨h0,_⟩ | ⟨a,tl,_,_,k3,k4⟩
     ·rw [h0] at bz; exact absurd bz (by simp)
     ·exact ⟨a,tl,k3,k4⟩
    obtain ⟨a,tl,hv,hga⟩ := hov;refine G6 ?_;refine O1 (Is (a := a) (m := (Ds (Dg r)).length) (cap := none) elC (congrArg some hv) rfl bz) (O1 (Sd (l := Ds (Dg r)) (enc := eI) (u := u2) (v := iV u2) (fun _ => rfl) ldC rfl hga ha2 (fun _ => rfl)) ?_)
    refine G9 ?_;refine Ab rfl ?_ ?_ <;> intro h3
    ·refine G4 ?_
     have hV : Gj g r = false := (if_neg (by rw [h1]; simp)).trans (if_pos (by rw [hf2,hd2,Afh,show (!decide (u2 = Int.ofNat i2)) = true from h3]; rfl))
     refine G ?_;exact ⟨_,rfl,.bool false,J,ag_ hw bh.1 bh.2,nl,.same rfl,congrArg AV.bool hV.symm,rfl⟩
    ·refine G5 ?_
     refine ⟨bz,SL,rfl,by rw [hf2,hd2,Afh,show (!decide (u2 = Int.ofNat i2)) = false from h3]; rfl⟩
   ·have b9 : (Ds (Dg r)).length <= i2 := by simpa using h2
    have ou : Afh (Ds (Dg r)) 0 = false := by rw [hf2,ah_ b9]; rfl
    have hV : Gj g r = (!r.var || (decide (Int.ofNat r.parts.length = 1) && decide (Int.ofNat (Dg r).length = 0))) := (if_neg (by rw [h1]; simp)).trans (if_neg (by rw [ou]; simp))
    have hV' : Gj g r = (!r.var || (decide (Int.ofNat r.parts.length = 1) && decide (Int.ofNat (Ds (Dg r)).length = 0))) := by rw [hV,hsl]
    refine G7 ?_
    rcases al_ (!r.var) with hg | hg
    ·iterate 9 refine Gn hg ?_
     refine O1 (E5 rfl hg rfl) ?_;refine G2 ?_
     exact (hno true (by rw [hV',hg]; rfl)).sub ⟨rfl,trivial⟩
    ·iterate 5 refine Gn hg ?_
     rcases (al_ (decide (Int.ofNat r.parts.length = 1))).symm with h1l | h1l
     ·refine R0 rfl rfl rfl rfl (by rw [h1l]; rfl) rfl ?_
      refine R0 rfl rfl rfl rfl (by rw [h1l]; rfl) rfl ?_
      refine R0 rfl rfl rfl rfl (by rw [h1l]; rfl) rfl ?_
      refine On hg (Am rfl h1l rfl) (O1 (Am rfl hg rfl) ?_);refine G2 ?_
      exact (hno false (by rw [hV',hg,h1l]; rfl)).sub ⟨rfl,trivial⟩
     ·refine Zp rfl rfl rfl rfl (by rw [h1l]; rfl) noR rfl rfl (Ah (u := .pr (nx J + 1) 0) (cs := [v]) ldC rfl (hld _ hcs) rfl) ?_
      refine Zp rfl rfl rfl rfl (by rw [h1l]; rfl) noR rfl rfl (Em slC rfl em.lenA.1 em.lenA.2) ?_
      refine Zp rfl rfl rfl rfl (by rw [h1l]; rfl) noR rfl rfl (Lp (q := 0) okC rfl rfl) ?_
      refine On hg (E5 rfl h1l rfl) (O1 (Am rfl hg rfl) ?_);refine G2 ?_
      exact (hno (decide (Int.ofNat (Ds (Dg r)).length = 0)) (by rw [hV',hg,h1l]; rfl)).sub ⟨rfl,trivial⟩
end
section
open Go Go.Proofs
def Aan : List Str -> SM Bool -> Bool
 | [],_ => false
 | s :: r,m => (!Ade s || m.has s) || Aan r (m.put s true)
def N7 (g : Gr) : List Rl -> SM Bool -> Bool
 | [],_ => false
 | r :: l,m => (!Gj g r || m.has r.label) || N7 g l (m.put r.label true)
def Gk (g : Gr) : Int :=
 if ((decide ((32 : Int) < Int.ofNat g.sorts.length) || decide ((600 : Int) < Int.ofNat g.rules.length)) || g.rules.any (fun r => decide ((200 : Int) < Int.ofNat r.parts.length))) = true then 4
 else if Aan g.sorts [] = true then 151 else if N7 g g.rules [] = true then 151 else 0
structure GrB (g : Gr) : Prop where
 s : g.sorts.length < 1000000
 r : g.rules.length < 1000000
 p : ∀ r ∈ g.rules,r.parts.length < 1000000
theorem f63 (g : Gr) (J : Sto) (hB : GrB g) : Cv 63 [grV g] J (iV (Gk g)) := by
 refine Ak Tryz.func63 rfl rfl fun hw hu0 => ?_
 have hbs := hB.s;have hbr := hB.r
 iterate 17 refine G ?_
 refine TOr 4 ?_ (fun hg => ?_) ?_
 rotate_left
 ·iterate 4 refine Gn hg ?_
  exact Ez
 refine G ?_;refine TOr 4 ?_ (fun hg => ?_) ?_
 rotate_left
 ·iterate 3 refine Gn hg ?_
  refine Bg rfl rfl rfl (by rw [hg]; rfl) rfl rfl rfl rfl (f80 (fun r => decide ((200 : Int) < Int.ofNat r.parts.length)) g.rules 79 [] J (by have := hB.r; omega) (fun r _ => f79 r J)) ?_
  exact Ez
 refine G ?_;refine Ab rfl ?_ ?_ <;> intro h1
 ·refine G4 ?_;have hE : Gk g = 4 := (if_pos h1);refine G ?_;exact ⟨_,rfl,_,J,as_ hw dv_,nl,.same rfl,congrArg iV hE.symm,rfl⟩
 ·refine G3 ?_;refine O1 (Kl Uh) ?_;refine G11 ?_
  refine Bh g.sorts.length (fun i0 => [(1,.pv [Aj g.sorts,slV eR 4 g.rules]),(4,.mp (nx J)),(27,Aj g.sorts),(28,iV (.ofNat g.sorts.length)),(29,iV (.ofNat i0))]) (fun i0 J0 => ∃ m,Eo J0 (nx J) m /\ nx J <= nx J0 /\ (∀ b,b < nx J -> J0.get b = J.get b) /\ Aan g.sorts [] = Aan (g.sorts.drop i0) m) SL ⟨[],⟨0,by rw [ab_,if_pos rfl]; rfl⟩,by rw [Ac]; omega,fun b hb => by rw [ab_,if_neg Om],rfl⟩ ?_
  rintro i0 J0 hi0 ⟨m,hm0,hn0,hg0,hf0⟩;refine G5 ?_;refine Ab rfl ?_ ?_ <;> intro h2
  ·have bc : i0 < g.sorts.length := by simpa using h2
   obtain ⟨a0,ha0⟩ := A3 bc;have hd0 := Av ha0;obtain ⟨vm,hvm⟩ := id hm0
   iterate 13 refine G ?_
   refine Af rfl rfl rfl rfl (f81 a0 _) ?_;refine G2 ?_;refine TOr 3 ?_ (fun hg => ?_) ?_
   rotate_left
   ·iterate 2 refine Gn hg ?_
    refine On hg (Cr st9 Uh rfl hm0 rfl) ?_;exact Ez
   refine G ?_;refine Ab rfl ?_ ?_ <;> intro h3
   ·refine G4 ?_
    have hE : Gk g = 151 := ((if_neg (fun hh => Bool.noConfusion (h1.symm.trans hh))).trans (if_pos (by rw [hf0,hd0,Aan,show (!Ade a0 || m.has a0) = true from h3]; rfl)))
    refine G ?_;exact ⟨_,rfl,_,J,as_ hw ⟨hn0,hg0⟩,nl,.same rfl,congrArg iV hE.symm,rfl⟩
   ·refine G4 ?_
    refine O1 (Ec (v := true) st9 Uh rfl hvm rfl rfl (fun te k1 k2 => by first | exact Ex k1 k2 | exact Ey k1 k2 | exact Fc k1 k2 | exact Fe k1 k2 | exact E1 k1 k2 rfl)) ?_
    refine G5 ?_
    refine ⟨bc,SL,m.put a0 true,dj_,by rw [Ae]; exact hn0,fun b hb => by rw [a_,if_neg Om]; exact hg0 b hb,by rw [hf0,hd0,Aan,show (!Ade a0 || m.has a0) = false from h3]; rfl⟩
  ·have bm : g.sorts.length <= i0 := by simpa using h2
   have hs1 : Aan g.sorts [] = false := by rw [hf0,ah_ bm]; rfl
   obtain ⟨vm,hvm⟩ := id hm0;refine G4 ?_;refine O1 (Amj Uh rfl hvm) ?_;refine G10 ?_
   refine Bh g.rules.length (fun i2 => [(1,.pv [Aj g.sorts,slV eR 4 g.rules]),(4,.mp (nx J)),(46,slV eR 4 g.rules),(47,iV (.ofNat g.rules.length)),(48,iV (.ofNat i2))]) (fun i2 J2 => ∃ m,Eo J2 (nx J) m /\ nx J <= nx J2 /\ (∀ b,b < nx J -> J2.get b = J.get b) /\ N7 g g.rules [] = N7 g (g.rules.drop i2) m) SL ⟨[],⟨vm + 1,by rw [a_,if_pos rfl]; rfl⟩,by rw [Ae]; exact hn0,fun b hb => by rw [a_,if_neg Om]; exact hg0 b hb,rfl⟩ ?_
   rintro i2 J2 hi2 ⟨m2,hm2,hn2,hg2,hf2⟩;refine G5 ?_;refine Ab rfl ?_ ?_ <;> intro h3
   ·have bz : i2 < g.rules.length := by simpa using h3
    obtain ⟨a2,ha2⟩ := A3 bz;have hd2 := Av ha2;obtain ⟨vm2,oh⟩ := id hm2
    iterate 14 refine G ?_
    refine Af rfl rfl rfl rfl (f82 a2 g _ (hB.p a2 (af_ ha2)) hB.s) ?_;refine G2 ?_;refine TOr 4 ?_ (fun hg => ?_) ?_
    rotate_left
    ·iterate 3 refine Gn hg ?_
     refine On hg (Cr st9 Uh rfl hm2 rfl) ?_;exact Ez
    refine G ?_;refine Ab rfl ?_ ?_ <;> intro h4
    ·refine G4 ?_
     have hE : Gk g = 151 := ((if_neg (fun hh => Bool.noConfusion (h1.symm.trans hh))).trans ((if_neg (by rw [hs1]; simp)).trans (if_pos (by rw [hf2,hd2,N7,show (!Gj g a2 || m2.has a2.label) = true from h4]; rfl))))
     refine G ?_;exact ⟨_,rfl,_,J,as_ hw ⟨hn2,hg2⟩,nl,.same rfl,congrArg iV hE.symm,rfl⟩
    ·refine G5 ?_
     refine O1 (Ec (v := true) st9 Uh rfl oh rfl rfl (fun te k1 k2 => by first | exact Ex k1 k2 | exact Ey k1 k2 | exact Fc k1 k2 | exact Fe k1 k2 | exact E1 k1 k2 rfl)) ?_
     refine G5 ?_
     refine ⟨bz,SL,m2.put a2.label true,dj_,by rw [Ae]; exact hn2,fun b hb => by rw [a_,if_neg Om]; exact hg2 b hb,by rw [hf2,hd2,N7,show (!Gj g a2 || m2.has a2.label) = false from h4]; rfl⟩
   ·have b9 : g.rules.length <= i2 := by simpa using h3
    have hs2 : N7 g g.rules [] = false := by rw [hf2,ah_ b9]; rfl
    refine G5 ?_
    have hE : Gk g = 0 := ((if_neg (fun hh => Bool.noConfusion (h1.symm.trans hh))).trans ((if_neg (by rw [hs1]; simp)).trans (if_neg (by rw [hs2]; simp))))
    refine G ?_;exact ⟨_,rfl,_,J,as_ hw ⟨hn2,hg2⟩,nl,.same rfl,congrArg iV hE.symm,rfl⟩
end
section
open Go
def Au (l : List Rl) (s : Str) : Option Rl := l.find? fun r => decide (r.label = s)
def Abz (l : List Rl) (s : Str) : Bool := match Au l s with | some r => r.var | none => false
def Kw (r : Rl) : Nat := (r.parts.filter fun p => !decide (p.sort = [])).length
def Io (l : List (Option Str)) (ps : List Pt) : Bool := ps.all fun p => decide (p.sort = []) || decide (l[p.arg.toNat]? = some (some p.sort))
mutual
def Bm (g : List Rl) : As -> Option Str
 | .node s ks => match Au g s with
  | some r => if (Io (Py g ks) r.parts && decide (Kw r = ks.length)) = true then some r.sort else none
  | none => none
def Py (g : List Rl) : List As -> List (Option Str)
 | [] => []
 | t :: r => Bm g t :: Py g r
end
theorem Vz (g : List Rl) : ∀ l : List As,Py g l = l.map (Bm g)
 | [] => rfl
 | t :: r => by rw [Py,Vz g r]; rfl
mutual
def C9 (g : List Rl) : As -> List Str -> List Str
 | .node s ks,acc => Ur g ks (if (Abz g s && !acc.any fun x => decide (s = x)) = true then acc ++ [s] else acc)
def Ur (g : List Rl) : List As -> List Str -> List Str
 | [],acc => acc
 | t :: r,acc => Ur g r (C9 g t acc)
end
mutual
def ocT (s : Str) : As -> Bool
 | .node l ks => decide (l = s) || ocL s ks
def ocL (s : Str) : List As -> Bool
 | [] => false
 | t :: r => ocT s t || ocL s r
end
mutual
theorem Q0 {g : List Rl} {v : Str} : ∀ (t : As) (acc : List Str),v ∈ C9 g t acc ↔ v ∈ acc ∨ (Abz g v = true /\ ocT v t = true)
 | .node s ks,acc => by
  unfold C9 ocT;rw [Adf ks]
  by_cases h : (Abz g s && !acc.any fun x => decide (s = x)) = true
  ·rw [if_pos h];simp only [ae_] at h;simp only [bq_,an_,bh_,decide_eq_true_eq]
   constructor
   ·rintro ((h1 | rfl) | ⟨h1,h2⟩)
    ·exact .inl h1
    ·exact .inr ⟨h.1,.inl rfl⟩
    ·exact .inr ⟨h1,.inr h2⟩
   ·rintro (h1 | ⟨h1,rfl | h2⟩)
    ·exact .inl (.inl h1)
    ·exact .inl (.inr rfl)
    ·exact .inr ⟨h1,h2⟩
  ·rw [if_neg h];simp only [bh_,decide_eq_true_eq]
   constructor
   ·rintro (h1 | ⟨h1,h2⟩)
    ·exact .inl h1
    ·exact .inr ⟨h1,.inr h2⟩
   ·rintro (h1 | ⟨h1,rfl | h2⟩)
    ·exact .inl h1
    ·simp only [ae_,h1,true_and,bl_,Bool.not_eq_false] at h;rw [ev_] at h;obtain ⟨x,hx,he⟩ := h;rw [of_decide_eq_true he]; exact .inl hx
    ·exact .inr ⟨h1,h2⟩
theorem Adf {g : List Rl} {v : Str} : ∀ (l : List As) (acc : List Str),v ∈ Ur g l acc ↔ v ∈ acc ∨ (Abz g v = true /\ ocL v l = true)
 | [],acc => by unfold Ur ocL; simp
 | t :: r,acc => by
  unfold Ur ocL;rw [Adf r,Q0 t];simp only [bh_]
  constructor
  ·rintro ((h | ⟨h1,h2⟩) | ⟨h1,h2⟩)
   ·exact .inl h
   ·exact .inr ⟨h1,.inl h2⟩
   ·exact .inr ⟨h1,.inr h2⟩
  ·rintro (h | ⟨h1,h2 | h2⟩)
   ·exact .inl (.inl h)
   ·exact .inl (.inr ⟨h1,h2⟩)
   ·exact .inr ⟨h1,h2⟩
end
structure Apm (g : List Rl) : Prop where
 va : ∀ r ∈ g,r.var = true -> Kw r = 0
 cov : ∀ r ∈ g,∀ j,j < Kw r -> ∃ p ∈ r.parts,p.sort ≠ [] /\ p.arg = Int.ofNat j
theorem Hf {g : List Rl} {s : Str} {r : Rl} (h : Au g s = some r) : r ∈ g := List.mem_of_find?_eq_some h
def atF (n : Int) (l : List Int) : Int := l.foldl (fun a v => a * n + v) 0
theorem Afi (n : Int) (l : List Int) (v : Int) : atF n (l ++ [v]) = atF n l * n + v := by unfold atF; rw [dp_]; rfl
theorem Adg {n : Int} (hn : 1 <= n) (l : List Int) : (∀ v ∈ l,0 <= v /\ v < n) -> 0 <= atF n l /\ atF n l < n ^ l.length := by
 suffices h : ∀ m : List Int,(∀ v ∈ m.reverse,0 <= v /\ v < n) -> 0 <= atF n m.reverse /\ atF n m.reverse < n ^ m.length by
  intro hl
  have := h l.reverse (by rw [List.reverse_reverse]; exact hl)
  rwa [List.reverse_reverse,List.length_reverse] at this
 intro m
 induction m with
 | nil => intro _; simp [atF]
 | cons v m ih =>
  intro hm;rw [dd_] at hm ⊢;rw [Afi,ap_,Int.pow_succ]
  obtain ⟨h1,h2⟩ := ih fun y hy => hm y (by simp [List.mem_reverse.1 hy])
  obtain ⟨h3,h4⟩ := hm v (by simp)
  have h5 : 0 <= atF n m.reverse * n := Int.mul_nonneg h1 Om;have h6 : (atF n m.reverse + 1) * n <= n ^ m.length * n := Int.mul_le_mul_of_nonneg_right Om Om;rw [Int.add_mul,Int.one_mul] at h6
  exact ⟨by omega,by omega⟩
end
section
open Go Go.Proofs
theorem Adh : ∀ {l : List Int} {i : Nat},Afh l i = false -> ∀ j,j < l.length -> l[j]? = some (Int.ofNat (i + j))
 | [],_,_,j,hj => by simp at hj
 | a :: r,i,h,j,hj => by
  unfold Afh at h;simp only [cv_,fi_,decide_eq_true_eq] at h;cases j with
  | zero => simp [h.1]
  | succ j =>
   have := Adh h.2 j (by simpa using hj)
   simp only [bi_,this]
   congr 2; omega
theorem Adi (r : Rl) : (Dg r).length = Kw r := by unfold Dg Hn Kw Uq; simp
theorem Sv {g : Gr} {r : Rl} (h : Gj g r = true) : (r.var = true -> Kw r = 0) /\ (∀ j,j < Kw r -> ∃ p ∈ r.parts,p.sort ≠ [] /\ p.arg = Int.ofNat j) /\ (∀ p ∈ r.parts,p.sort ≠ [] -> ∃ j : Nat,p.arg = Int.ofNat j /\ j < Kw r) := by
 unfold Gj at h
 split at h
 ·cases h
 ·split at h
  ·cases h
  ·rename_i hb
   rw [Bool.not_eq_true] at hb;have hs := Adh hb
   have bn : (Ds (Dg r)).length = Kw r := by rw [Qz,Adi]
   have cd : ∀ x,x ∈ Ds (Dg r) ↔ x ∈ Dg r := fun x => (List.mergeSort_perm _ _).mem_iff
   refine ⟨fun hv => ?_,fun j hj => ?_,fun p hp hps => ?_⟩
   ·rw [hv] at h;simp only [Bool.not_true,Bool.false_or,ae_,decide_eq_true_eq] at h;rw [← Adi]; simpa using h.2
   ·have h1 := hs j (by rw [bn]; exact hj)
    have h2 := (cd _).1 (af_ h1);unfold Dg at h2;obtain ⟨p,hp,he⟩ := cf_.1 h2;unfold Hn at hp;rw [cx_] at hp
    exact ⟨p,hp.1,by simpa [Uq] using hp.2,by rw [he,be_]⟩
   ·have h2 : p.arg ∈ Dg r := by
     unfold Dg Hn
     exact ck_ (cx_.2 ⟨hp,by simpa [Uq] using hps⟩)
    obtain ⟨j,hj⟩ := List.getElem?_of_mem ((cd _).2 h2);have hlt := (ad_.1 hj).1;have h1 := hs j hlt;rw [hj] at h1
    exact ⟨j,by simpa using h1,by rw [← bn]; exact hlt⟩
theorem Aao {g : Gr} : ∀ {l : List Rl} {m : SM Bool},N7 g l m = false -> (∀ r ∈ l,Gj g r = true) /\ (l.map (·.label)).Nodup /\ ∀ r ∈ l,m.has r.label = false
 | [],m,_ => ⟨by simp,by simp,by simp⟩
 | r :: l,m,h => by
  unfold N7 at h;simp only [cv_,fi_] at h;obtain ⟨⟨h1,h2⟩,h3⟩ := h;obtain ⟨k1,k2,k3⟩ := Aao h3
  have k4 : ∀ x ∈ l,x.label ≠ r.label /\ m.has x.label = false := fun x hx => by
   have := k3 x hx;rw [SM.has_put] at this;simp only [cv_,decide_eq_false_iff_not] at this;exact this
  refine ⟨by simp only [ai_,forall_eq_or_imp]; exact ⟨h1,k1⟩,?_,by simp only [ai_,forall_eq_or_imp]; exact ⟨h2,fun x hx => (k4 x hx).2⟩⟩
  simp only [cd_,ff_];refine ⟨fun hh => ?_,k2⟩
  obtain ⟨x,hx,he⟩ := cf_.1 hh;exact (k4 x hx).1 he
structure GOk (g : Gr) : Prop where
 rs : Apm g.rules
 nd : (g.rules.map (·.label)).Nodup
 arg : ∀ r ∈ g.rules,∀ p ∈ r.parts,p.sort ≠ [] -> ∃ j : Nat,p.arg = Int.ofNat j /\ j < Kw r
 len : g.rules.length <= 600
 prt : ∀ r ∈ g.rules,r.parts.length <= 200
theorem Am6 {g : Gr} (h : Gk g = 0) : GOk g := by
 unfold Gk at h
 split at h
 ·cases h
 ·rename_i h0
  split at h
  ·cases h
  ·split at h
   ·cases h
   ·rename_i hb
    rw [Bool.not_eq_true] at hb;obtain ⟨k1,k2,_⟩ := Aao hb;simp only [bh_,decide_eq_true_eq,ev_,not_or,not_exists,not_and,aj_] at h0
    exact ⟨⟨fun r hr => (Sv (k1 r hr)).1,fun r hr => (Sv (k1 r hr)).2.1⟩,k2,fun r hr => (Sv (k1 r hr)).2.2,by have := h0.1.2; omega,fun r hr => by have := h0.2 r hr; omega⟩
theorem Aap {l : List Rl} {s : Str} : (Ap (fun r => decide (r.label = s)) l 0 = -1 /\ Au l s = none) ∨ ∃ n r,Ap (fun r => decide (r.label = s)) l 0 = Int.ofNat n /\ l[n]? = some r /\ Au l s = some r := by
 have key : ∀ (l : List Rl) (i : Nat),(Ap (fun r => decide (r.label = s)) l i = -1 /\ Au l s = none) ∨ ∃ n r,Ap (fun r => decide (r.label = s)) l i = Int.ofNat (i + n) /\ l[n]? = some r /\ Au l s = some r := by
  intro l
  induction l with
  | nil => intro i; exact .inl ⟨rfl,rfl⟩
  | cons r l ih =>
   intro i;unfold Ap Au;rw [List.find?_cons]
   by_cases h : r.label = s
   ·rw [decide_eq_true h];exact .inr ⟨0,r,rfl,rfl,rfl⟩
   ·rw [decide_eq_false h]
    rcases ih (i + 1) with ⟨h1,h2⟩ | ⟨n,x,h1,h2,h3⟩
    ·exact .inl ⟨h1,h2⟩
    ·exact .inr ⟨n + 1,x,by rw [cond_false,h1]; congr 1; omega,h2,h3⟩
 rcases key l 0 with h | ⟨n,r,h1,h2,h3⟩
 ·exact .inl h
 ·exact .inr ⟨n,r,by rw [h1,be_],h2,h3⟩
def Eg : List Rl -> Nat -> SM Nat -> SM Nat
 | [],_,m => m
 | r :: l,i,m => Eg l (i + 1) (m.put r.label i)
theorem Aaq {s : Str} : ∀ {l : List Rl} {i : Nat} {m : SM Nat},(l.map (·.label)).Nodup -> (∀ r ∈ l,m.get r.label = none) ->
  (Au l s = none -> (Eg l i m).get s = m.get s) /\ ∀ r,Au l s = some r -> ∃ j,(Eg l i m).get s = some (i + j) /\ l[j]? = some r
 | [],i,m,_,_ => ⟨fun _ => rfl,fun r h => by cases h⟩
 | x :: l,i,m,hn,hm => by
  simp only [cd_,ff_] at hn
  have hm' : ∀ r ∈ l,(m.put x.label i).get r.label = none := fun r hr => by
   rw [cc_,if_neg (fun he => hn.1 (by rw [← he]; exact ck_ hr))]
   exact hm r (by simp [hr])
  obtain ⟨k1,k2⟩ := Aaq (s := s) (i := i + 1) (m := m.put x.label i) hn.2 hm';unfold Au;rw [List.find?_cons];unfold Eg
  by_cases h : x.label = s
  ·rw [decide_eq_true h]
   have hno : Au l s = none := by
    unfold Au;rw [List.find?_eq_none];intro r hr hh
    exact hn.1 (by rw [h,← of_decide_eq_true hh]; exact ck_ hr)
   refine ⟨fun hh => (by cases hh),fun r hr => ⟨0,?_,(by cases hr; rfl)⟩⟩
   rw [k1 hno,cc_,if_pos h.symm]; rfl
  ·rw [decide_eq_false h];refine ⟨fun hh => ?_,fun r hr => ?_⟩
   ·rw [k1 hh,cc_,if_neg (fun he => h he.symm)]
   ·obtain ⟨j,h1,h2⟩ := k2 r hr
    exact ⟨j + 1,by rw [h1]; congr 1; omega,h2⟩
end
section
open Go Go.Proofs
def Ce (n m : Int) : Nat -> Int -> Int
 | 0,c => c
 | k + 1,c => if decide (m < c * n) = true then m + 1 else Ce n m k (c * n)
theorem Adj {n m : Int} : ∀ {k : Nat} {c : Int},Ce n m k c <= m -> Ce n m k c = c * n ^ k
 | 0,c,_ => by simp [Ce]
 | k + 1,c,h => by
  unfold Ce at h ⊢
  split at h
  ·omega
  ·rename_i h1
   rw [if_neg h1,Adj h,Int.pow_succ,Int.mul_assoc,Int.mul_comm n]
def axR (g : List Rl) : List Rl := g.filter fun r => !r.var
end
section
open Go Go.Proofs
theorem f48 (p : Int -> Bool) (l : List Int) (k : Nat) (cap : List AV) (J : Sto) (hb : l.length < 4611686018427387904) (hk : ∀ a ∈ l,Aq Ew k ([iV a] ++ cap) J fun v J' => v = .bool (p a) /\ J' = J) :
  Cv 48 [slV eI 1 l,.fn (.func k) [] cap] J (iV (Ap p l 0)) := by
 refine Ak Tryz.func48 rfl rfl fun hw hu => ?_
 refine G12 ?_;refine Bh l.length (fun i => [(0,slV eI 1 l),(1,.fn (.func k) [] cap),(7,iV (.ofNat l.length)),(8,iV (.ofNat i))]) (fun i J' => J' = J /\ Ap p l 0 = Ap p (l.drop i) i) SL ⟨rfl,rfl⟩ ?_
 rintro i J' hi ⟨rfl,hf⟩;refine G5 ?_;refine Ab rfl ?_ ?_ <;> intro h
 ·have hlt : i < l.length := by simpa using h
  obtain ⟨a,ha⟩ : ∃ a,l[i]? = some a := ⟨_,ao_ hlt⟩
  have hd : l.drop i = a :: l.drop (i + 1) := by
   obtain ⟨h1,rfl⟩ := ad_.1 ha;exact ay_ h1
  iterate 15 refine G ?_
  refine Bu rfl rfl rfl rfl (hk a (af_ ha)) ?_;rintro _ _ ⟨rfl,rfl⟩;refine G ?_;refine Ab rfl (fun h' => ?_) (fun h' => ?_)
  ·refine G6 ?_;refine ⟨_,rfl,iV (.ofNat i),_,ag_ hw nl (fun _ _ => rfl),nl,.same rfl,?_,rfl⟩
   rw [hf,hd]; simp only [Ap,h',cond_true]
  ·refine G2 ?_;refine O1 (Ek (p := i) (q := 1) okC rfl rfl Om) ?_;refine G2 ?_;refine ⟨hlt,SL,rfl,?_⟩;rw [hf,hd]; simp only [Ap,h',cond_false]
 ·have hge : l.length <= i := by simpa using h
  refine G6 ?_;refine ⟨_,rfl,iV (-1),_,ag_ hw nl (fun _ _ => rfl),nl,.same rfl,?_,rfl⟩
  rw [hf,ah_ hge]; rfl
theorem f29 (p : Int -> Bool) (l : List Int) (k : Nat) (cap : List AV) (J : Sto) (hb : l.length < 4611686018427387904) (hk : ∀ a ∈ l,Aq Ew k ([iV a] ++ cap) J fun v J' => v = .bool (p a) /\ J' = J) :
  Cv 29 [slV eI 1 l,.fn (.func k) [] cap] J (.bool (l.any p)) := by
 refine Ak Tryz.func29 rfl rfl fun hw _ => ?_
 refine G8 ?_;refine Bu rfl rfl rfl rfl (f48 p l k cap J hb hk) ?_;rintro _ _ ⟨rfl,rfl⟩;refine G4 ?_;refine A2 hw rfl ?_;exact congrArg AV.bool (D2 l)
end
section
open Go Go.Proofs
theorem Q2 {E : Env} {ρ : Ad} {J : Sto} {Rr : Rec} {t ty : Nat} {x y : Operand} {p q : Int} (hi : okI E.P t = true) (hx : Ai E ρ x = some (.int .i64 p)) (hy : Ai E ρ y = some (.int .i64 q)) (h1 : -9223372036854775808 <= p * q) (h2 : p * q < 9223372036854775808) :
  A0 E Rr (.binOp .mul t x y ty) ρ J (iV (p * q)) J := Lo hi hx hy (by simp only [Gq,Vq h1 h2]; rfl)
theorem f87 (r : Rl) (s : Str) (J : Sto) : Cv 87 [.agg (eR r),.pv [sV s]] J (.bool (decide (r.label = s))) := by
 refine Ak Tryz.func87 rfl rfl fun hw hu0 => ?_
 iterate 14 refine G ?_
 refine A2 hw rfl ?_
 rfl
theorem f70 (g : Gr) (s : Str) (J : Sto) (hb : g.rules.length < 1000000) : Cv 70 [grV g,sV s] J (iV (Ap (fun r => decide (r.label = s)) g.rules 0)) := by
 refine Ak Tryz.func70 rfl rfl fun hw hu0 => ?_
 refine G11 ?_;refine Af rfl rfl rfl rfl (f86 (fun r => decide (r.label = s)) g.rules 87 [.pv [sV s]] _ Om (fun a _ => f87 a s _)) ?_
 refine G3 ?_;refine A2 hw rfl ?_
 rfl
end
section
open Go Go.Proofs
theorem Pz (r : Rl) : (eR r).length = 4 := rfl
def zRl : Rl := ⟨[],[],[],false⟩
def Gx (l : List Rl) (s : Str) : Rl := (Au l s).getD zRl
theorem Apn {J τ : Sto} : FzL J τ [.str [],.str [],.nil (.slice none 0 0),.bool false] (eR zRl) := .cons (.same rfl) (.cons (.same rfl) (.cons Dd (.cons (.same rfl) .nil)))
theorem f51 (g : Gr) (s : Str) (J : Sto) (hb : g.rules.length < 1000000) : Cv 51 [grV g,sV s] J (.agg (eR (Gx g.rules s))) := by
 refine Ak Tryz.func51 rfl rfl fun hw hu0 => ?_
 refine G3 ?_;refine O1 (B6 ziC) ?_;refine G6 ?_;refine Af rfl rfl rfl rfl (f70 g s _ hb) ?_;refine G7 ?_;refine Ab rfl ?_ ?_ <;> intro h1
 ·obtain ⟨n,r,e1,e2,e3⟩ : ∃ n r,Ap (fun r => decide (r.label = s)) g.rules 0 = Int.ofNat n /\ g.rules[n]? = some r /\ Au g.rules s = some r := by
   rcases Aap (l := g.rules) (s := s) with ⟨e1,_⟩ | h
   ·rw [e1] at h1; exact absurd h1 (by decide)
   ·exact h
  rw [e1];refine G6 ?_
  refine O1 (Ah ldC rfl rfl (B4 (Pz r) _)) (O1 (F3 (a := nx J) (off := 0) (cs := [.str [],.str [],.nil (.slice none 0 0),.bool false]) (cs' := eR r) (by rw [ab_,if_pos rfl]) ldC rfl rfl rfl rfl) ?_)
  refine G2 ?_
  exact ⟨[.agg (eR r)],Cy (ldC (t := 100)) rfl (by simp only [Sto.cells]; rw [a_,if_pos rfl]) rfl rfl,_,J,as_ hw ⟨by rw [Ae,Ac]; omega,fun b hb => by rw [a_,if_neg Om,ab_,if_neg Om]⟩,nl,.same (Lg r),by unfold Gx; rw [e3]; rfl,rfl⟩
 ·have e0 : Au g.rules s = none := by
   rcases Aap (l := g.rules) (s := s) with ⟨_,e⟩ | ⟨n,r,e1,_⟩
   ·exact e
   ·rw [e1] at h1; exact absurd h1 (by simp)
  refine G4 ?_
  refine O1 (F3 (a := nx J) (off := 0) (cs := [.str [],.str [],.nil (.slice none 0 0),.bool false]) (cs' := [.str [],.str [],.nil (.slice none 0 0),.bool false]) (by rw [ab_,if_pos rfl]) ldC rfl rfl rfl rfl) ?_
  refine G2 ?_
  exact ⟨[.agg [.str [],.str [],.nil (.slice none 0 0),.bool false]],Cy (ldC (t := 100)) rfl (by simp only [Sto.cells]; rw [a_,if_pos rfl]) rfl rfl,_,J,as_ hw ⟨by rw [Ae,Ac]; omega,fun b hb => by rw [a_,if_neg Om,ab_,if_neg Om]⟩,nl,.agg Apn,by unfold Gx; rw [e0]; rfl,rfl⟩
end
section
open Go Go.Proofs
section
variable {E : Env} {ρ : Ad} {J : Sto} {Rr : Rec} {t t' : Nat} {x : Operand} {v z : AV}
def coI (P : Program) (t : Nat) : Option (Option AV) := match Aw P t with
 | some ti => match ti.desc with
  | .interface _ => none
  | _ => some (Hr ti)
 | none => none
theorem Apo {o : Option AV} (hi : coI E.P t = some o) (hx : Ai E ρ x = some v) : A0 E Rr (.makeInterface t x) ρ J (.ifc t v) J := fun tm h => by
 unfold coI at hi
 split at hi
 ·rename_i ti hti
  simp only [opA,Ar,hti,h.opd hx]
  split at hi
  ·cases hi
  ·rename_i hd
   split
   ·rename_i hd2; exact absurd hd2 (hd _)
   ·rfl
 ·cases hi
theorem Ahq {s : Nat} {o : Option AV} (hi : coI E.P t = some o) (hx : Ai E ρ x = some (.ifc t v)) : A0 E Rr (.typeAssert x s t true) ρ J (.tup [v,.bool true]) J := fun tm h => by
 unfold coI at hi
 split at hi
 ·rename_i ti hti
  simp only [opA,Ar,hti,h.opd hx]
  split at hi
  ·cases hi
  ·rename_i hd
   split
   ·rename_i hd2; exact absurd hd2 (hd _)
   ·simp only [Mo,bm_]; rfl
 ·cases hi
theorem Am7 {s : Nat} (hi : coI E.P t = some (some z)) (hx : Ai E ρ x = some (.ifc t' v)) (hb : Nat.beq t' t = false) : A0 E Rr (.typeAssert x s t true) ρ J (.tup [z,.bool false]) J := fun tm h => by
 unfold coI at hi
 split at hi
 ·rename_i ti hti
  simp only [opA,Ar,hti,h.opd hx]
  split at hi
  ·cases hi
  ·rename_i hd
   split
   ·rename_i hd2; exact absurd hd2 (hd _)
   ·have hz : Hr ti = some z := ds_ hi;simp only [Mo,hb,hz]
 ·cases hi
end
theorem Asl : coI Ew.P 193 = some (some (.str [])) := Kr
theorem App : coI Ew.P 195 = some (some (.agg [.str [],.nil (.slice none 0 0)])) := Kr
end
section
open Go Go.Proofs
theorem Ho {ρ : Ad} {J : Sto} {Rr : Rec} {t n : Nat} {z : List AV} (hi : zI Ew.P t = some z) (hn : nx J = n) : A0 Ew Rr (.alloc t) ρ J (.pr n 0) (J.new (.cells z)) := by subst hn; exact B6 hi
def iN (n : Nat) : AV := iV (.ofNat n)
theorem Apq {te : TI} {n : Nat} {i : Nat} (_ : te.size = n) (h : te.isAgg = false) : Q6 te (iN i) = true := by unfold iN iV Q6; rw [h]; rfl
def H4 : List Hp -> Nat -> SM Nat -> SM Nat
 | [],_,m => m
 | h :: r,i,m => H4 r (i + 1) (m.put (txv h) i)
theorem Ahr : ∀ {l : List Hp} {n : Nat} {m : SM Nat},(∀ s i,m.get s = some i -> i < n) -> ∀ s i,(H4 l n m).get s = some i -> i < n + l.length
 | [],n,m,h,s,i,hs => by simpa using h s i hs
 | x :: r,n,m,h,s,i,hs => by
  have := Ahr (l := r) (n := n + 1) (m := m.put (txv x) n) (fun s i hh => by
   rw [cc_] at hh
   split at hh
   ·cases hh; omega
   ·have := h s i hh; omega) s i hs
  simp only [ap_]; omega
def Apr (hyps : List Hp) (i : Nat) : Str := match hyps[i]? with | some h => h.text.headD [] | none => []
def axP (args : SM Nat) (hyps : List Hp) : List Str -> SM Bool -> List Pt -> Option (List Pt)
 | [],_,ps => some ps
 | s :: r,met,ps => match args.get s with
  | none => axP args hyps r met (ps ++ [⟨s,[],0⟩])
  | some i => if met.has s = true then none else axP args hyps r (met.put s true) (ps ++ [⟨[],Apr hyps i,Int.ofNat i⟩])
def H5 (f : Fr) : Option Rl := match axP (H4 f.hyps 0 []) f.hyps (f.text.drop 1) [] [] with
 | none => none
 | some ps => some ⟨f.label,f.text.headD [],ps,false⟩
def axV : Option Rl -> AV
 | none => .tup [.agg (eR ⟨[],[],[],false⟩),.bool false]
 | some r => .tup [.agg (eR r),.bool true]
def zR : List AV := [.str [],.str [],.nil (.slice none 0 0),.bool false]
theorem f62 (f : Fr) (J : Sto) (t0 : Str) (hB : FrB f) (htx : ∃ tl,f.text = t0 :: tl) (hh : ∀ h ∈ f.hyps,∃ a b,h.text = [a,b]) : Cv 62 [.agg (eF f)] J (axV (H5 f)) := by
 refine Ak Tryz.func62 rfl rfl fun hw hu0 => ?_
 obtain ⟨tl,htx⟩ := htx;have hbh := hB.h;have hbt := hB.t
 have hbt1 : (f.text.drop 1).length < 1000000 := by rw [cz_]; omega
 refine G3 ?_;refine O1 (B6 ziC) ?_;refine G4 ?_;refine O1 (Bq (n := nx J + 1) Lu (nx1 rfl)) ?_;refine G10 ?_;have dz : nx ((J.new (.cells zR)).new (.map 9 [] 0)) = nx J + 2 /\ ((J.new (.cells zR)).new (.map 9 [] 0)).get (nx J) = some (.cells zR) /\ (∀ b,b < nx J -> ((J.new (.cells zR)).new (.map 9 [] 0)).get b = J.get b) /\ ∃ m,A8 iN ((J.new (.cells zR)).new (.map 9 [] 0)) (nx J + 1) m /\ H4 f.hyps 0 [] = H4 (f.hyps.drop 0) 0 m :=
  ⟨by rw [Ac,Ac],by rw [ab_,if_neg (by rw [Ac]; omega),ab_,if_pos rfl],fun b hb => by rw [ab_,if_neg (by rw [Ac]; omega),ab_,if_neg Om],[],⟨0,by rw [ab_,if_pos (by rw [Ac])]; rfl⟩,rfl⟩
 refine G ?_;refine Bh f.hyps.length (fun i0 => [(1,.pv (eF f)),(2,.pr (nx J) 0),(4,.mp (nx J + 1)),(15,slV eH 3 f.hyps),(16,iV (.ofNat f.hyps.length)),(17,iV (.ofNat i0))]) (fun i0 J0 => nx J0 = nx J + 2 /\ J0.get (nx J) = some (.cells zR) /\ (∀ b,b < nx J -> J0.get b = J.get b) /\ ∃ m,A8 iN J0 (nx J + 1) m /\ H4 f.hyps 0 [] = H4 (f.hyps.drop i0) i0 m) SL dz ?_
 rintro i0 J0 hi0 ⟨hn0,h20,hg0,m,hm0,hf0⟩;refine G5 ?_;refine Ab rfl ?_ ?_ <;> intro h1
 ·have bc : i0 < f.hyps.length := by simpa using h1
  obtain ⟨a0,ha0⟩ := A3 bc;have hd0 := Av ha0;obtain ⟨u0,u1,hux⟩ := hh a0 (af_ ha0);obtain ⟨vm,hvm⟩ := id hm0;refine G8 ?_;refine Ub ziC ldC rfl rfl (fun _ => rfl) rfl (fun _ => rfl) rfl rfl rfl rfl rfl ?_
  refine G5 ?_
  refine O1 (Bn elC (fun _ => rfl) rfl rfl (by rw [hux]; rfl : a0.text[1]? = some u1) (i := 1)) ?_
  refine G2 ?_;refine O1 (Ec (v := i0) (enc := iN) st9 Lu rfl hvm rfl rfl (fun te k1 k2 => Apq k1 k2)) ?_
  refine G5 ?_
  refine ⟨bc,SL,by rw [Ae]; exact hn0,by rw [a_,if_neg Om]; exact h20,fun b hb => by rw [a_,if_neg Om]; exact hg0 b hb,m.put u1 i0,dj_,by rw [hf0,hd0,H4,X9 hux]⟩
 ·have bm : f.hyps.length <= i0 := by simpa using h1
  have bg : H4 f.hyps 0 [] = m := by rw [hf0,ah_ bm]; rfl
  subst bg;refine G3 ?_;refine O1 (Bq (n := nx J + 2) Uh hn0) ?_;refine G3 ?_;refine Co fun hw5 => ?_
  refine XX 1 (l := []) trivial ?_;refine G4 ?_
  refine DF (Bn elC (fun _ => rfl) rfl rfl (by rw [htx]; rfl : f.text[0]? = some t0) (i := 0)) ?_
  refine G2 ?_
  refine DT (Ho (n := nx J + 3) ziC (nx1 hn0)) (DT (A6 (ad := nx J + 3) (off := 0) (vs := zR) (vs' := [sV f.label,sV t0,.nil (.slice none 0 0),.bool false]) (cs := [sV f.label,sV t0,.nil (.slice none 0 0),.bool false]) ldC rfl rfl rfl (by simp only [Sto.cells]; rw [ab_,if_pos (by rw [Ac,hn0])]; rfl) rfl) ?_)
  refine G ?_
  refine ⟨(by intro e he; simp at he; rcases he with rfl | rfl <;> first | exact .refl | exact H1 hw5),?_⟩
  refine G5 ?_
  refine O1 (Ae7 (enc := e1) elC (fun _ => rfl) rfl rfl (by rw [htx]; simp)) ?_
  refine G3 ?_
  have fm : ∃ met ps vp,(((J0.new (.map 9 [] 0)).new (.cells zR)).set (nx J + 3) (.cells [sV f.label,sV t0,.nil (.slice none 0 0),.bool false])).get (nx J + 3) = some (.cells [sV f.label,sV t0,vp,.bool false]) /\ Own (((J0.new (.map 9 [] 0)).new (.cells zR)).set (nx J + 3) (.cells [sV f.label,sV t0,.nil (.slice none 0 0),.bool false])) (nx J + 4) ePt 3 ps vp /\ Eo (((J0.new (.map 9 [] 0)).new (.cells zR)).set (nx J + 3) (.cells [sV f.label,sV t0,.nil (.slice none 0 0),.bool false])) (nx J + 2) met /\ A8 iN (((J0.new (.map 9 [] 0)).new (.cells zR)).set (nx J + 3) (.cells [sV f.label,sV t0,.nil (.slice none 0 0),.bool false])) (nx J + 1) (H4 f.hyps 0 []) /\ (((J0.new (.map 9 [] 0)).new (.cells zR)).set (nx J + 3) (.cells [sV f.label,sV t0,.nil (.slice none 0 0),.bool false])).get (nx J) = some (.cells zR) /\ (∀ b,b < nx J -> (((J0.new (.map 9 [] 0)).new (.cells zR)).set (nx J + 3) (.cells [sV f.label,sV t0,.nil (.slice none 0 0),.bool false])).get b = J.get b) /\ nx J + 4 <= nx (((J0.new (.map 9 [] 0)).new (.cells zR)).set (nx J + 3) (.cells [sV f.label,sV t0,.nil (.slice none 0 0),.bool false])) /\ ps.length <= 0 /\ axP (H4 f.hyps 0 []) f.hyps (f.text.drop 1) [] [] = axP (H4 f.hyps 0 []) f.hyps ((f.text.drop 1).drop 0) met ps := by
   have hlo : ∀ b,b < nx J + 2 -> (((J0.new (.map 9 [] 0)).new (.cells zR)).set (nx J + 3) (.cells [sV f.label,sV t0,.nil (.slice none 0 0),.bool false])).get b = J0.get b := fun b hb => by rw [a_,if_neg Om,ab_,if_neg (by rw [Ac,hn0]; omega),ab_,if_neg (by rw [hn0]; omega)]
   refine ⟨[],[],.nil (.slice none 0 0),by rw [a_,if_pos rfl],.nil,⟨0,?_⟩,hm0.of_get (hlo _ Om),(hlo _ Om).trans h20,fun b hb => (hlo b Om).trans (hg0 b hb),by rw [Ae,Ac,Ac,hn0]; exact nl,nl,rfl⟩
   rw [a_,if_neg Om,ab_,if_neg (by rw [Ac,hn0]; omega),ab_,if_pos hn0.symm]; rfl
  refine G ?_;refine Bh (f.text.drop 1).length (fun i2 => [(1,.pv (eF f)),(2,.pr (nx J) 0),(4,.mp (nx J + 1)),(7,.mp (nx J + 2)),(8,.pr (nx J + 3) 0),(39,slV e1 1 (f.text.drop 1)),(40,iV (.ofNat (f.text.drop 1).length)),(41,iV (.ofNat i2))]) (fun i2 J2 => ∃ met ps vp,J2.get (nx J + 3) = some (.cells [sV f.label,sV t0,vp,.bool false]) /\ Own J2 (nx J + 4) ePt 3 ps vp /\ Eo J2 (nx J + 2) met /\ A8 iN J2 (nx J + 1) (H4 f.hyps 0 []) /\ J2.get (nx J) = some (.cells zR) /\ (∀ b,b < nx J -> J2.get b = J.get b) /\ nx J + 4 <= nx J2 /\ ps.length <= i2 /\ axP (H4 f.hyps 0 []) f.hyps (f.text.drop 1) [] [] = axP (H4 f.hyps 0 []) f.hyps ((f.text.drop 1).drop i2) met ps) SL fm ?_
  rintro i2 J2 hi2 ⟨met,ps,vp,h8,br,hs2,hm2,h22,hg2,hn2,hpl,hf2⟩;refine G5 ?_;refine Ab rfl ?_ ?_ <;> intro h2
  ·have bz : i2 < (f.text.drop 1).length := by simpa using h2
   obtain ⟨a2,ha2⟩ := A3 bz;have hd2 := Av ha2;obtain ⟨vm,hvm⟩ := id hs2
   iterate 13 refine G ?_
   refine O1 (Qq (enc := iN) st9 Lu rfl hm2 rfl) ?_
   iterate 14 refine G ?_
   refine Ab rfl ?_ ?_ <;> intro h3
   ·have hna : (H4 f.hyps 0 []).get a2 = none := by simpa using h3
    have bo : (ps.length + [(⟨a2,[],0⟩ : Pt)].length) * (40 + 1) <= sizeLim := by have h11 := bz; rw [cz_] at h11; simp [sizeLim]; omega
    obtain ⟨v1,τ1,hap,ho1,hb1,_⟩ := ed_ (by' := 40) (enc := ePt) (sz := 3) (fun _ => rfl) hn2 br [(⟨a2,[],0⟩ : Pt)] bo
    have h8t : τ1.get (nx J + 3) = some (.cells [sV f.label,sV t0,vp,.bool false]) := (hb1.2 _ Om).trans h8;refine G3 ?_
    refine O1 (Ah (u := .pr (nx J + 3) 2) (cs := [vp,.bool false]) ldC rfl (by simp only [Cn,Sto.cells,h8]; rfl) rfl) ?_
    refine G2 ?_;refine Dz (Ay elC byW rfl rfl rfl) (Fk (len := 1)) rfl rfl (O1 (A1 elC rfl slC rfl rfl rfl (new := ePt (⟨a2,[],0⟩ : Pt)) rfl hap) ?_);refine G ?_
    refine O1 (A6 (ad := nx J + 3) (off := 2) (vs := [sV f.label,sV t0,vp,.bool false]) (vs' := [sV f.label,sV t0,v1,.bool false]) (cs := [v1]) ldC rfl rfl (Mf ho1) (by simp only [Sto.cells,h8t]) rfl) ?_
    refine G6 ?_
    refine ⟨bz,SL,met,ps ++ [(⟨a2,[],0⟩ : Pt)],v1,by rw [a_,if_pos rfl],ho1.mono (by rw [Ae]; exact nl) fun a tl _ h11 h12 _ => by rw [a_,if_neg Om],(hs2.of_get (hb1.2 _ Om)).set Om,(hm2.of_get (hb1.2 _ Om)).set Om,by rw [a_,if_neg Om,hb1.2 _ Om]; exact h22,fun b hb => by rw [a_,if_neg Om,hb1.2 b Om]; exact hg2 b hb,by rw [Ae]; exact bc_ hn2 hb1.1,by rw [aw_]; simp; omega,by rw [hf2,hd2,axP,hna]⟩
   ·obtain ⟨iA,hna⟩ : ∃ iA,(H4 f.hyps 0 []).get a2 = some iA := bp_.1 (by simpa using h3)
    have hlA : iA < f.hyps.length := by have := Ahr (l := f.hyps) (n := 0) (m := []) (fun _ _ h => by cases h) a2 iA hna; omega
    obtain ⟨hI,hIA⟩ := A3 hlA;obtain ⟨u0,u1,hux⟩ := hh hI (af_ hIA)
    rw [show ((SM.get (H4 f.hyps 0 []) a2).map iN).getD (.int .i64 0) = iN iA by rw [hna]; rfl]
    refine G4 ?_;refine O1 (Cr st9 Uh rfl hs2 rfl) ?_;refine G2 ?_;refine Ab rfl ?_ ?_ <;> intro h4
    ·refine G3 ?_
     refine O1 (A6 (ad := nx J) (off := 0) (vs := zR) (vs' := zR) (cs := zR) ldC rfl rfl rfl (by simp only [Sto.cells,h22]) rfl) ?_
     refine G2 ?_
     have hF : H5 f = none := by unfold H5; rw [hf2,hd2,axP,hna]; simp only []; rw [if_pos (show met.has a2 = true from h4)]
     refine G ?_
     exact ⟨[.agg zR,.bool false],Cy (ldC (t := 100)) rfl (by simp only [Sto.cells]; rw [a_,if_pos rfl]) rfl (En rfl rfl),axV none,J,as_ hw ⟨by rw [Ae]; omega,fun b hb => by rw [a_,if_neg Om]; exact hg2 b hb⟩,nl,.tup (.cons (.agg (.cons (.same rfl) (.cons (.same rfl) (.cons Dd (.cons (.same rfl) .nil))))) (.cons (.same rfl) .nil)),by rw [hF],rfl⟩
    ·have mh : Own (J2.set (nx J + 2) (.map 9 (B1 bV (met.put a2 true)) (vm + 1))) (nx J + 4) ePt 3 ps vp := br.mono (by rw [Ae]; exact nl) fun a tl _ h11 h12 _ => by rw [a_,if_neg Om]
     have h8' : (J2.set (nx J + 2) (.map 9 (B1 bV (met.put a2 true)) (vm + 1))).get (nx J + 3) = some (.cells [sV f.label,sV t0,vp,.bool false]) := by rw [a_,if_neg Om]; exact h8
     have bo : (ps.length + [(⟨[],u0,Int.ofNat iA⟩ : Pt)].length) * (40 + 1) <= sizeLim := by have h11 := bz; rw [cz_] at h11; simp [sizeLim]; omega
     obtain ⟨v1,τ1,hap,ho1,hb1,_⟩ := ed_ (by' := 40) (enc := ePt) (sz := 3) (fun _ => rfl) (by rw [Ae]; exact hn2) mh [(⟨[],u0,Int.ofNat iA⟩ : Pt)] bo
     have h8t : τ1.get (nx J + 3) = some (.cells [sV f.label,sV t0,vp,.bool false]) := (hb1.2 _ Om).trans h8';refine G5 ?_
     refine O1 (Ec (v := true) st9 Uh rfl hvm rfl rfl (fun te k1 k2 => by first | exact Ex k1 k2 | exact Ey k1 k2 | exact Fc k1 k2 | exact Fe k1 k2 | exact E1 k1 k2 rfl)) ?_
     refine G ?_;refine XS (l := []) trivial ?_;refine G ?_
     refine DF (Ah (u := .pr (nx J + 3) 2) (cs := [vp,.bool false]) ldC rfl (by simp only [Cn,Sto.cells,h8']; rfl) rfl) ?_
     refine G6 ?_
     refine DF (Bn elC (fun _ => rfl) rfl rfl (by rw [hux]; rfl : hI.text[0]? = some u0) (i := 0)) ?_
     refine G3 ?_;refine DF (Ay elC byW rfl rfl rfl) (DT (A1 elC rfl slC rfl rfl rfl (new := ePt (⟨[],u0,Int.ofNat iA⟩ : Pt)) rfl hap) ?_);refine G ?_
     refine DT (A6 (ad := nx J + 3) (off := 2) (vs := [sV f.label,sV t0,vp,.bool false]) (vs' := [sV f.label,sV t0,v1,.bool false]) (cs := [v1]) ldC rfl rfl (Mf ho1) (by simp only [Sto.cells,h8t]) rfl) ?_
     refine G5 ?_
     refine ⟨bz,SL,met.put a2 true,ps ++ [(⟨[],u0,Int.ofNat iA⟩ : Pt)],v1,by rw [a_,if_pos rfl],ho1.mono (by rw [Ae]; exact nl) fun a tl _ h11 h12 _ => by rw [a_,if_neg Om],A8.set (A8.of_get dj_ (hb1.2 _ Om)) Om,A8.set (A8.of_get (hm2.set Om) (hb1.2 _ Om)) Om,by rw [a_,if_neg Om,hb1.2 _ Om,a_,if_neg Om]; exact h22,fun b hb => by rw [a_,if_neg Om,hb1.2 b Om,a_,if_neg Om]; exact hg2 b hb,by rw [Ae]; exact bc_ (by rw [Ae]; exact hn2) hb1.1,by rw [aw_]; simp; omega,by rw [hf2,hd2,axP,hna]; simp only []; rw [if_neg (by rw [show met.has a2 = false from h4]; simp),Apr,hIA]; simp only [hux]; rfl⟩
  ·have b9 : (f.text.drop 1).length <= i2 := by simpa using h2
   have hax : axP (H4 f.hyps 0 []) f.hyps (f.text.drop 1) [] [] = some ps := by rw [hf2,ah_ b9]; rfl
   refine G3 ?_
   refine O1 (Ah (u := .pr (nx J + 3) 0) (cs := [sV f.label,sV t0,vp,.bool false]) ldC rfl (by simp only [Cn,Sto.cells,h8]; rfl) rfl) ?_
   refine O1 (A6 (ad := nx J) (off := 0) (vs := zR) (vs' := [sV f.label,sV t0,vp,.bool false]) (cs := [sV f.label,sV t0,vp,.bool false]) ldC rfl rfl rfl (by simp only [Sto.cells,h22]) rfl) ?_
   refine G2 ?_
   have hF : H5 f = some ⟨f.label,t0,ps,false⟩ := by unfold H5; rw [hax]; simp only [htx]; rfl
   refine G ?_
   exact ⟨[.agg [sV f.label,sV t0,vp,.bool false],.bool true],Cy (ldC (t := 100)) rfl (by simp only [Sto.cells]; rw [a_,if_pos rfl]) rfl (En rfl rfl),axV (some ⟨f.label,t0,ps,false⟩),J,as_ hw ⟨by rw [Ae]; omega,fun b hb => by rw [a_,if_neg Om]; exact hg2 b hb⟩,nl,.tup (.cons (.agg (.cons (.same rfl) (.cons (.same rfl) (.cons (br.mono (by rw [Ae]; exact nl) (fun a tl _ h11 h12 _ => by rw [a_,if_neg Om]) |>.fz (fun _ => rfl) (fun a ha => hw.none Om) (Br Aam _)) (.cons (.same rfl) .nil))))) (.cons (.same rfl) .nil)),by rw [hF],rfl⟩
end
section
open Go Go.Proofs
theorem f64r (l : List Str) (s : Str) (a : Nat) (tl : List AV) (J : Sto) (hg : J.get a = some (.cells (l.flatMap e1 ++ tl))) (hb : l.length < 1000000) : Cv 64 [.sr a 0 1 l.length none,sV s] J (iV (Ap (fun x => decide (s = x)) l 0)) := by
 refine Ak Tryz.func64 rfl rfl fun hw hu0 => ?_
 refine G8 ?_;refine O1 (Em slC rfl rfl rfl) ?_;refine G3 ?_;refine Bh l.length (fun i0 => [(0,.sr a 0 1 l.length none),(1,sV s),(7,iV (.ofNat l.length)),(8,iV (.ofNat i0))]) (fun i0 J0 => J0 = J /\ Ap (fun x => decide (s = x)) l 0 = Ap (fun x => decide (s = x)) (l.drop i0) i0) SL ⟨rfl,rfl⟩ ?_
 rintro i0 J0 hi0 ⟨rfl,hf0⟩;refine G5 ?_;refine Ab rfl ?_ ?_ <;> intro h1
 ·have bc : i0 < l.length := by simpa using h1
  obtain ⟨a0,ha0⟩ := A3 bc;have hd0 := Av ha0
  iterate 13 refine G ?_
  refine O1 (Is elC rfl rfl bc) (O1 (Sd (enc := e1) (v := sV a0) (fun _ => rfl) ldC rfl hg ha0 (fun _ => rfl)) ?_)
  refine G2 ?_;refine Ab rfl ?_ ?_ <;> intro h2
  ·refine G6 ?_;refine A2 hw rfl ?_
   exact (by rw [hf0,hd0]; simp only [Ap,show decide (s = a0) = true from h2,cond_true]; rfl)
  ·refine G5 ?_
   refine ⟨bc,SL,rfl,by rw [hf0,hd0]; simp only [Ap,show decide (s = a0) = false from h2,cond_false]⟩
 ·have bm : l.length <= i0 := by simpa using h1
  refine G6 ?_;refine A2 hw rfl ?_
  exact (by rw [hf0,ah_ bm]; rfl)
theorem f46r (l : List Str) (s : Str) (a : Nat) (tl : List AV) (J : Sto) (hg : J.get a = some (.cells (l.flatMap e1 ++ tl))) (hb : l.length < 1000000) : Cv 46 [.sr a 0 1 l.length none,sV s] J (.bool (l.any fun x => decide (s = x))) := by
 refine Ak Tryz.func46 rfl rfl fun hw hu0 => ?_
 refine G8 ?_;refine Af rfl rfl rfl rfl (f64r l s a tl _ hg hb) ?_;refine G4 ?_;refine A2 hw rfl ?_;exact congrArg AV.bool (D2 l)
theorem Aps {N : Nat} (l : List Str) (s : Str) (v : AV) (J : Sto) (h : Own J N e1 1 l v) (hb : l.length < 1000000) : Aq Ew 46 [v,sV s] J fun u J' => u = .bool (l.any fun x => decide (s = x)) /\ J' = J := by
 rcases h with ⟨rfl,rfl | rfl⟩ | ⟨a,tl,_,_,rfl,hg⟩
 ·exact (f46 [] s J (by simp)).wk (.cons Ae3 .refl)
 ·exact (f46 [] s J (by simp)).wk (.cons Fk .refl)
 ·exact f46r l s a tl J hg hb
end
end Go.AM
