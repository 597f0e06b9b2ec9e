/- A part of the proof; shortened by program. -/
import Derived.Test.YtcnkdbldfpaebaaGreatDoorP22
set_option maxRecDepth 100000
set_option maxHeartbeats 4000000
set_option linter.unusedSimpArgs false
set_option linter.unusedVariables false
namespace Go.AM
open Go Go.Proofs
theorem f138' : ∀ s J,Cv 138 [sV s] J (.bool (!Ei s)) := f138
theorem Aha {d : Db} (h : Et Ei d = 0) : (∀ f ∈ d.frames,∀ h ∈ f.all,h.floating = true -> ∃ a b,h.text = [a,b]) /\ (d.frames.length ≠ 0 -> ∀ s,Nr d d.frames 0 ([],[]) = some s -> ∀ v ∈ d.vars,(s.1.get v).isSome = true) :=
 ⟨fun f hf x hx hxf => ((Us h hf).1 x hx hxf).1,fun hn s hs v hv => (Acy h (fun e => hn (by rw [e]; rfl)) hs).2 v hv⟩
def Dt (d : Db) : Int := if Et Ei d = 0 then (if (Eu d).isSome = true then 0 else 13) else Et Ei d
def B2 (d : Db) : List Hp := if Et Ei d = 0 then (Eu d).getD [] else []
def Acz (s : Str) : Bool := !decide (s = []) && decide (Int.ofNat s.length <= 60)
def Ahb (ss : List Str) (p : Pt) : Bool := if p.sort = [] then (Acz p.symbol && decide (p.arg = 0)) else (decide (p.symbol = []) && decide (p.sort ∈ ss))
theorem f94 (s : Str) (J : Sto) : Cv 94 [sV s] J (.bool (Acz s)) := by
 refine Az Tryz.func94 rfl rfl fun hw hu0 => ?_
 refine Ac (Aa (OA rfl (Ab (Ac (Aa (OM rfl (O1 (Lx (q := []) ok9 rfl rfl) ?_)))))));refine OM rfl ?_;refine Cy 3 _ ?_ rfl rfl rfl rfl rfl (Aw rfl) (fun hg => ?_) (fun hg => ?_) ?_
 rotate_left
 ·refine On hg (Ag rfl) (On hg (Ya st9 rfl) (On hg (R4 (q := 60) ok3 rfl rfl) (Ab ?_)));refine ⟨rfl,?_,?_⟩
  ·exact sb
  ·exact rfl
 ·refine Of hg (Of hg (Of hg (Ab ?_)));exact ⟨rfl,sb⟩
 refine OA rfl (Ab ?_);refine An (Bq hw rfl ?_);exact rfl
theorem f68 (d : Db) (J : Sto) (hB : DbB d) : Cv 68 [dbV d] J (.tup [slV eH 3 (B2 d),iV (Dt d)]) := by
 refine Az Tryz.func68 rfl rfl fun hw hu0 => ?_
 refine Ac (Aa (Ar Hy rfl rfl rfl (OA rfl (OA rfl (Ab (Ac (Ac ?_)))))));refine Aa (O1 (Ae Hy rfl rfl rfl) (Ap rfl rfl rfl rfl (f90 Ei f138' d J hB) (OA rfl (Ab (Ac (Aa (OM rfl ?_)))))));refine O1 (Cx (q := 0) Jj rfl rfl) (Ab ?_);refine Ah rfl ?_ ?_ <;> intro h1
 ·refine Ac (Aa (OM rfl (OA rfl (OA rfl (Ab ?_)))))
  have hE : Dt d = Et Ei d := if_neg (by simpa using h1)
  have hL : B2 d = [] := if_neg (by simpa using h1)
  refine An ?_
  exact ⟨_,rfl,.tup [slV eH 3 (B2 d),iV (Dt d)],J,ag_ hw nl (fun _ _ => rfl),nl,by rw [hE,hL]; exact .tup (.cons Ds (.cons (.same rfl) .nil)),rfl,rfl⟩
 ·have hc : Et Ei d = 0 := by simpa using h1
  refine Ai (Ac (Aa (O1 (Ae Hy rfl rfl rfl) (Ap rfl rfl rfl rfl (f91 d J hB (Aha hc).1 (Aha hc).2) (OM rfl (O1 (Al rfl rfl) (O1 (Al rfl rfl) ?_)))))));refine OA rfl (OA rfl (Ab (Ac (Ac (Aa (OM rfl (O1 (Bb rfl) ?_)))))));refine Ab ?_;refine Ah rfl ?_ ?_ <;> intro h2
  ·refine Ac (Aa (OA rfl (OA rfl (Ab ?_))))
   have hE : Dt d = 13 := by unfold Dt; rw [if_pos hc,if_neg (by simpa using h2)]
   have hL : B2 d = [] := by unfold B2; rw [if_pos hc]; have h3 : (Eu d).isSome = false := (by simpa using h2); cases ho : Eu d with | none => rfl | some x => rw [ho] at h3; cases h3
   refine An ?_
   exact ⟨_,rfl,.tup [slV eH 3 (B2 d),iV (Dt d)],J,ag_ hw nl (fun _ _ => rfl),nl,by rw [hE,hL]; exact .tup (.cons Ds (.cons (.same rfl) .nil)),rfl,rfl⟩
  ·refine Ai (Ac (Aa (OM rfl (OA rfl (OA rfl (Ab ?_))))))
   have hE : Dt d = 0 := by unfold Dt; rw [if_pos hc,if_pos (by simpa using h2)]
   have hL : B2 d = (Eu d).getD [] := by unfold B2; rw [if_pos hc]
   refine An ?_
   exact ⟨_,rfl,.tup [slV eH 3 (B2 d),iV (Dt d)],J,ag_ hw nl (fun _ _ => rfl),nl,by rw [hE,hL]; exact .tup (.cons (.same (Apw _)) (.cons (.same rfl) .nil)),rfl,rfl⟩
theorem Aso (s : Str) (l : List Str) : (l.any fun x => decide (s = x)) = decide (s ∈ l) := by
 rw [ep_]; simp [dt_]
theorem f117 (p : Pt) (g : Gr) (J : Sto) (hb : g.sorts.length < 1000000) : Cv 117 [.agg (ePt p),grV g] J (.bool (Ahb g.sorts p)) := by
 refine Az Tryz.func117 rfl rfl fun hw hu0 => ?_
 refine Ac (Aa (Ar Ox rfl rfl rfl (Ar D3 rfl rfl rfl (OA rfl (Ab (Ac (Ac ?_)))))));refine Aa (O1 (Ad Q7 rfl rfl) (O1 (Ae ld9 rfl rfl rfl) (O1 (I0 (q := []) ok9 rfl rfl) (Ab ?_))));refine Ah rfl ?_ ?_ <;> intro h1
 ·refine Ac (Aa (O1 (Ad Ala rfl rfl) (O1 (Ae ld9 rfl rfl rfl) (Ap rfl rfl rfl rfl (f94 p.symbol _) (OM rfl ?_)))));refine Cy 3 _ ?_ rfl rfl rfl rfl rfl (Aw rfl) (fun hg => ?_) (fun hg => ?_) ?_
  rotate_left
  ·refine On hg (Ad Ui rfl rfl) (On hg (Ae ld3 rfl rfl rfl) (On hg (Do (q := 0) ok3 rfl rfl) (Ab ?_)));refine ⟨rfl,?_,?_⟩
   ·exact sb
   ·exact rfl
  ·refine Of hg (Of hg (Of hg (Ab ?_)));exact ⟨rfl,sb⟩
  refine OA rfl (Ab ?_);refine An (Bq hw rfl ?_)
  exact congrArg AV.bool (by have h : p.sort = [] := (by simpa using h1); exact (if_pos h).symm)
 ·refine Ai (Ac (Aa (O1 (Ad Ala rfl rfl) (O1 (Ae ld9 rfl rfl rfl) (O1 (I0 (q := []) ok9 rfl rfl) (OM rfl ?_))))));refine Cy 5 _ ?_ rfl rfl rfl rfl rfl (Aw rfl) (fun hg => ?_) (fun hg => ?_) ?_
  rotate_left
  ·refine On hg (Ad Qh rfl rfl) (On hg (Ae Ce rfl rfl rfl) (On hg (Ad Q7 rfl rfl) (On hg (Ae ld9 rfl rfl rfl) (B5 rfl rfl rfl (by rw [hg]; rfl) rfl rfl rfl rfl (f61 g.sorts p.sort J Om) ?_))))
   refine Ab ?_;refine ⟨rfl,?_,?_⟩
   ·exact sb
   ·exact rfl
  ·refine Of hg (Of hg (Of hg (Of hg (Of hg (Ab ?_)))));exact ⟨rfl,sb⟩
  refine OA rfl (Ab ?_);refine An (Bq hw rfl ?_)
  exact congrArg AV.bool (by have h : ¬ p.sort = [] := (by simpa using h1); unfold Ahb; rw [if_neg h,← Aso])
theorem f116 (p : Pt) (g : Gr) (J : Sto) (hb : g.sorts.length < 1000000) : Cv 116 [.agg (ePt p),.pv [A3 g.sorts,slV eR 4 g.rules]] J (.bool (!Ahb g.sorts p)) := by
 refine Az Tryz.func116 rfl rfl fun hw hu0 => ?_
 refine Ac (Aa (Ar Ox rfl rfl rfl (OA rfl (Ab (Ac (Aa (O1 (Ae Ox rfl rfl rfl) ?_)))))));refine O1 (Ae D3 rfl rfl rfl) (Ap rfl rfl rfl rfl (f117 p g J hb) (O1 (Bb rfl) (OA rfl (Ab ?_))));refine An (Bq hw rfl ?_);exact rfl
theorem f69 (h : Hp) (J : Sto) : Cv 69 [.agg (eH h)] J (.bool (!h.floating)) := by
 refine Az Tryz.func69 rfl rfl fun hw hu0 => ?_
 refine Ac (Aa (Ar D2 rfl rfl rfl (OA rfl (Ab (Ac (Aa (O1 (Ad I2 rfl rfl) ?_)))))));refine O1 (Ae ld4 rfl rfl rfl) (O1 (Bb rfl) (OA rfl (Ab ?_)));refine An (Bq hw rfl ?_);exact rfl
def Ahc (p : Pt) : Bool := !decide (p.sort = [])
def Hv (l : List Pt) : List Pt := l.filter Ahc
theorem Aau {l : List Pt} {i : Nat} {p : Pt} (h : l[i]? = some p) : Hv (l.take (i + 1)) = Hv (l.take i) ++ (if Ahc p = true then [p] else []) := by
 unfold Hv; rw [Ci h,dw_]; cases hb : Ahc p <;> simp [hb]
theorem it225 (L : RF) (r : Rl) (J : Sto) (S : List Pt -> Sto -> Prop) (hb : r.parts.length < 1000000) (h0 : S [] J)
  (hy : ∀ (i : Nat) (p : Pt) (J' : Sto),r.parts[i]? = some p -> Ahc p = true -> nx J <= nx J' -> S (Hv (r.parts.take i)) J' -> YTo Ew L [.agg (ePt p)] J' (fun J'' => S (Hv (r.parts.take i) ++ [p]) J'')) :
  Qd Ew L 150 [.yl L.aY,.pv (eR r)] J (S (Hv r.parts)) := by
 refine Aua Tryz.func150 rfl rfl rfl fun hw hu0 => ?_
 refine Q6 (Sg (Aa ?_));refine O1 (Ad Lz rfl rfl) (O1 (Ae Abo rfl rfl rfl) (O1 (Aq Ags rfl) (OM rfl (Ab ?_))));refine Aco ?_;refine Am1 (fun i => [(0,.yl L.aY),(6,slV ePt 3 r.parts),(7,iV (.ofNat r.parts.length)),(8,iV (.ofNat i))]) (fun i J0 => i <= r.parts.length /\ S (Hv (r.parts.take i)) J0 /\ nx J <= nx J0) (fun i => r.parts.length - i) 0 SL ⟨ch_ _,h0,nl⟩ ?_
 rintro i J0 ⟨hi0,hS0,hn0⟩;refine Q6 (Sg (Aa ?_));refine O1 (A8 ok3 rfl rfl) (Ab ?_);refine Q6 ?_;refine Aah rfl ?_ ?_ <;> intro h1
 ·have bf : i < r.parts.length := by simpa using h1
  obtain ⟨p,hp⟩ := Bt bf;refine Aag ?_;refine Q6 ?_;refine Aco ?_;refine Q6 (Sg (Aa ?_));refine O1 (Ax Abp (fun _ => rfl) rfl rfl hp) ?_
  refine O1 (Ae Ox rfl rfl rfl) (Bz Ak9 Ox rfl (fun _ => rfl) rfl rfl rfl rfl ?_)
  refine Ab ?_;refine Q6 (Ajc ?_);refine Wb noR rfl rfl (Ad Q7 rfl rfl) ?_;refine Wb noR rfl rfl (Ae ld9 rfl rfl rfl) ?_;refine Wb noR rfl rfl (Lx (q := []) ok9 rfl rfl) ?_;refine Wb noR rfl rfl (Ag rfl) ?_;have fin : ∀ (ρ : Ao) (J' : Sto),Ao.at ρ 8 = some (iV (.ofNat i)) -> Ao.at ρ 0 = some (.yl L.aY) -> Ao.at ρ 6 = some (slV ePt 3 r.parts) -> Ao.at ρ 7 = some (iV (.ofNat r.parts.length)) -> S (Hv (r.parts.take (i + 1))) J' -> nx J <= nx J' ->
    Lw [(0,.yl L.aY),(6,slV ePt 3 r.parts),(7,iV (.ofNat r.parts.length)),(8,iV (.ofNat i))] ρ /\ S (Hv (r.parts.take (i + 1))) J' /\ nx J <= nx J' := fun ρ J' e8 e0 e6 e7 hs hn => ⟨⟨e0,e6,e7,e8,trivial⟩,hs,hn⟩
  clear fin;cases hb : Ahc p with
  | true =>
   have hb' : (!decide (p.sort = [])) = true := hb
   refine Ajd rfl rfl rfl rfl (by rw [hb']; rfl) noR rfl rfl (Ag rfl) ?_
   refine Ajd rfl rfl rfl rfl (by rw [hb']; rfl) noR rfl rfl (Ae Ox rfl rfl rfl) ?_
   refine Am2 (fun tm ht => by rw [Gn ht rfl rfl rfl rfl]; rw [hb']; rfl) rfl rfl rfl rfl (hy i p J0 hp hb hn0 hS0) fun J1 hS1 hn1 => ?_
   refine Ajd rfl rfl rfl rfl (by rw [hb']; rfl) noR rfl rfl (Bb rfl) ?_
   refine Wb noR rfl rfl (Bu rfl hb' rfl) ?_;refine Ak4 ?_
   refine Aah rfl (fun h2 => by cases h2) (fun h2 => ?_)
   refine Aag ?_;refine Sg (Aa ?_);refine O1 (Ay (q := 1) ok3 rfl rfl Om) ?_;refine OM rfl (Ab ?_)
   exact ⟨i + 1,by omega,SL,bf,by rw [Aau hp,if_pos hb]; exact hS1,ax_ hn0 hn1⟩
  | false =>
   have hb' : (!decide (p.sort = [])) = false := hb
   refine Yd rfl rfl rfl rfl rfl (by rw [hb']; rfl) rfl ?_
   refine Yd rfl rfl rfl rfl rfl (by rw [hb']; rfl) rfl ?_
   refine Yd rfl rfl rfl rfl rfl (by rw [hb']; rfl) rfl ?_
   refine Yd rfl rfl rfl rfl rfl (by rw [hb']; rfl) rfl ?_
   refine Wb noR rfl rfl (Br rfl hb' rfl) ?_;refine Ak4 ?_
   refine Aah rfl (fun h2 => by cases h2) (fun h2 => ?_)
   refine Aag ?_;refine Sg (Aa ?_);refine O1 (Ay (q := 1) ok3 rfl rfl Om) ?_;refine OM rfl (Ab ?_)
   exact ⟨i + 1,by omega,SL,bf,by rw [Aau hp,if_neg (by rw [hb]; simp),cr_]; exact hS0,hn0⟩
 ·have bq : r.parts.length <= i := by simpa using h1
  refine Apb ?_
  show S (Hv r.parts) J0
  rw [at_ bq] at hS0; exact hS0
section
open Go Go.Proofs Go.Sort
abbrev eI (i : Int) : List AV := [iV i]
def Ef (l : List Int) : List Int := l.mergeSort fun x y => decide (x <= y)
theorem Ap9 {C : Ctx} {N : Nat} {w : World} {c : Nat} : ∀ {vs : List AV} {o j : Nat} {x : AV},RC C N w c vs o -> vs[j]? = some x -> ∃ v,w.cell? ⟨c,o + j,none⟩ = some v /\ v.oneCell = true /\ R C N w x v
 | [],_,_,_,_,h => by simp at h
 | y :: r,o,0,x,hr,h => by
  unfold RC at hr
  simp at h; subst h
  simpa using hr.1
 | y :: r,o,j + 1,x,hr,h => by
  unfold RC at hr
  have := Ap9 hr.2 (show r[j]? = some x by simpa using h)
  rwa [show o + 1 + j = o + (j + 1) by omega] at this
theorem Atm {C : Ctx} {N : Nat} {w : World} {c : Nat} : ∀ {vs : List AV} {o : Nat},(∀ j x,vs[j]? = some x -> ∃ v,w.cell? ⟨c,o + j,none⟩ = some v /\ v.oneCell = true /\ R C N w x v) -> RC C N w c vs o
 | [],_,_ => by unfold RC; trivial
 | y :: r,o,h => by
  unfold RC
  refine ⟨by simpa using h 0 y rfl,Atm fun j x hx => ?_⟩
  have := h (j + 1) x (by simpa using hx)
  rwa [show o + (j + 1) = o + 1 + j by omega] at this
theorem Aqa : ∀ l : List Int,l.flatMap eI = l.map iV
 | [] => rfl
 | x :: l => by simp [Aqa l]
theorem Atn (l : List Int) (tl : List AV) (j : Nat) (h : j < l.length) : (l.flatMap eI ++ tl)[j]? = some (iV l[j]) := by
 rw [Aqa,bx_ (by simpa using h)]; simp [h]
theorem Aqb (l : List Int) : (l.flatMap eI).length = l.length := by induction l with
 | nil => rfl
 | cons x l ih => simp [ih]
theorem Rb (l : List Int) : (Ef l).length = l.length := List.length_mergeSort l
theorem f119n (J : Sto) : Cv 119 [.nil (.slice none 0 0)] J A5 := by
 refine Aas ⟨_,Tryz.func119,rfl,rfl⟩ fun C w vs ha => ?_
 obtain ⟨v,rfl,hv⟩ := Aiz ha;unfold R at hv;obtain ⟨rfl,_⟩ := hv;exact ⟨_,Tryz.slices_Sort_int_none none 0 w,P0⟩
theorem f119 (l : List Int) (a : Nat) (tl : List AV) (J : Sto) (hg : J.get a = some (.cells (l.flatMap eI ++ tl))) (hne : l ≠ []) (hl : l.length < 1000000) :
  A6 Ew 119 [.sr a 0 1 l.length none] J fun v J' => v = A5 /\ J' = J.set a (.cells ((Ef l).flatMap eI ++ tl)) := by
 intro C w vs hs hgl ha;refine ⟨⟨_,Tryz.func119,rfl,rfl⟩,?_⟩;obtain ⟨v,rfl,hv⟩ := Aiz ha;unfold R at hv;obtain ⟨ad,k,rfl,hN,hlk,_,bw⟩ := hv;obtain ⟨c,o,cs,T,hl1,hh,hrc⟩ := hs.obj a _ hg;have dk : 0 < l.length := List.length_pos_iff.2 hne;have had := (bw c o hl1).1 Om;subst had;rw [dn_]
 have hH : Holds (Value.int .i64) w c o l.toArray := fun j hj => by
  have hj : j < l.length := by simpa using hj
  obtain ⟨v,h1,_,h3⟩ := Ap9 hrc (Atn l tl j hj);unfold iV R at h3;subst h3
  refine ⟨by rw [h1]; simp [hj],?_⟩
  unfold World.frozen?;rw [hh]; simp
 refine (Tryz.slices_Sort_int c o k l w hH (hs.lt a c o hl1) Om).mono fun e w' he => ?_
 obtain ⟨rfl,n,os,rfl⟩ := he;have hd : (Ef l).length = l.length := Rb l;obtain ⟨s1,e1⟩ := hs.same (w' := Go.Sort.ahead w n) nl (fun b _ => rfl) ⟨rfl,rfl⟩
 have hH1 : Holds (Value.int .i64) (Go.Sort.ahead w n) c o l.toArray := hH
 have hwr : Wr (Go.Sort.ahead w n) (putRow (Value.int .i64) (Go.Sort.ahead w n) c o (Ef l).toArray) c (.cells (putCells (Value.int .i64) o (Ef l).toArray cs) T (0,0)) := by
  refine ⟨size_putRow ..,?_,fun b hb => ?_,rfl,rfl⟩
  ·show ((Go.Sort.ahead w n).heap.modify c (onCells _))[c]? = _
   rw [dm_,if_pos rfl]
   show (w.heap[c]?).map _ = _
   rw [hh]; rfl
  ·show ((Go.Sort.ahead w n).heap.modify c (onCells _))[b]? = _
   rw [dm_,if_neg (gj_ hb)]
 obtain ⟨s2,e2⟩ := s1.upd (O₀ := .cells (l.flatMap eI ++ tl)) hl1 hwr (by
   unfold csize;rw [hwr.here]
   show _ = (match w.heap[c]? with | some (.cells cs _ _) => cs.size | _ => 0)
   rw [hh]; simp [putCells]) hg (.cells ((Ef l).flatMap eI ++ tl)) rfl (fun _ _ _ h => by cases h) (fun e => by
   refine ⟨c,o,_,T,hl1,hwr.here,Atm fun j x hx => ?_⟩
   rw [Ak]
   by_cases hj : j < (Ef l).length
   ·rw [Atn _ tl j hj] at hx; cases hx
    refine ⟨_,cell?_putRow (Value.int .i64) (Go.Sort.ahead w n) c o l.toArray (Ef l).toArray hH1 (by simpa using hd) j (by simpa using hj),rfl,?_⟩
    unfold iV R; simp [hj]
   ·have hx' : (l.flatMap eI ++ tl)[j]? = some x := by
     rw [co_ (by rw [Aqb]; omega),Aqb] at hx ⊢
     rw [← hd]; exact hx
    obtain ⟨v,h1,h2,h3⟩ := Ap9 hrc hx';refine ⟨v,?_,h2,R.ext (e1.trans e) _ _ h3⟩
    rw [cell?_putRow_other _ _ _ _ _ _ (.inr (.inr (by show o + (Ef l).toArray.size <= o + j; simp; omega)))]
    exact h1)
 obtain ⟨s3,e3⟩ := s2.same (w' := Go.Sort.grow (putRow (Value.int .i64) (Go.Sort.ahead w n) c o (Ef l).toArray) os) (by simp [Go.Sort.grow]) (fun b hb => by
   show (_ ++ os)[b]? = _
   rw [da_ hb]) ⟨rfl,rfl⟩
 refine ⟨A5,_,C,⟨rfl,rfl⟩,s3,?_,P0⟩;rw [Ak] at e3 ⊢;exact (e1.trans e2).trans e3
end
def Ae3 : List Int -> Nat -> Bool
 | [],_ => false
 | a :: r,i => !decide (a = Int.ofNat i) || Ae3 r (i + 1)
def Dv (r : Rl) : List Int := (Hv r.parts).map (·.arg)
def Gx (g : Gr) (r : Rl) : Bool :=
 if ((!Acz r.label || !(g.sorts.any fun x => decide (r.sort = x))) || r.parts.any (fun p => !Ahb g.sorts p)) = true then false
 else if Ae3 (Ef (Dv r)) 0 = true then false
 else !r.var || (decide (Int.ofNat r.parts.length = 1) && decide (Int.ofNat (Dv r).length = 0))
theorem Aav {N : Nat} (p : Pt) : AV.unds N (ePt p) = true := rfl
theorem Nv {N : Nat} (r : Rl) : AV.unds N (eR r) = true := by
 show (true && (true && (AV.und N (slV ePt 3 r.parts) && (true && true)))) = true
 rw [Ez Aav r.parts]; rfl
theorem f118 (r : Rl) (J : Sto) : Cv 118 [.agg (eR r)] J (.fn (.func 150) [] [.pv (eR r)]) := by
 refine Az Tryz.func118 rfl rfl fun hw hu0 => ?_
 refine Ac (Aa (Ar Ey rfl rfl rfl (OA rfl (Ab (Ac (Aa (O1 (Fw rfl rfl) ?_)))))));refine OA rfl (Ab ?_);refine An ?_
 exact ⟨_,rfl,_,_,ag_ hw nl (fun _ _ => rfl),nl,.same (by show (true && ((AV.unds (nx J) (eR r)) && true)) = true; rw [Nv]; rfl),rfl,rfl⟩
theorem f92 (r : Rl) (J : Sto) : Cv 92 [.agg (eR r)] J (.bool (decide ((200 : Int) < Int.ofNat r.parts.length))) := by
 refine Az Tryz.func92 rfl rfl fun hw hu0 => ?_
 refine Ac (Aa (Ar Ey rfl rfl rfl (OA rfl (Ab (Ac (Aa (O1 (Ad Lz rfl rfl) ?_)))))));refine O1 (Ae Abo rfl rfl rfl) (O1 (Aq Ags rfl) (O1 (Ca (q := 200) ok3 rfl rfl) (OA rfl (Ab ?_))));refine An (Bq hw rfl ?_);exact rfl
structure Aqc (J : Sto) (l : List Pt) (J' : Sto) : Prop where
 mk' ::
 ex : ∃ v,J'.get (nx J + 1) = some (.cells [v]) /\ Own J' (nx J + 4) eI 1 (l.map (·.arg)) v /\ (l = [] -> v = .nil (.slice none 0 0)) /\ J'.get (nx J + 3) = some (.loop .ready) /\ (∀ b,b < nx J -> J'.get b = J.get b) /\ nx J + 4 <= nx J'
theorem Aqc.rd {J J' : Sto} {l : List Pt} (h : Aqc J l J') : J'.get (nx J + 3) = some (.loop .ready) := by obtain ⟨_,_,_,_,h,_⟩ := h.ex; exact h
theorem Qd.post {E : Env} {L : RF} {f : Nat} {args : List AV} {J : Sto} {P P' : Sto -> Prop} (h : Qd E L f args J P) (k : ∀ J',P J' -> P' J') : Qd E L f args J P' := fun C w vs hi hs hg ha => (h C w vs hi hs hg ha).mono fun e w' he => by
 cases e with
 | returned x => obtain ⟨J',C',h1,h2⟩ := he; exact ⟨J',C',k _ h1,h2⟩
 | panicked _ => exact he.elim
 | outgrown => exact he.elim
theorem Mi {J : Sto} {N sz : Nat} {α : Type} {enc : α -> List AV} {l : List α} {v : AV} (h : Own J N enc sz l v) : v.cellsN 1 = some [v] := by
 rcases h with ⟨_,rfl | rfl⟩ | ⟨a,tl,_,_,rfl,_⟩ <;> rfl
theorem f95 (r : Rl) (g : Gr) (J : Sto) (hb : r.parts.length < 1000000) (hgs : g.sorts.length < 1000000) : Cv 95 [.agg (eR r),grV g] J (.bool (Gx g r)) := by
 refine callM Tryz.func95 (Tx _ _ Tryz.func95) rfl rfl fun hw hu0 => ?_
 refine Aje ?_;refine Aa (Ar Ey rfl rfl rfl (Ar D3 rfl rfl rfl (OA rfl (Ab ?_))));refine Aje ?_;refine Ac (Aa (O1 (Ad Aam rfl rfl) (O1 (Ae ld9 rfl rfl rfl) (Ap rfl rfl rfl rfl (f94 r.label _) (O1 (Bb rfl) (OM rfl ?_))))));refine Cm 6 _ ?_ rfl rfl rfl rfl rfl (Aw rfl) (fun hg => ?_) (fun hg => ?_) ?_
 rotate_left
 ·refine On hg (Ad Qh rfl rfl) (On hg (Ae Ce rfl rfl rfl) (On hg (Ad Aev rfl rfl) (On hg (Ae ld9 rfl rfl rfl) (B5 rfl rfl rfl (by rw [hg]; rfl) rfl rfl rfl rfl (f61 g.sorts r.sort _ Om) ?_))))
  refine On hg (Bb rfl) (Ab ?_);refine ⟨rfl,?_,?_⟩
  ·exact sb
  ·exact rfl
 ·refine Of hg (Of hg (Of hg (Of hg (Of hg (Of hg (Ab ?_))))));exact ⟨rfl,sb⟩
 refine OM rfl ?_;refine Cm 4 _ ?_ rfl rfl rfl rfl rfl (Aw rfl) (fun hg => ?_) (fun hg => ?_) ?_
 rotate_left
 ·refine On hg (Ad Lz rfl rfl) (On hg (Ae Abo rfl rfl rfl) (On hg (Fw rfl rfl) (B5 rfl rfl rfl (by rw [hg]; rfl) rfl rfl rfl rfl (f115 (fun p => !Ahb g.sorts p) r.parts 116 [.pv [A3 g.sorts,slV eR 4 g.rules]] _ Om (fun p _ => f116 p g _ hgs)) ?_)))
  refine Ab ?_;refine ⟨rfl,?_,?_⟩
  ·exact sb
  ·exact rfl
 ·refine Of hg (Of hg (Of hg (Of hg (Ab ?_))));exact ⟨rfl,sb⟩
 refine Ab ?_;refine Ah rfl ?_ ?_ <;> intro h1
 ·refine Ac (Aa (OA rfl (Ab ?_)));have hV : Gx g r = false := if_pos h1;refine An ?_
  exact ⟨_,rfl,.bool false,J,ag_ hw (by rw [Cr]; omega) (fun a _ => G4 J a),nl,.same rfl,congrArg AV.bool hV.symm,rfl⟩
 ·refine Ai ?_;refine Aje ?_;refine Aa (O1 (Cw zi26) (Ab ?_));refine Am3 ?_;refine Aa (O1 (Ae Ey rfl rfl rfl) (Ap rfl rfl rfl rfl (f118 r _) (Ab ?_)))
  -- J1: behind the variable
  have hA : nx J.bump = nx J + 1 := Cr J
  have h1n : nx (J.bump.new (.cells [.nil (.slice none 0 0)])) = nx J + 2 := by rw [Aj,hA]
  have hsn : nx ((J.bump.new (.cells [.nil (.slice none 0 0)])).bump.new (.loop .ready)) = nx J + 4 := by rw [Aj,Cr,h1n]
  refine ⟨150,[.pv (eR r)],_,fun J' => Aqc J (Hv r.parts) J',rfl,Tryz.func150,Tx _ _ Tryz.func150,rfl,fun tm ht => ?_,fun J' aD hS hn => ?_⟩
  ·rw [h1n];refine Qd.post (it225 _ r _ (fun l J' => Aqc J l J') hb ?_ ?_) fun J' hS => ⟨hS.rd,hS⟩
   ·refine ⟨⟨.nil (.slice none 0 0),?_,.nil,fun _ => rfl,?_,fun b hb' => ?_,by rw [hsn]; exact nl⟩⟩
    ·rw [ab_,Cr,if_neg (by rw [h1n]; omega),G4,ab_,if_pos hA.symm]
    ·rw [ab_,Cr,if_pos (by rw [h1n])]
    ·rw [ab_,Cr,if_neg (by rw [h1n]; omega),G4,ab_,if_neg (by rw [hA]; omega),G4]
   ·intro i p J' hp hpb hn' hS;obtain ⟨v,cr,bn,iw,hrd,g8,hnn⟩ := hS.ex;rw [hsn] at hn';have hnb : nx (J'.set (nx J + 3) (.loop .busy)) = nx J' := Ak _ _ _
    refine At9 (ρL := _) ht rfl rfl hrd (by show nx J + 3 < nx J'; omega) ?_
    refine Aaf Kr ?_;refine Bz Ak9 Ox rfl (fun _ => rfl) rfl rfl rfl rfl ?_
    refine Ab ?_;refine ⟨hrd,?_⟩;refine Am0 (Aaf Kr ?_)
    have dn : Own (J'.set (nx J + 3) (.loop .busy)) (nx J + 4) eI 1 ((Hv (r.parts.take i)).map (·.arg)) v := bn.mono (by rw [hnb]; exact nl) fun a tl _ h8 h9 _ => by rw [a_,if_neg Om]
    have bx : ((Hv (r.parts.take i)).map (·.arg)).length <= i := by
     rw [cs_]
     exact ax_ (df_ _ _) (by rw [bl_]; omega)
    have hil : i < r.parts.length := (ae_.1 hp).1
    have bh : (((Hv (r.parts.take i)).map (·.arg)).length + [p.arg].length) * (8 + 1) <= sizeLim := by simp only [cw_,sizeLim]; omega
    obtain ⟨v1,τ1,hap,ho1,hb1,hk1⟩ := dn.app (by' := 8) (enc := eI) (sz := 1) (fun _ => rfl) (by rw [hnb]; omega) [p.arg] bh
    have gd : (J'.set (nx J + 3) (.loop .busy)).get (nx J + 1) = some (.cells [v]) := by rw [a_,if_neg Om]; exact cr
    have jp : τ1.get (nx J + 1) = some (.cells [v]) := (hb1.2 _ Om).trans gd
    refine O1 (Ae (u := .pr (nx J + 1) 0) (cs := [v]) Wc (by rw [← hA]; rfl) (by simp only [Dq,Sto.cells,gd]; rfl) rfl) ?_
    refine O1 (Ad Ui rfl rfl) (O1 (Ae ld3 rfl rfl rfl) (E6 (Bn Agr byW rfl rfl rfl) (Gd (len := 1)) rfl rfl (O1 (B0 Agr rfl Aep rfl rfl rfl (new := eI p.arg) rfl hap) (O1 (B9 (ad := nx J + 1) (off := 0) (vs := [v]) (vs' := [v1]) (cs := [v1]) Wc (by rw [← hA]; rfl) rfl (Mi ho1) (by simp only [Sto.cells,jp]) rfl) ?_))))
    refine Ab ?_
    have hn1 : nx J + 4 <= nx τ1 := ax_ (by rw [hnb]; omega) hb1.1
    refine ⟨by rw [a_,if_neg (by show ¬ nx J + 3 = nx J + 1; omega),hb1.2 _ (by show nx J + 3 < nx J + 4; omega),a_,if_pos rfl],⟨v1,?_,?_,fun h => (by simp at h),by rw [a_,if_pos rfl],fun b hb' => ?_,by rw [Ak,Ak]; exact hn1⟩⟩
    ·rw [a_,if_neg (by show ¬ nx J + 1 = nx J + 3; omega),a_,if_pos rfl]
    ·rw [cc_]
     exact ho1.mono (by rw [Ak,Ak]; exact nl) fun a tl _ h8 h9 _ => by rw [a_,if_neg (by show ¬ a = nx J + 3; omega),a_,if_neg Om]
    ·rw [a_,if_neg (by show ¬ b = nx J + 3; omega),a_,if_neg Om,hb1.2 b Om,a_,if_neg Om]
     exact g8 b hb'
  ·have hS' : Aqc J (Hv r.parts) J' := hS;obtain ⟨v,cr,bn,iw,hrd,g8,hnn⟩ := hS'.ex;rw [h1n];have hnk : nx (J'.kill (nx J + 2 + 1)) = nx J' := Cl _ _
   have hgk : ∀ b,b ≠ nx J + 3 -> (J'.kill (nx J + 2 + 1)).get b = J'.get b := fun b hb' => by rw [d_,if_neg hb']
   have bx : (Dv r).length < 1000000 := by
    unfold Dv Hv;rw [cs_];exact fs_ (df_ _ _) hb
   have gg : Own (J'.kill (nx J + 2 + 1)) (nx J + 4) eI 1 (Dv r) v := bn.mono (by rw [hnk]; exact nl) fun a tl _ h8 h9 _ => hgk a Om
   obtain ⟨Js,ca,hcs,dh,md,hns⟩ : ∃ Js,(A6 Ew 119 [v] (J'.kill (nx J + 2 + 1)) fun u τ => u = A5 /\ τ = Js) /\ Js.get (nx J + 1) = some (.cells [v]) /\ Own Js (nx J + 4) eI 1 (Ef (Dv r)) v /\ (∀ b,b < nx J -> Js.get b = J.get b) /\ nx J + 4 <= nx Js := by
    by_cases hne : Dv r = []
    ·have hv : v = .nil (.slice none 0 0) := iw (by unfold Dv at hne; exact List.map_eq_nil_iff.1 hne)
     subst hv
     refine ⟨_,f119n _,(hgk _ Om).trans cr,?_,fun b hb' => (hgk b Om).trans (g8 b hb'),by rw [hnk]; exact hnn⟩
     rw [hne] at gg ⊢
     rw [show Ef [] = [] by simp [Ef]]
     exact gg
    ·rcases gg with ⟨h0,_⟩ | ⟨a,tl,ha1,ha2,rfl,ha3⟩
     ·exact absurd h0 hne
     ·refine ⟨_,f119 (Dv r) a tl _ ha3 hne bx,?_,.inr ⟨a,tl,ha1,by rw [Ak]; exact ha2,by rw [Rb],by rw [a_,if_pos rfl]⟩,fun b hb' => ?_,by rw [Ak,hnk]; exact hnn⟩
      ·rw [a_,if_neg Om,hgk _ Om]; exact cr
      ·rw [a_,if_neg Om,hgk _ Om]; exact g8 b hb'
   have hsl : (Ef (Dv r)).length = (Dv r).length := Rb _
   have ba : nx J <= nx Js /\ ∀ b,b < nx J -> Js.get b = J.get b := ⟨by omega,md⟩
   have hld : ∀ τ : Sto,τ.get (nx J + 1) = some (.cells [v]) -> Dq τ (.pr (nx J + 1) 0) = some [v] := fun τ h => by simp only [Dq,Sto.cells,h]; rfl
   have hno : ∀ b : Bool,Gx g r = b -> T Ew Tryz.f95.ntmps [(F6,[.yl aD,.yl (nx J)])] (nx J + 1) .ret (Ams (Aef Ew Tryz.f95 (nx J) fun v J' => v = .bool (Gx g r) /\ J' = J)) [(4,.bool b)] Js := fun b hb' => by
    refine An ?_;exact ⟨_,rfl,.bool b,J,ag_ hw ba.1 ba.2,nl,.same rfl,congrArg AV.bool hb'.symm,rfl⟩
   refine Ac (Aa (O1 (Ae (u := .pr (nx J + 1) 0) (cs := [v]) Wc (by rw [← hA]; rfl) (hld _ ((hgk _ Om).trans cr)) rfl) ?_))
   refine Ap rfl rfl rfl rfl ca (Ab (Ac (Ac (Aa (O1 (Ae (u := .pr (nx J + 1) 0) (cs := [v]) Wc (by rw [← hA]; rfl) (hld _ hcs) rfl) ?_)))))
   refine O1 (Em Aep rfl dh.lenA.1 dh.lenA.2) (OM rfl (Ab (Am ?_)))
   refine B8 (Ef (Dv r)).length (fun i2 => [(2,.pv (eR r)),(5,.pr (nx J + 1) 0),(37,v),(38,iV (.ofNat (Ef (Dv r)).length)),(39,iV (.ofNat i2))]) (fun i2 J2 => J2 = Js /\ Ae3 (Ef (Dv r)) 0 = Ae3 ((Ef (Dv r)).drop i2) i2) ⟨rfl,by rw [← hA]; rfl,rfl,rfl,rfl,trivial⟩ ⟨rfl,rfl⟩ ?_
   rintro i2 J2 hi2 ⟨rfl,hf2⟩;refine Ac (Aa (O1 (A8 ok3 rfl rfl) (Ab (Ac ?_))));refine Ah rfl ?_ ?_ <;> intro h2
   ·have br : i2 < (Ef (Dv r)).length := by simpa using h2
    obtain ⟨u2,ha2⟩ := Bt br;have hd2 := Bh ha2
    have hov : ∃ a tl,v = .sr a 0 1 (Ef (Dv r)).length none /\ J2.get a = some (.cells ((Ef (Dv r)).flatMap eI ++ tl)) := by
     rcases dh with ⟨h0,_⟩ | ⟨a,tl,_,_,k3,k4⟩
     ·rw [h0] at br; exact absurd br (by simp)
     ·exact ⟨a,tl,k3,k4⟩
    obtain ⟨a,tl,hv,hga⟩ := hov;refine Ai (Ac (Am (Ac (Aa (OM rfl (O1 (Ie (a := a) (m := (Ef (Dv r)).length) (cap := none) Agr (congrArg some hv) rfl br) (O1 (Qb (l := Ef (Dv r)) (enc := eI) (u := u2) (v := iV u2) (fun _ => rfl) ld3 rfl hga ha2 (fun _ => rfl)) ?_)))))))
    refine OA rfl (OA rfl (Ab (Ac (Aa (OM rfl (OM rfl (O1 (Cx ok3 rfl rfl) ?_)))))));refine Ab ?_;refine Ah rfl ?_ ?_ <;> intro h3
    ·refine Ac (Aa (OA rfl (Ab ?_)))
     have hV : Gx g r = false := (if_neg (by rw [h1]; simp)).trans (if_pos (by rw [hf2,hd2,Ae3,show (!decide (u2 = Int.ofNat i2)) = true from h3]; rfl))
     refine An ?_;exact ⟨_,rfl,.bool false,J,ag_ hw ba.1 ba.2,nl,.same rfl,congrArg AV.bool hV.symm,rfl⟩
    ·refine Ai (Aa (O1 (Ay (q := 1) ok3 rfl rfl Om) ?_));refine OM rfl (Ab ?_)
     refine ⟨br,SL,rfl,by rw [hf2,hd2,Ae3,show (!decide (u2 = Int.ofNat i2)) = false from h3]; rfl⟩
   ·have b8 : (Ef (Dv r)).length <= i2 := by simpa using h2
    have ne : Ae3 (Ef (Dv r)) 0 = false := by rw [hf2,ah_ b8]; rfl
    have hV : Gx g r = (!r.var || (decide (Int.ofNat r.parts.length = 1) && decide (Int.ofNat (Dv r).length = 0))) := (if_neg (by rw [h1]; simp)).trans (if_neg (by rw [ne]; simp))
    have hV' : Gx g r = (!r.var || (decide (Int.ofNat r.parts.length = 1) && decide (Int.ofNat (Ef (Dv r)).length = 0))) := by rw [hV,hsl]
    refine Ba ?_;refine Ac (Aa (O1 (Ad Aan rfl rfl) (O1 (Ae ld4 rfl rfl rfl) (O1 (Bb rfl) (OM rfl ?_)))))
    rcases au_ (!r.var) with hg | hg
    ·refine Of hg (Of hg (Of hg (Of hg (Of hg (Ou (Ou (Ou ?_)))))));refine Of hg (O1 (Bu rfl hg rfl) (OA rfl (Ab ?_)))
     exact (hno true (by rw [hV',hg]; rfl)).sub ⟨rfl,trivial⟩
    ·refine On hg (Ad Lz rfl rfl) (On hg (Ae Abo rfl rfl rfl) (On hg (Aq Ags rfl) (On hg (Do (q := 1) ok3 rfl rfl) (On hg (Ag rfl) ?_))))
     rcases (au_ (decide (Int.ofNat r.parts.length = 1))).symm with h1l | h1l
     ·refine R7 rfl rfl rfl rfl (by rw [h1l]; rfl) rfl ?_
      refine R7 rfl rfl rfl rfl (by rw [h1l]; rfl) rfl ?_
      refine R7 rfl rfl rfl rfl (by rw [h1l]; rfl) rfl ?_
      refine On hg (Br rfl h1l rfl) (O1 (Br rfl hg rfl) (OA rfl (Ab ?_)))
      exact (hno false (by rw [hV',hg,h1l]; rfl)).sub ⟨rfl,trivial⟩
     ·refine Zr rfl rfl rfl rfl (by rw [h1l]; rfl) noR rfl rfl (Ae (u := .pr (nx J + 1) 0) (cs := [v]) Wc rfl (hld _ hcs) rfl) ?_
      refine Zr rfl rfl rfl rfl (by rw [h1l]; rfl) noR rfl rfl (Em Aep rfl dh.lenA.1 dh.lenA.2) ?_
      refine Zr rfl rfl rfl rfl (by rw [h1l]; rfl) noR rfl rfl (Do (q := 0) ok3 rfl rfl) ?_
      refine On hg (Bu rfl h1l rfl) (O1 (Br rfl hg rfl) (OA rfl (Ab ?_)))
      exact (hno (decide (Int.ofNat (Ef (Dv r)).length = 0)) (by rw [hV',hg,h1l]; rfl)).sub ⟨rfl,trivial⟩
def Aaw : List Str -> SM Bool -> Bool
 | [],_ => false
 | s :: r,m => (!Acz s || m.has s) || Aaw r (m.put s true)
def O0 (g : Gr) : List Rl -> SM Bool -> Bool
 | [],_ => false
 | r :: l,m => (!Gx g r || m.has r.label) || O0 g l (m.put r.label true)
def Gy (g : Gr) : Int :=
 if ((decide ((32 : Int) < Int.ofNat g.sorts.length) || decide ((600 : Int) < Int.ofNat g.rules.length)) || g.rules.any (fun r => decide ((200 : Int) < Int.ofNat r.parts.length))) = true then 4
 else if Aaw g.sorts [] = true then 151 else if O0 g g.rules [] = true then 151 else 0
structure GrB (g : Gr) : Prop where
 s : g.sorts.length < 1000000
 r : g.rules.length < 1000000
 p : ∀ r ∈ g.rules,r.parts.length < 1000000
theorem f71 (g : Gr) (J : Sto) (hB : GrB g) : Cv 71 [grV g] J (iV (Gy g)) := by
 refine Az Tryz.func71 rfl rfl fun hw hu0 => ?_
 have hbs := hB.s;have hbr := hB.r;refine Ac (Aa (Ar D3 rfl rfl rfl (OA rfl (Ab (Ac (Aa (OA rfl ?_)))))));refine Ab (Ac (Ac (Aa (O1 (Ad Qh rfl rfl) (O1 (Ae Ce rfl rfl rfl) (O1 (Aq Ee rfl) (O1 (Ca (q := 32) ok3 rfl rfl) ?_)))))));refine OM rfl ?_;refine Cm 4 _ ?_ rfl rfl rfl rfl rfl (Aw rfl) (fun hg => ?_) (fun hg => ?_) ?_
 rotate_left
 ·refine On hg (Ad Gh rfl rfl) (On hg (Ae Qg rfl rfl rfl) (On hg (Aq X0 rfl) (On hg (Ca (q := 600) ok3 rfl rfl) (Ab ?_))));refine ⟨rfl,?_,?_⟩
  ·exact sb
  ·exact rfl
 ·refine Of hg (Of hg (Of hg (Of hg (Ab ?_))));exact ⟨rfl,sb⟩
 refine OM rfl ?_;refine Cm 4 _ ?_ rfl rfl rfl rfl rfl (Aw rfl) (fun hg => ?_) (fun hg => ?_) ?_
 rotate_left
 ·refine On hg (Ad Gh rfl rfl) (On hg (Ae Qg rfl rfl rfl) (On hg (Ag rfl) (B5 rfl rfl rfl (by rw [hg]; rfl) rfl rfl rfl rfl (f93 (fun r => decide ((200 : Int) < Int.ofNat r.parts.length)) g.rules 92 [] J (by have := hB.r; omega) (fun r _ => f92 r J)) ?_)))
  refine Ab ?_;refine ⟨rfl,?_,?_⟩
  ·exact sb
  ·exact rfl
 ·refine Of hg (Of hg (Of hg (Of hg (Ab ?_))));exact ⟨rfl,sb⟩
 refine Ab ?_;refine Ah rfl ?_ ?_ <;> intro h1
 ·refine Ac (Aa (OA rfl (Ab ?_)));have hE : Gy g = 4 := (if_pos h1);refine An ?_;exact ⟨_,rfl,_,J,ap_ hw eo_,nl,.same rfl,congrArg iV hE.symm,rfl⟩
 ·refine Ai (Ac (Aa (O1 (Ga Uj) (OA rfl (Ab (Ac (Ac ?_)))))));refine Aa (O1 (Ad Qh rfl rfl) (O1 (Ae Ce rfl rfl rfl) (O1 (Aq Ee rfl) (OM rfl (Ab (Am ?_))))))
  refine B8 g.sorts.length (fun i0 => [(1,.pv [A3 g.sorts,slV eR 4 g.rules]),(4,.mp (nx J)),(27,A3 g.sorts),(28,iV (.ofNat g.sorts.length)),(29,iV (.ofNat i0))]) (fun i0 J0 => ∃ m,E7 J0 (nx J) m /\ nx J <= nx J0 /\ (∀ b,b < nx J -> J0.get b = J.get b) /\ Aaw g.sorts [] = Aaw (g.sorts.drop i0) m) SL ⟨[],⟨0,by rw [ab_,if_pos rfl]; rfl⟩,by rw [Aj]; omega,fun b hb => by rw [ab_,if_neg Om],rfl⟩ ?_
  rintro i0 J0 hi0 ⟨m,hm0,hn0,hg0,hf0⟩;refine Ac (Aa (O1 (A8 ok3 rfl rfl) (Ab (Ac ?_))));refine Ah rfl ?_ ?_ <;> intro h2
  ·have bf : i0 < g.sorts.length := by simpa using h2
   obtain ⟨a0,ha0⟩ := Bt bf;have hd0 := Bh ha0;obtain ⟨vm,hvm⟩ := id hm0;refine Ai (Ac (Am (Ac (Aa (O1 (Ax Da (fun _ => rfl) rfl rfl ha0) ?_)))))
   refine O1 (Ae ld9 rfl rfl rfl) (OA rfl (Ab (Ac (Ac (Aa (OM rfl (Ap rfl rfl rfl rfl (f94 a0 _) ?_)))))));refine O1 (Bb rfl) (OM rfl ?_);refine Cm 3 _ ?_ rfl rfl rfl rfl rfl (Aw rfl) (fun hg => ?_) (fun hg => ?_) ?_
   rotate_left
   ·refine On hg (Ag rfl) (On hg (Ag rfl) (On hg (De st9 Uj rfl hm0 rfl) (Ab ?_)));refine ⟨rfl,?_,?_⟩
    ·exact sb
    ·exact rfl
   ·refine Of hg (Of hg (Of hg (Ab ?_)));exact ⟨rfl,sb⟩
   refine Ab ?_;refine Ah rfl ?_ ?_ <;> intro h3
   ·refine Ac (Aa (OA rfl (Ab ?_)))
    have hE : Gy g = 151 := ((if_neg (fun hh => Bool.noConfusion (h1.symm.trans hh))).trans (if_pos (by rw [hf0,hd0,Aaw,show (!Acz a0 || m.has a0) = true from h3]; rfl)))
    refine An ?_;exact ⟨_,rfl,_,J,ap_ hw ⟨hn0,hg0⟩,nl,.same rfl,congrArg iV hE.symm,rfl⟩
   ·refine Ai (Aa (OM rfl (OM rfl (O1 (E8 (v := true) st9 Uj rfl hvm rfl rfl (fun te k1 k2 => by first | exact Fq k1 k2 | exact Fs k1 k2 | exact Ge k1 k2 | exact Gf k1 k2 | exact Ft k1 k2 rfl)) ?_))))
    refine Ab (Aa (O1 (Ay (q := 1) ok3 rfl rfl Om) ?_));refine OM rfl (Ab ?_)
    refine ⟨bf,SL,m.put a0 true,dh_,by rw [Ak]; exact hn0,fun b hb => by rw [a_,if_neg Om]; exact hg0 b hb,by rw [hf0,hd0,Aaw,show (!Acz a0 || m.has a0) = false from h3]; rfl⟩
  ·have bq : g.sorts.length <= i0 := by simpa using h2
   have hs1 : Aaw g.sorts [] = false := by rw [hf0,ah_ bq]; rfl
   obtain ⟨vm,hvm⟩ := id hm0;refine Ba ?_;refine Ac (Aa (OM rfl (O1 (Amw Uj rfl hvm) (Ab (Ac (Ac (Aa ?_)))))));refine O1 (Ad Gh rfl rfl) (O1 (Ae Qg rfl rfl rfl) (O1 (Aq X0 rfl) (OM rfl (Ab (Am ?_)))))
   refine B8 g.rules.length (fun i2 => [(1,.pv [A3 g.sorts,slV eR 4 g.rules]),(4,.mp (nx J)),(46,slV eR 4 g.rules),(47,iV (.ofNat g.rules.length)),(48,iV (.ofNat i2))]) (fun i2 J2 => ∃ m,E7 J2 (nx J) m /\ nx J <= nx J2 /\ (∀ b,b < nx J -> J2.get b = J.get b) /\ O0 g g.rules [] = O0 g (g.rules.drop i2) m) SL ⟨[],⟨vm + 1,by rw [a_,if_pos rfl]; rfl⟩,by rw [Ak]; exact hn0,fun b hb => by rw [a_,if_neg Om]; exact hg0 b hb,rfl⟩ ?_
   rintro i2 J2 hi2 ⟨m2,hm2,hn2,hg2,hf2⟩;refine Ac (Aa (O1 (A8 ok3 rfl rfl) (Ab (Ac ?_))));refine Ah rfl ?_ ?_ <;> intro h3
   ·have br : i2 < g.rules.length := by simpa using h3
    obtain ⟨a2,ha2⟩ := Bt br;have hd2 := Bh ha2;obtain ⟨vm2,ni⟩ := id hm2;refine Ai (Ac (Am (Ac (Aa (O1 (Ax La (fun _ => rfl) rfl rfl ha2) ?_)))))
    refine O1 (Ae Ey rfl rfl rfl) (Bz X1 Ey rfl (fun _ => rfl) rfl rfl rfl rfl ?_)
    refine Ab (Ac (Ac (Aa (O1 (Ae Ey rfl rfl rfl) (O1 (Ae D3 rfl rfl rfl) (Ap rfl rfl rfl rfl (f95 a2 g _ (hB.p a2 (af_ ha2)) hB.s) (O1 (Bb rfl) ?_)))))));refine OM rfl ?_;refine Cm 4 _ ?_ rfl rfl rfl rfl rfl (Aw rfl) (fun hg => ?_) (fun hg => ?_) ?_
    rotate_left
    ·refine On hg (Ag rfl) (On hg (Ad Aam rfl rfl) (On hg (Ae ld9 rfl rfl rfl) (On hg (De st9 Uj rfl hm2 rfl) (Ab ?_))));refine ⟨rfl,?_,?_⟩
     ·exact sb
     ·exact rfl
    ·refine Of hg (Of hg (Of hg (Of hg (Ab ?_))));exact ⟨rfl,sb⟩
    refine Ab ?_;refine Ah rfl ?_ ?_ <;> intro h4
    ·refine Ac (Aa (OA rfl (Ab ?_)))
     have hE : Gy g = 151 := ((if_neg (fun hh => Bool.noConfusion (h1.symm.trans hh))).trans ((if_neg (by rw [hs1]; simp)).trans (if_pos (by rw [hf2,hd2,O0,show (!Gx g a2 || m2.has a2.label) = true from h4]; rfl))))
     refine An ?_;exact ⟨_,rfl,_,J,ap_ hw ⟨hn2,hg2⟩,nl,.same rfl,congrArg iV hE.symm,rfl⟩
    ·refine Ai (Aa (OM rfl (O1 (Ad Aam rfl rfl) (O1 (Ae ld9 rfl rfl rfl) (O1 (E8 (v := true) st9 Uj rfl ni rfl rfl (fun te k1 k2 => by first | exact Fq k1 k2 | exact Fs k1 k2 | exact Ge k1 k2 | exact Gf k1 k2 | exact Ft k1 k2 rfl)) ?_)))))
     refine Ab (Aa (O1 (Ay (q := 1) ok3 rfl rfl Om) ?_));refine OM rfl (Ab ?_)
     refine ⟨br,SL,m2.put a2.label true,dh_,by rw [Ak]; exact hn2,fun b hb => by rw [a_,if_neg Om]; exact hg2 b hb,by rw [hf2,hd2,O0,show (!Gx g a2 || m2.has a2.label) = false from h4]; rfl⟩
   ·have b8 : g.rules.length <= i2 := by simpa using h3
    have hs2 : O0 g g.rules [] = false := by rw [hf2,ah_ b8]; rfl
    refine Ba ?_;refine Ac (Aa (OA rfl (Ab ?_)))
    have hE : Gy g = 0 := ((if_neg (fun hh => Bool.noConfusion (h1.symm.trans hh))).trans ((if_neg (by rw [hs1]; simp)).trans (if_neg (by rw [hs2]; simp))))
    refine An ?_;exact ⟨_,rfl,_,J,ap_ hw ⟨hn2,hg2⟩,nl,.same rfl,congrArg iV hE.symm,rfl⟩
section
open Go
structure Tb where
 label : Str
 vals : List Int
structure Vl where
 var : Str
 val : Int
def Cf (l : List Rl) (s : Str) : Option Rl := l.find? fun r => decide (r.label = s)
def I3 (l : List Rl) (s : Str) : Bool := match Cf l s with | some r => r.var | none => false
def Eh (r : Rl) : Nat := (r.parts.filter fun p => !decide (p.sort = [])).length
def I4 (l : List (Option Str)) (ps : List Pt) : Bool := ps.all fun p => decide (p.sort = []) || decide (l[p.arg.toNat]? = some (some p.sort))
mutual
def Cq (g : List Rl) : Au -> Option Str
 | .node s ks => match Cf g s with
  | some r => if (I4 (Qp g ks) r.parts && decide (Eh r = ks.length)) = true then some r.sort else none
  | none => none
def Qp (g : List Rl) : List Au -> List (Option Str)
 | [] => []
 | t :: r => Cq g t :: Qp g r
end
theorem Wj (g : List Rl) : ∀ l : List Au,Qp g l = l.map (Cq g)
 | [] => rfl
 | t :: r => by rw [Qp,Wj g r]; rfl
mutual
def D8 (g : List Rl) : Au -> List Str -> List Str
 | .node s ks,acc => Lo g ks (if (I3 g s && !acc.any fun x => decide (s = x)) = true then acc ++ [s] else acc)
def Lo (g : List Rl) : List Au -> List Str -> List Str
 | [],acc => acc
 | t :: r,acc => Lo g r (D8 g t acc)
end
mutual
def ocT (s : Str) : Au -> Bool
 | .node l ks => decide (l = s) || ocL s ks
def ocL (s : Str) : List Au -> Bool
 | [] => false
 | t :: r => ocT s t || ocL s r
end
mutual
theorem Hw {g : List Rl} {v : Str} : ∀ (t : Au) (acc : List Str),v ∈ D8 g t acc ↔ v ∈ acc ∨ (I3 g v = true /\ ocT v t = true)
 | .node s ks,acc => by
  unfold D8 ocT;rw [Ac0 ks]
  by_cases h : (I3 g s && !acc.any fun x => decide (s = x)) = true
  ·rw [if_pos h];simp only [ad_] at h;simp only [bo_,al_,bc_,decide_eq_true_eq]
   constructor
   ·rintro ((h1 | rfl) | ⟨h1,h2⟩)
    ·exact .inl h1
    ·exact .inr ⟨h.1,.inl rfl⟩
    ·exact .inr ⟨h1,.inr h2⟩
   ·rintro (h1 | ⟨h1,rfl | h2⟩)
    ·exact .inl (.inl h1)
    ·exact .inl (.inr rfl)
    ·exact .inr ⟨h1,h2⟩
  ·rw [if_neg h];simp only [bc_,decide_eq_true_eq]
   constructor
   ·rintro (h1 | ⟨h1,h2⟩)
    ·exact .inl h1
    ·exact .inr ⟨h1,.inr h2⟩
   ·rintro (h1 | ⟨h1,rfl | h2⟩)
    ·exact .inl h1
    ·simp only [ad_,h1,true_and,bt_,Bool.not_eq_false] at h;rw [dt_] at h;obtain ⟨x,hx,he⟩ := h;rw [of_decide_eq_true he]; exact .inl hx
    ·exact .inr ⟨h1,h2⟩
theorem Ac0 {g : List Rl} {v : Str} : ∀ (l : List Au) (acc : List Str),v ∈ Lo g l acc ↔ v ∈ acc ∨ (I3 g v = true /\ ocL v l = true)
 | [],acc => by unfold Lo ocL; simp
 | t :: r,acc => by
  unfold Lo ocL;rw [Ac0 r,Hw t];simp only [bc_]
  constructor
  ·rintro ((h | ⟨h1,h2⟩) | ⟨h1,h2⟩)
   ·exact .inl h
   ·exact .inr ⟨h1,.inl h2⟩
   ·exact .inr ⟨h1,.inr h2⟩
  ·rintro (h | ⟨h1,h2 | h2⟩)
   ·exact .inl (.inl h)
   ·exact .inl (.inr ⟨h1,h2⟩)
   ·exact .inr ⟨h1,h2⟩
end
mutual
def Dz (x : Str) (b : Au) : Au -> Au
 | .node s ks => if (decide (s = x) && ks.isEmpty) = true then b else .node s (subL x b ks)
def subL (x : Str) (b : Au) : List Au -> List Au
 | [] => []
 | t :: r => Dz x b t :: subL x b r
end
mutual
theorem Ae4 {x v : Str} {b : Au} (hne : v ≠ x) : ∀ t : Au,ocT v t = true -> ocT v (Dz x b t) = true
 | .node s ks,h => by
  unfold ocT at h;unfold Dz;simp only [bc_,decide_eq_true_eq] at h
  by_cases hs : (decide (s = x) && ks.isEmpty) = true
  ·rw [if_pos hs];simp only [ad_,decide_eq_true_eq,List.isEmpty_iff] at hs;obtain ⟨rfl,rfl⟩ := hs
   rcases h with rfl | h
   ·exact absurd rfl hne
   ·unfold ocL at h; cases h
  ·rw [if_neg hs];unfold ocT
   rcases h with rfl | h
   ·simp
   ·rw [Ahd hne ks h]; simp
theorem Ahd {x v : Str} {b : Au} (hne : v ≠ x) : ∀ l : List Au,ocL v l = true -> ocL v (subL x b l) = true
 | [],h => h
 | t :: r,h => by
  unfold ocL at h;unfold subL ocL;simp only [bc_] at h ⊢
  rcases h with h | h
  ·exact .inl (Ae4 hne t h)
  ·exact .inr (Ahd hne r h)
end
mutual
def okT (g : List Rl) : Au -> Bool
 | .node s ks => (match Cf g s with | some r => decide (Eh r = ks.length) | none => false) && okL g ks
def okL (g : List Rl) : List Au -> Bool
 | [] => true
 | t :: r => okT g t && okL g r
end
theorem Ae5 {g : List Rl} : ∀ {l : List Au},okL g l = true ↔ ∀ t ∈ l,okT g t = true
 | [] => by unfold okL; simp
 | t :: r => by unfold okL; simp only [ad_,Ae5 (l := r),aj_,forall_eq_or_imp]
structure Xj (g : List Rl) : Prop where
 va : ∀ r ∈ g,r.var = true -> Eh r = 0
 cov : ∀ r ∈ g,∀ j,j < Eh r -> ∃ p ∈ r.parts,p.sort ≠ [] /\ p.arg = Int.ofNat j
theorem Nw {g : List Rl} {s : Str} {r : Rl} (h : Cf g s = some r) : r ∈ g := List.mem_of_find?_eq_some h
theorem Asp {g : List Rl} (hg : Xj g) (t : Au) : (Cq g t).isSome = true -> okT g t = true := by
 refine Au.ind' (P := fun t => (Cq g t).isSome = true -> okT g t = true) ?_ t
 intro s ks ih h;unfold Cq at h;unfold okT
 split at h
 ·rename_i r hr
  split at h
  ·rename_i hp
   simp only [ad_,decide_eq_true_eq] at hp ⊢;refine ⟨hp.2,Ae5.2 fun k hk => ih k hk ?_⟩
   obtain ⟨j,hj⟩ := List.getElem?_of_mem hk;have hlt := (ae_.1 hj).1;obtain ⟨p,h1,h2,h3⟩ := hg.cov r (Nw hr) j Om;have hps := bu_.1 hp.1 p h1;simp only [bc_,decide_eq_true_eq] at hps
   rcases hps with hps | hps
   ·exact absurd hps h2
   ·rw [h3,Wj,bn_] at hps;have : (Int.ofNat j).toNat = j := rfl;rw [this,hj] at hps;simp only [dk_,ac_] at hps;rw [hps]; rfl
  ·cases h
 ·cases h
theorem Aqd {g : List Rl} (hg : Xj g) {s : Str} {ks : List Au} (h : okT g (.node s ks) = true) (hv : I3 g s = true) : ks = [] := by
 unfold okT at h;unfold I3 at hv;simp only [ad_] at h;have h := h.1
 split at h
 ·rename_i r hr
  rw [hr] at hv;have := hg.va r (Nw hr) hv;rw [of_decide_eq_true h] at this;exact dj_.1 this
 ·cases h
theorem Rc {g : List Rl} {s : Str} {ks : List Au} (h : okT g (.node s ks) = true) : ∀ k ∈ ks,okT g k = true := by
 unfold okT at h;simp only [ad_] at h;exact Ae5.1 h.2
mutual
theorem Aqe {g : List Rl} (hg : Xj g) {x v : Str} {b : Au} (hb : ocT v b = true) (hx : I3 g x = true) : ∀ t : Au,okT g t = true -> ocT x t = true -> ocT v (Dz x b t) = true
 | .node s ks,ho,h => by
  unfold ocT at h;unfold Dz;simp only [bc_,decide_eq_true_eq] at h
  by_cases hs : (decide (s = x) && ks.isEmpty) = true
  ·rw [if_pos hs]; exact hb
  ·rw [if_neg hs];unfold ocT
   rcases h with rfl | h
   ·have := Aqd hg ho hx;subst this
    simp at hs
   ·rw [Alv hg hb hx ks (Rc ho) h]; simp
theorem Alv {g : List Rl} (hg : Xj g) {x v : Str} {b : Au} (hb : ocT v b = true) (hx : I3 g x = true) : ∀ l : List Au,(∀ k ∈ l,okT g k = true) -> ocL x l = true -> ocL v (subL x b l) = true
 | [],_,h => by unfold ocL at h; cases h
 | t :: r,ho,h => by
  unfold ocL at h;unfold subL ocL;simp only [bc_] at h ⊢
  rcases h with h | h
  ·exact .inl (Aqe hg hb hx t (ho t (by simp)) h)
  ·exact .inr (Alv hg hb hx r (fun k hk => ho k (by simp [hk])) h)
end
def atF (n : Int) (l : List Int) : Int := l.foldl (fun a v => a * n + v) 0
mutual
def evT (tm : SM (List Int)) (n : Int) (by' : Str -> Int) : Au -> Int
 | .node s ks => match tm.get s with
  | some tab => (tab[(atF n (evL tm n by' ks)).toNat]?).getD 0
  | none => by' s
def evL (tm : SM (List Int)) (n : Int) (by' : Str -> Int) : List Au -> List Int
 | [] => []
 | t :: r => evT tm n by' t :: evL tm n by' r
end
theorem Lp {tm : SM (List Int)} {n : Int} {f : Str -> Int} : ∀ l : List Au,evL tm n f l = l.map (evT tm n f)
 | [] => rfl
 | t :: r => by rw [evL,Lp r]; rfl
mutual
theorem Ahe {tm : SM (List Int)} {n : Int} {f h : Str -> Int} : ∀ t : Au,(∀ s,ocT s t = true -> tm.get s = none -> f s = h s) -> evT tm n f t = evT tm n h t
 | .node s ks,hh => by
  unfold evT;cases hs : tm.get s with
  | none => exact hh s (by unfold ocT; simp) hs
  | some tab => simp only [Ac1 ks fun v hv => hh v (by unfold ocT; rw [hv]; simp)]
theorem Ac1 {tm : SM (List Int)} {n : Int} {f h : Str -> Int} : ∀ l : List Au,(∀ s,ocL s l = true -> tm.get s = none -> f s = h s) -> evL tm n f l = evL tm n h l
 | [],_ => rfl
 | t :: r,hh => by
  unfold evL
  rw [Ahe t fun v hv => hh v (by unfold ocL; rw [hv]; simp),Ac1 r fun v hv => hh v (by unfold ocL; rw [hv]; simp)]
end
mutual
theorem Aqf {g : List Rl} (hg : Xj g) {tm : SM (List Int)} {n : Int} {f h : Str -> Int} {x : Str} {b : Au} (hx : I3 g x = true) (htx : tm.get x = none) : ∀ t : Au,okT g t = true ->
  (∀ s,ocT s t = true -> s ≠ x -> tm.get s = none -> f s = h s) -> (ocT x t = true -> f x = evT tm n h b) -> evT tm n f t = evT tm n h (Dz x b t)
 | .node s ks,ho,h1,h2 => by
  unfold Dz
  by_cases hs : (decide (s = x) && ks.isEmpty) = true
  ·rw [if_pos hs];simp only [ad_,decide_eq_true_eq,List.isEmpty_iff] at hs;obtain ⟨rfl,rfl⟩ := hs;rw [evT.eq_1,htx]
   exact h2 (by unfold ocT; simp)
  ·rw [if_neg hs]
   have hne : s ≠ x := fun he => by
    subst he;have := Aqd hg ho hx;subst this
    simp at hs
   unfold evT;cases hsn : tm.get s with
   | none => exact h1 s (by unfold ocT; simp) hne hsn
   | some tab => simp only [Alw hg hx htx ks (Rc ho) (fun v hv => h1 v (by unfold ocT; rw [hv]; simp)) (fun hv => h2 (by unfold ocT; rw [hv]; simp))]
theorem Alw {g : List Rl} (hg : Xj g) {tm : SM (List Int)} {n : Int} {f h : Str -> Int} {x : Str} {b : Au} (hx : I3 g x = true) (htx : tm.get x = none) : ∀ l : List Au,(∀ k ∈ l,okT g k = true) ->
  (∀ s,ocL s l = true -> s ≠ x -> tm.get s = none -> f s = h s) -> (ocL x l = true -> f x = evT tm n h b) -> evL tm n f l = evL tm n h (subL x b l)
 | [],_,_,_ => rfl
 | t :: r,ho,h1,h2 => by
  unfold subL evL
  rw [Aqf hg hx htx t (ho t (by simp)) (fun v hv => h1 v (by unfold ocL; rw [hv]; simp)) (fun hv => h2 (by unfold ocL; rw [hv]; simp)),
   Alw hg hx htx r (fun k hk => ho k (by simp [hk])) (fun v hv => h1 v (by unfold ocL; rw [hv]; simp)) (fun hv => h2 (by unfold ocL; rw [hv]; simp))]
end
theorem Alx (n : Int) (l : List Int) (v : Int) : atF n (l ++ [v]) = atF n l * n + v := by unfold atF; rw [g_]; rfl
theorem Ac2 {n : Int} (hn : 1 <= n) (l : List Int) : (∀ v ∈ l,0 <= v /\ v < n) -> 0 <= atF n l /\ atF n l < n ^ l.length := by
 suffices h : ∀ m : List Int,(∀ v ∈ m.reverse,0 <= v /\ v < n) -> 0 <= atF n m.reverse /\ atF n m.reverse < n ^ m.length by
  intro hl
  have := h l.reverse (by rw [List.reverse_reverse]; exact hl)
  rwa [List.reverse_reverse,List.length_reverse] at this
 intro m
 induction m with
 | nil => intro _; simp [atF]
 | cons v m ih =>
  intro hm;rw [dc_] at hm ⊢;rw [Alx,aq_,Int.pow_succ]
  obtain ⟨h1,h2⟩ := ih fun y hy => hm y (by simp [List.mem_reverse.1 hy])
  obtain ⟨h3,h4⟩ := hm v (by simp)
  have h5 : 0 <= atF n m.reverse * n := Int.mul_nonneg h1 Om;have h6 : (atF n m.reverse + 1) * n <= n ^ m.length * n := Int.mul_le_mul_of_nonneg_right Om Om;rw [Int.add_mul,Int.one_mul] at h6
  exact ⟨by omega,by omega⟩
structure Abq (g : List Rl) (tm : SM (List Int)) (n : Int) : Prop where
 n1 : 1 <= n
 key : ∀ s tab,tm.get s = some tab -> ∃ r,Cf g s = some r /\ r.var = false /\ Int.ofNat tab.length = n ^ Eh r
 val : ∀ s tab,tm.get s = some tab -> ∀ v ∈ tab,0 <= v /\ v < n
 len : ∀ s tab,tm.get s = some tab -> tab.length <= 10000
mutual
theorem Uu {g : List Rl} {tm : SM (List Int)} {n : Int} {f : Str -> Int} (ht : Abq g tm n) (hf : ∀ s,0 <= f s /\ f s < n) : ∀ t : Au,okT g t = true -> 0 <= evT tm n f t /\ evT tm n f t < n
 | .node s ks,ho => by
  unfold evT;cases hs : tm.get s with
  | none => exact hf s
  | some tab =>
   simp only;cases hv : tab[(atF n (evL tm n f ks)).toNat]? with
   | none => have := ht.n1; simp; omega
   | some v => exact ht.val s tab hs v (af_ hv)
end
theorem ev_at {g : List Rl} {tm : SM (List Int)} {n : Int} {f : Str -> Int} (ht : Abq g tm n) (hf : ∀ s,0 <= f s /\ f s < n) {s : Str} {ks : List Au} {tab : List Int} (ho : okT g (.node s ks) = true) (hs : tm.get s = some tab) : 0 <= atF n (evL tm n f ks) /\ (atF n (evL tm n f ks)).toNat < tab.length := by
 obtain ⟨r,h1,h2,h3⟩ := ht.key s tab hs
 have bx : Eh r = ks.length := by
  unfold okT at ho;rw [h1] at ho;simp only [ad_,decide_eq_true_eq] at ho;exact ho.1
 obtain ⟨k1,k2⟩ := Ac2 ht.n1 (evL tm n f ks) fun v hv => by
  rw [Lp] at hv;obtain ⟨k,hk,rfl⟩ := by_.1 hv;exact Uu ht hf k (Rc ho k hk)
 rw [Lp,cs_,← bx,← h3,← Lp] at k2
 exact ⟨k1,by simp only [am_] at k2; omega⟩
def It (l : List Vl) (s : Str) : Option Int := (l.find? fun x => decide (x.var = s)).map (·.val)
def Mj (n : Int) (l : List Vl) : List Str -> Int
 | [] => 0
 | s :: r => match It l s with
  | none => 5
  | some v => if (decide (v < 0) || decide (n <= v)) = true then 3 else Mj n l r
def byF (vs : List Str) (l : List Vl) (s : Str) : Int := if s ∈ vs then (It l s).getD 0 else 0
theorem Uv {n : Int} {l : List Vl} : ∀ {vs : List Str},Mj n l vs = 0 ↔ ∀ s ∈ vs,∃ v,It l s = some v /\ 0 <= v /\ v < n
 | [] => by simp [Mj]
 | s :: r => by
  unfold Mj;cases h : It l s with
  | none => simp [h]
  | some v =>
   simp only [aj_,forall_eq_or_imp,h,ac_,exists_eq_left']
   by_cases hb : (decide (v < 0) || decide (n <= v)) = true
   ·rw [if_pos hb];simp only [bc_,decide_eq_true_eq] at hb
    constructor
    ·intro hh; cases hh
    ·rintro ⟨h1,_⟩; omega
   ·rw [if_neg hb,Uv (vs := r)];simp only [bc_,decide_eq_true_eq,not_or] at hb
    constructor
    ·intro hh; exact ⟨by omega,hh⟩
    ·exact fun hh => hh.2
theorem Ac3 {n : Int} {l : List Vl} {vs : List Str} (hn : 1 <= n) (h : Mj n l vs = 0) (s : Str) : 0 <= byF vs l s /\ byF vs l s < n := by
 unfold byF
 split
 ·rename_i hs
  obtain ⟨v,h1,h2,h3⟩ := Uv.1 h s hs;rw [h1]; exact ⟨h2,h3⟩
 ·omega
def Ajx (g : List Rl) (n : Int) (l : List Vl) (t : Au) : Int := Mj n l (D8 g t [])
def evE (g : List Rl) (tm : SM (List Int)) (n : Int) (l : List Vl) (t : Au) : Int := evT tm n (byF (D8 g t []) l) t
theorem Anl {g : List Rl} (hg : Xj g) {tm : SM (List Int)} {n : Int} (ht : Abq g tm n) {x : Str} {t b : Au} {l : List Vl} (hx : I3 g x = true) (ho : okT g t = true) (hob : okT g b = true)
  (h1 : Ajx g n l (Dz x b t) = 0) (h2 : Ajx g n l b = 0) :
  Ajx g n (⟨x,evE g tm n l b⟩ :: l) t = 0 /\ evE g tm n (⟨x,evE g tm n l b⟩ :: l) t = evE g tm n l (Dz x b t) := by
 have hvx : ∀ v,It (⟨x,v⟩ :: l) x = some v := fun v => by simp [It]
 have hvn : ∀ v s,s ≠ x -> It (⟨x,v⟩ :: l) s = It l s := fun v s hs => by
  simp only [It,List.find?_cons];rw [decide_eq_false (fun he => hs he.symm)]
 have hr := Uu ht (Ac3 ht.n1 h2) b hob
 have hv1 : Ajx g n (⟨x,evE g tm n l b⟩ :: l) t = 0 := by
  refine Uv.2 fun s hs => ?_
  by_cases hsx : s = x
  ·subst hsx; exact ⟨_,hvx _,hr⟩
  ·rw [hvn _ s hsx];refine Uv.1 h1 s ?_;rw [Hw] at hs ⊢
   rcases hs with hs | ⟨hs1,hs2⟩
   ·cases hs
   ·exact .inr ⟨hs1,Ae4 hsx t hs2⟩
 refine ⟨hv1,?_⟩
 have htx : tm.get x = none := by
  cases hh : tm.get x with
  | none => rfl
  | some tab =>
   obtain ⟨r,q1,q2,_⟩ := ht.key x tab hh;unfold I3 at hx;rw [q1] at hx; simp only at hx; rw [q2] at hx; cases hx
 have hnv : ∀ (vs : List Str) (l : List Vl) (s : Str),I3 g s = false -> (s ∈ vs -> I3 g s = true) -> byF vs l s = 0 := fun vs l s hs hm => by
  unfold byF
  rw [if_neg fun hh => by rw [hm hh] at hs; cases hs]
 have hmv : ∀ {t : Au} {s : Str},s ∈ D8 g t [] -> I3 g s = true := fun hs => by
  rw [Hw] at hs
  rcases hs with hs | hs
  ·cases hs
  ·exact hs.1
 unfold evE;refine Aqf hg hx htx t ho (fun s hs hsx _ => ?_) (fun hox => ?_)
 ·cases hvs : I3 g s with
  | false => rw [hnv _ _ s hvs hmv,hnv _ _ s hvs hmv]
  | true =>
   unfold byF;rw [if_pos ((Hw _ _).2 (.inr ⟨hvs,hs⟩)),if_pos ((Hw _ _).2 (.inr ⟨hvs,Ae4 hsx t hs⟩)),hvn _ s hsx]
 ·have e1 : byF (D8 g t []) (⟨x,evT tm n (byF (D8 g b []) l) b⟩ :: l) x = evT tm n (byF (D8 g b []) l) b := by
   unfold byF;rw [if_pos ((Hw _ _).2 (.inr ⟨hx,hox⟩)),hvx]; rfl
  rw [e1];refine Ahe b fun s hs _ => ?_
  cases hvs : I3 g s with
  | false => rw [hnv _ _ s hvs hmv,hnv _ _ s hvs hmv]
  | true =>
   unfold byF;rw [if_pos ((Hw _ _).2 (.inr ⟨hvs,hs⟩)),if_pos ((Hw _ _).2 (.inr ⟨hvs,Aqe hg hs hx t ho hox⟩))]
end
theorem Ac4 : ∀ {l : List Int} {i : Nat},Ae3 l i = false -> ∀ j,j < l.length -> l[j]? = some (Int.ofNat (i + j))
 | [],_,_,j,hj => by simp at hj
 | a :: r,i,h,j,hj => by
  unfold Ae3 at h;simp only [cp_,ev_,decide_eq_true_eq] at h;cases j with
  | zero => simp [h.1]
  | succ j =>
   have := Ac4 h.2 j (by simpa using hj)
   simp only [bh_,this]
   congr 2; omega
theorem Ac5 (r : Rl) : (Dv r).length = Eh r := by unfold Dv Hv Eh Ahc; simp
theorem Sq {g : Gr} {r : Rl} (h : Gx g r = true) : (r.var = true -> Eh r = 0) /\ (∀ j,j < Eh r -> ∃ p ∈ r.parts,p.sort ≠ [] /\ p.arg = Int.ofNat j) /\ (∀ p ∈ r.parts,p.sort ≠ [] -> ∃ j : Nat,p.arg = Int.ofNat j /\ j < Eh r) := by
 unfold Gx at h
 split at h
 ·cases h
 ·split at h
  ·cases h
  ·rename_i hb
   rw [Bool.not_eq_true] at hb;have hs := Ac4 hb
   have bx : (Ef (Dv r)).length = Eh r := by rw [Rb,Ac5]
   have eu : ∀ x,x ∈ Ef (Dv r) ↔ x ∈ Dv r := fun x => (List.mergeSort_perm _ _).mem_iff
   refine ⟨fun hv => ?_,fun j hj => ?_,fun p hp hps => ?_⟩
   ·rw [hv] at h;simp only [Bool.not_true,Bool.false_or,ad_,decide_eq_true_eq] at h;rw [← Ac5]; simpa using h.2
   ·have h1 := hs j (by rw [bx]; exact hj)
    have h2 := (eu _).1 (af_ h1);unfold Dv at h2;obtain ⟨p,hp,he⟩ := by_.1 h2;unfold Hv at hp;rw [ds_] at hp
    exact ⟨p,hp.1,by simpa [Ahc] using hp.2,by rw [he,bf_]⟩
   ·have h2 : p.arg ∈ Dv r := by
     unfold Dv Hv
     exact cd_ (ds_.2 ⟨hp,by simpa [Ahc] using hps⟩)
    obtain ⟨j,hj⟩ := List.getElem?_of_mem ((eu _).2 h2);have hlt := (ae_.1 hj).1;have h1 := hs j hlt;rw [hj] at h1
    exact ⟨j,by simpa using h1,by rw [← bx]; exact hlt⟩
theorem Aax {g : Gr} : ∀ {l : List Rl} {m : SM Bool},O0 g l m = false -> (∀ r ∈ l,Gx g r = true) /\ (l.map (·.label)).Nodup /\ ∀ r ∈ l,m.has r.label = false
 | [],m,_ => ⟨by simp,by simp,by simp⟩
 | r :: l,m,h => by
  unfold O0 at h;simp only [cp_,ev_] at h;obtain ⟨⟨h1,h2⟩,h3⟩ := h;obtain ⟨k1,k2,k3⟩ := Aax h3
  have k4 : ∀ x ∈ l,x.label ≠ r.label /\ m.has x.label = false := fun x hx => by
   have := k3 x hx;rw [SM.has_put] at this;simp only [cp_,decide_eq_false_iff_not] at this;exact this
  refine ⟨by simp only [aj_,forall_eq_or_imp]; exact ⟨h1,k1⟩,?_,by simp only [aj_,forall_eq_or_imp]; exact ⟨h2,fun x hx => (k4 x hx).2⟩⟩
  simp only [ca_,eu_];refine ⟨fun hh => ?_,k2⟩
  obtain ⟨x,hx,he⟩ := by_.1 hh;exact (k4 x hx).1 he
structure GOk (g : Gr) : Prop where
 rs : Xj g.rules
 nd : (g.rules.map (·.label)).Nodup
 arg : ∀ r ∈ g.rules,∀ p ∈ r.parts,p.sort ≠ [] -> ∃ j : Nat,p.arg = Int.ofNat j /\ j < Eh r
 len : g.rules.length <= 600
 prt : ∀ r ∈ g.rules,r.parts.length <= 200
theorem Anm {g : Gr} (h : Gy g = 0) : GOk g := by
 unfold Gy at h
 split at h
 ·cases h
 ·rename_i h0
  split at h
  ·cases h
  ·split at h
   ·cases h
   ·rename_i hb
    rw [Bool.not_eq_true] at hb;obtain ⟨k1,k2,_⟩ := Aax hb;simp only [bc_,decide_eq_true_eq,dt_,not_or,not_exists,not_and,am_] at h0
    exact ⟨⟨fun r hr => (Sq (k1 r hr)).1,fun r hr => (Sq (k1 r hr)).2.1⟩,k2,fun r hr => (Sq (k1 r hr)).2.2,by have := h0.1.2; omega,fun r hr => by have := h0.2 r hr; omega⟩
theorem Nx {l : List Rl} {s : Str} : (A7 (fun r => decide (r.label = s)) l 0 = -1 /\ Cf l s = none) ∨ ∃ n r,A7 (fun r => decide (r.label = s)) l 0 = Int.ofNat n /\ l[n]? = some r /\ Cf l s = some r := by
 have key : ∀ (l : List Rl) (i : Nat),(A7 (fun r => decide (r.label = s)) l i = -1 /\ Cf l s = none) ∨ ∃ n r,A7 (fun r => decide (r.label = s)) l i = Int.ofNat (i + n) /\ l[n]? = some r /\ Cf l s = some r := by
  intro l
  induction l with
  | nil => intro i; exact .inl ⟨rfl,rfl⟩
  | cons r l ih =>
   intro i;unfold A7 Cf;rw [List.find?_cons]
   by_cases h : r.label = s
   ·rw [decide_eq_true h];exact .inr ⟨0,r,rfl,rfl,rfl⟩
   ·rw [decide_eq_false h]
    rcases ih (i + 1) with ⟨h1,h2⟩ | ⟨n,x,h1,h2,h3⟩
    ·exact .inl ⟨h1,h2⟩
    ·exact .inr ⟨n + 1,x,by rw [cond_false,h1]; congr 1; omega,h2,h3⟩
 rcases key l 0 with h | ⟨n,r,h1,h2,h3⟩
 ·exact .inl h
 ·exact .inr ⟨n,r,by rw [h1,bf_],h2,h3⟩
def Ev : List Rl -> Nat -> SM Nat -> SM Nat
 | [],_,m => m
 | r :: l,i,m => Ev l (i + 1) (m.put r.label i)
theorem Aay {s : Str} : ∀ {l : List Rl} {i : Nat} {m : SM Nat},(l.map (·.label)).Nodup -> (∀ r ∈ l,m.get r.label = none) ->
  (Cf l s = none -> (Ev l i m).get s = m.get s) /\ ∀ r,Cf l s = some r -> ∃ j,(Ev l i m).get s = some (i + j) /\ l[j]? = some r
 | [],i,m,_,_ => ⟨fun _ => rfl,fun r h => by cases h⟩
 | x :: l,i,m,hn,hm => by
  simp only [ca_,eu_] at hn
  have hm' : ∀ r ∈ l,(m.put x.label i).get r.label = none := fun r hr => by
   rw [bz_,if_neg (fun he => hn.1 (by rw [← he]; exact cd_ hr))]
   exact hm r (by simp [hr])
  obtain ⟨k1,k2⟩ := Aay (s := s) (i := i + 1) (m := m.put x.label i) hn.2 hm';unfold Cf;rw [List.find?_cons];unfold Ev
  by_cases h : x.label = s
  ·rw [decide_eq_true h]
   have hno : Cf l s = none := by
    unfold Cf;rw [List.find?_eq_none];intro r hr hh
    exact hn.1 (by rw [h,← of_decide_eq_true hh]; exact cd_ hr)
   refine ⟨fun hh => (by cases hh),fun r hr => ⟨0,?_,(by cases hr; rfl)⟩⟩
   rw [k1 hno,bz_,if_pos h.symm]; rfl
  ·rw [decide_eq_false h];refine ⟨fun hh => ?_,fun r hr => ?_⟩
   ·rw [k1 hh,bz_,if_neg (fun he => h he.symm)]
   ·obtain ⟨j,h1,h2⟩ := k2 r hr
    exact ⟨j + 1,by rw [h1]; congr 1; omega,h2⟩
end Go.AM
