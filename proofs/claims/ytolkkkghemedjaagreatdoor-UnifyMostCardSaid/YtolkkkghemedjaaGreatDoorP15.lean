/- A part of the proof; shortened by program. -/
import Derived.Test.YtolkkkghemedjaaGreatDoorP14
set_option maxRecDepth 100000
set_option maxHeartbeats 4000000
set_option linter.unusedSimpArgs false
set_option linter.unusedVariables false
namespace Go.AM
open Go Go.Proofs
theorem Ap6 {l : Str} {kids : List Nat} {b : Bool} (h : ((Kg l).isSome && decide (Int.ofNat kids.length = 0)) = b) : lfW ⟨l,kids⟩ = b := by
 rw [← h];unfold lfW
 congr 1
 cases kids with
 | nil => rfl
 | cons a r => show false = _; rw [decide_eq_false]; simp; omega
def Abu (Y : Sq) : List Ah -> Sto × Nat × AV -> Sto × Nat × AV -> Prop
 | [],s,f => f = s
 | t :: r,s,f => ∃ n τ1 kv τ2 at' τ3,(Ao Ew 68 [.pr Y.A 0,Ap t] s.1 fun v U' => v = nV n /\ U' = τ1) /\ Bm τ1 1 8 s.2.2 1 (eW n) = some (kv,τ2) /\ (Ao Ew 105 [.pr Y.A 0,.agg [sV [],nV s.2.1,nV n]] τ2 fun v U' => v = nV at' /\ U' = τ3) /\ nx s.1 <= nx τ3 /\ Abu Y r (τ3,at',kv) f
theorem Abu.inv {Y : Sq} {t : Ah} {r : List Ah} {s f : Sto × Nat × AV} (h : Abu Y (t :: r) s f) : ∃ n τ1 kv τ2 at' τ3,(Ao Ew 68 [.pr Y.A 0,Ap t] s.1 fun v U' => v = nV n /\ U' = τ1) /\ Bm τ1 1 8 s.2.2 1 (eW n) = some (kv,τ2) /\ (Ao Ew 105 [.pr Y.A 0,.agg [sV [],nV s.2.1,nV n]] τ2 fun v U' => v = nV at' /\ U' = τ3) /\ nx s.1 <= nx τ3 /\ Abu Y r (τ3,at',kv) f := h
theorem Abu.inv0 {Y : Sq} {s f : Sto × Nat × AV} (h : Abu Y [] s f) : f = s := h
def Ap7 (Y : Sq) (l : Str) (kids : List Nat) (at' : Nat) (U : Sto) (kv : AV) (d : Sa) (S : NS) (N : Nat) (T : Sto) : Prop :=
 (S.W.get (.ofNat at') = some N /\ T = U) ∨ ∃ vh vN τ2,S.W.get (.ofNat at') = none /\ N = S.nodes.length /\ Sn Y (without U kv) S d /\ (without U kv).get d.h = some (.map 3 (Cz nV S.W) vh) /\ Sn Y ((without U kv).set d.h (.map 3 (Cz nV (S.W.put (.ofNat at') S.nodes.length)) (vh + 1))) { S with W := S.W.put (.ofNat at') S.nodes.length } d /\
  Bm ((without U kv).set d.h (.map 3 (Cz nV (S.W.put (.ofNat at') S.nodes.length)) (vh + 1))) 2 40 d.n 1 (eNd ⟨l,kids⟩) = some (vN,τ2) /\ (vN.cellsN 1 = some [vN] /\ τ2.get Y.A = some (.cells (d.cells Y))) /\ (lenA d.w = some S.works.length /\ Yb d.w = true) /\
  ((lfW ⟨l,kids⟩ = false /\ Ao Ew 106 [.pr Y.A 6,.agg (eC (.ofNat S.nodes.length,-1))] (((τ2.set Y.A (.cells (({ d with n := vN } : Sa).cells Y))).new (.cells [.int .i64 0,.int .i64 0])).set (nx (τ2.set Y.A (.cells (({ d with n := vN } : Sa).cells Y)))) (.cells (eC (.ofNat S.nodes.length,-1)))) fun v U' => v = nV S.par.length /\ U' = T) ∨
   (lfW ⟨l,kids⟩ = true /\ ∃ vW τ6,(((τ2.set Y.A (.cells (({ d with n := vN } : Sa).cells Y))).new (.cells [.int .i64 0,.int .i64 0])).set (nx (τ2.set Y.A (.cells (({ d with n := vN } : Sa).cells Y)))) (.cells (eC (.ofNat S.nodes.length,-1)))).get Y.A = some (.cells (({ d with n := vN } : Sa).cells Y)) /\ ((((τ2.set Y.A (.cells (({ d with n := vN } : Sa).cells Y))).new (.cells [.int .i64 0,.int .i64 0])).set (nx (τ2.set Y.A (.cells (({ d with n := vN } : Sa).cells Y)))) (.cells (eC (.ofNat S.nodes.length,-1)))).set (nx (τ2.set Y.A (.cells (({ d with n := vN } : Sa).cells Y)))) (.cells (eC (-1,.ofNat S.works.length)))).get Y.A = some (.cells (({ d with n := vN } : Sa).cells Y)) /\
    Bm ((((τ2.set Y.A (.cells (({ d with n := vN } : Sa).cells Y))).new (.cells [.int .i64 0,.int .i64 0])).set (nx (τ2.set Y.A (.cells (({ d with n := vN } : Sa).cells Y)))) (.cells (eC (.ofNat S.nodes.length,-1)))).set (nx (τ2.set Y.A (.cells (({ d with n := vN } : Sa).cells Y)))) (.cells (eC (-1,.ofNat S.works.length)))) 1 8 d.w 1 (eW S.nodes.length) = some (vW,τ6) /\ vW.cellsN 1 = some [vW] /\ τ6.get Y.A = some (.cells (({ d with n := vN } : Sa).cells Y)) /\ (τ6.set Y.A (.cells (({ d with n := vN,w := vW } : Sa).cells Y))).get (nx (τ2.set Y.A (.cells (({ d with n := vN } : Sa).cells Y)))) = some (.cells (eC (-1,.ofNat S.works.length))) /\
    Ao Ew 106 [.pr Y.A 6,.agg (eC (-1,.ofNat S.works.length))] (τ6.set Y.A (.cells (({ d with n := vN,w := vW } : Sa).cells Y))) fun v U' => v = nV S.par.length /\ U' = T))
theorem f68w (Y : Sq) (l : Str) (ks : List Ah) (S : NS) (d : Sa) (U U1 : Sto) (a0 : Nat) (ju : l.length <= 281474976710656) (hb : By ks <= 1000000) (c0 : Ao Ew 105 [.pr Y.A 0,.agg [sV l,iV (-1),iV (-1)]] U fun v U' => v = nV a0 /\ U' = U1) (hn0 : nx U <= nx U1) {Uf : Sto} {atf : Nat} {kvf : AV} (bx : Abu Y ks (U1,a0,.nil (.slice none 0 0)) (Uf,atf,kvf)) {kids : List Nat}
  (hS : Sn Y Uf S d) (ho : Own Uf (nx U) eW 1 kids kvf) {N : Nat} {T : Sto} (dk : Ap7 Y l kids atf Uf kvf d S N T) (hnT : nx U <= nx T) : Ao Ew 68 [.pr Y.A 0,Ap (.node l ks)] U fun v U' => v = nV N /\ U' = T := by
 obtain ⟨fin,c5⟩ : ∃ fin,fin = (Uf,atf,kvf) := ⟨_,rfl⟩;rw [← c5] at bx;refine An Tryz.func68 rfl rfl fun hw hu0 => ?_
 refine G2 ?_;refine Fa ldC rfl (A1 (eT_len (.node l ks))) rfl ?_;refine G6 ?_
 refine O1 (Ad ldC rfl rfl (by rw [Cc]; rfl)) ?_
 refine G ?_;refine Ag rfl rfl rfl rfl c0 ?_;refine G10 ?_
 refine O1 (Ad (v := slV eT 2 ks) ldC rfl rfl (by rw [Cc]; rfl)) ?_
 refine G4 ?_
 refine B3 (fun z : Nat × Nat × AV => [(0,.pr Y.A 0),(3,.pv (eT (.node l ks))),(5,nV z.2.1),(6,z.2.2),(23,slV eT 2 ks),(24,iV (.ofNat ks.length)),(25,nV z.1)]) (fun z τ => z.1 <= ks.length /\ nx U <= nx τ /\ Abu Y (ks.drop z.1) (τ,z.2.1,z.2.2) fin) (fun z => ks.length - z.1) (0,a0,.nil (.slice none 0 0)) SL ⟨bh_ _,hn0,by rw [du_]; exact bx⟩ ?_
 rintro ⟨i0,at0,kv0⟩ U0 ⟨hi0,n9,hR⟩;have hi0 : i0 <= ks.length := hi0;have hR : Abu Y (ks.drop i0) (U0,at0,kv0) fin := hR;refine G5 ?_;refine Ab rfl ?_ ?_ <;> intro h1
 ·have bc : i0 < ks.length := by simpa using h1
  obtain ⟨t0,ht0⟩ := A6 bc;have hkl := Ed ks;rw [Ay ht0] at hR;obtain ⟨n0,τ1,kv1,τ2,at1,τ3,cc1,hap,cc2,hn3,hR⟩ := hR.inv;refine G5 ?_;refine O1 (Ax elC eT_len rfl rfl ht0) (O1 (Ad ldC rfl rfl (Ba (eT_len t0) _)) (Dh ziC ldC rfl (fun _ => rfl) rfl (A1 (eT_len t0)) rfl rfl ?_))
  refine G5 ?_;refine Ag rfl rfl rfl rfl cc1 ?_;refine G6 ?_;refine C1 (As elC byW rfl rfl rfl) (D6 (len := 1)) rfl rfl (O1 (A3 elC rfl slC rfl rfl rfl (new := eW n0) rfl hap) ?_);refine G7 ?_;refine Ag rfl rfl rfl rfl cc2 ?_;refine G6 ?_
  exact ⟨(i0 + 1,at1,kv1),by show ks.length - (i0 + 1) < ks.length - i0; omega,SL,bc,ax_ n9 hn3,hR⟩
 ·have bk : ks.length <= i0 := by simpa using h1
  rw [ah_ bk] at hR;have hfe := hR.inv0;rw [c5] at hfe;cases hfe;refine G7 ?_;refine O1 (A5 hS.c ldC rfl rfl) ?_;refine G ?_;refine O1 (Oz (k := Int.ofNat atf) Aov rfl hS.gh rfl (Aaw _)) ?_;refine G10 ?_;refine Ab rfl ?_ ?_ <;> intro h2
  ·have h2 : (S.W.get (.ofNat atf)).isSome = true := h2
   rcases dk with ⟨hW,rfl⟩ | ⟨_,_,_,hW,_⟩
   rotate_left
   ·rw [hW] at h2; cases h2
   refine G2 ?_
   refine O1 (Al (v := nV N) (by show some (((S.W.get (.ofNat atf)).map nV).getD _) = _; rw [hW]; rfl)) ?_
   refine G2 ?_;refine C3 fun hw9 => ?_
   refine G ?_;exact ⟨_,rfl,_,_,ag_ hw9 nl (fun _ _ => rfl),hnT,.same rfl,rfl,rfl⟩
  ·have h2 : (S.W.get (.ofNat atf)).isSome = false := h2
   rcases dk with ⟨hW,_⟩ | ⟨vh,vN,τ2,hW,rfl,hF,hvh,hS1,hap,⟨hvN,hc2⟩,how,hx⟩
   ·rw [hW] at h2; cases h2
   refine G ?_;refine C3 fun hw8 => ?_
   refine An7 (without Uf kvf) [(0,.pr Y.A 0),(3,.pv (eT (.node l ks))),(5,nV atf),(6,slV eW 1 kids)] (D5.without hw8) (by rw [Di]; exact n9) ⟨⟨_,rfl,.same (Ce (by rw [Di]; exact hS.lA))⟩,⟨_,rfl,.same (Gh _)⟩,⟨_,rfl,.same rfl⟩,⟨_,rfl,ho.fzA E4 (fun b hb => by rw [Hv,if_pos hb]) (Ahn _)⟩,trivial⟩ ?_
   have hol := hF.on.lenA
   obtain ⟨wu,wn,hwk⟩ : ∃ u m,wkV (Kg l) = .tup [sV u,iV m,.bool (Kg l).isSome] := by
    cases hh : Kg l with
    | none => exact ⟨_,_,rfl⟩
    | some p => exact ⟨_,_,rfl⟩
   refine G5 ?_;refine O1 (A5 hF.c ldC rfl rfl) (O1 (B0 slC rfl hol.1 hol.2) ?_);refine G7 ?_;refine O1 (A5 hF.c ldC rfl rfl) ?_;refine G2 ?_;refine O1 (X1 (enc := nV) (k := Int.ofNat atf) (v := S.nodes.length) Aov rfl hvh rfl (Aaw _) rfl (fun te k1 k2 => Gu k1 k2)) ?_
   refine G2 ?_;refine XS (l := []) trivial ?_;refine G4 ?_;refine DF (A5 hS1.c ldC rfl rfl) ?_;refine G ?_
   refine DF (Ad ldC rfl rfl (by rw [Cc]; rfl)) ?_
   refine G2 ?_;refine DF (As elC byW rfl rfl rfl) (DT (A3 elC rfl slC rfl rfl rfl (new := eNd ⟨l,kids⟩) rfl hap) ?_);refine G2 ?_;refine DT (E3 (cs' := ({ d with n := vN } : Sa).cells Y) hc2 ldC rfl rfl hvN rfl) ?_;refine G ?_
   generalize τ2.set Y.A (.cells (({ d with n := vN } : Sa).cells Y)) = τ3 at *
   refine G4 ?_
   refine O1 (Ct ziC) (O1 (E3 (cs := [.int .i64 0,.int .i64 0]) (cs' := eC (.ofNat S.nodes.length,-1)) (by rw [ab_,if_pos rfl]) ldC rfl rfl rfl rfl) ?_)
   refine G ?_;obtain ⟨e,he⟩ : ∃ e,nx τ3 = e := ⟨_,rfl⟩;rw [he] at hx ⊢
   have he4 : ((τ3.new (.cells [.int .i64 0,.int .i64 0])).set e (.cells (eC (.ofNat S.nodes.length,-1)))).get e = some (.cells (eC (.ofNat S.nodes.length,-1))) := by rw [a_,if_pos rfl]
   generalize ((τ3.new (.cells [.int .i64 0,.int .i64 0])).set e (.cells (eC (.ofNat S.nodes.length,-1)))) = τ4 at *
   refine G4 ?_
   refine O1 (Ad ldC rfl rfl (by rw [Cc]; rfl)) ?_
   refine Ag rfl rfl rfl rfl (f75w l _ ju hwk) ?_;refine G12 ?_;refine TAn 3 ?_ (fun hg => ?_) ?_
   rotate_left
   ·iterate 3 refine Gn hg ?_
    exact Ez
   refine G ?_;refine Ab rfl ?_ ?_ <;> intro h3
   ·have hl3 : lfW ⟨l,kids⟩ = true := Ap6 (kids := kids) h3
    rcases hx with ⟨hlf,_⟩ | ⟨_,vW,τ6,qv,qw,je,hvW,ji,jo,c106⟩
    ·rw [hl3] at hlf; cases hlf
    refine G5 ?_;refine O1 (A5 qv ldC rfl rfl) (O1 (B0 slC rfl how.1 how.2) ?_);refine G ?_;refine O1 (E3 (cs' := eC (-1,.ofNat S.works.length)) he4 ldC rfl rfl rfl rfl) ?_;refine G6 ?_;refine O1 (A5 qw ldC rfl rfl) ?_;refine G ?_;refine C1 (As elC byW rfl rfl rfl) (D6 (len := 1)) rfl rfl (O1 (A3 elC rfl slC rfl rfl rfl (new := eW S.nodes.length) rfl je) ?_);refine G2 ?_;refine O1 (E3 (cs' := ({ d with n := vN,w := vW } : Sa).cells Y) ji ldC rfl rfl hvW rfl) ?_;refine G2 ?_;refine XS (l := [(106,[.pr Y.A 6,.agg (eC (-1,.ofNat S.works.length))],τ6.set Y.A (.cells (({ d with n := vN,w := vW } : Sa).cells Y)),nV S.par.length,T)]) ⟨c106,trivial⟩ ?_;refine G3 ?_;refine DF (A5 (v := .agg (eC (-1,.ofNat S.works.length))) jo ldC rfl rfl) ?_;refine G7 ?_;refine C3 fun hw9 => ?_
    refine G ?_;exact ⟨_,rfl,_,_,ag_ hw9 nl (fun _ _ => rfl),hnT,.same rfl,rfl,rfl⟩
   ·have hl3 : lfW ⟨l,kids⟩ = false := Ap6 (kids := kids) h3
    rcases hx with ⟨_,c106⟩ | ⟨hlf,_⟩
    rotate_left
    ·rw [hl3] at hlf; cases hlf
    refine G2 ?_;refine XS (l := [(106,[.pr Y.A 6,.agg (eC (.ofNat S.nodes.length,-1))],τ4,nV S.par.length,T)]) ⟨c106,trivial⟩ ?_;refine G3 ?_;refine DF (A5 (v := .agg (eC (.ofNat S.nodes.length,-1))) he4 ldC rfl rfl) ?_;refine G7 ?_;refine C3 fun hw9 => ?_
    refine G ?_;exact ⟨_,rfl,_,_,ag_ hw9 nl (fun _ _ => rfl),hnT,.same rfl,rfl,rfl⟩
section
structure NL (S : NS) : Prop where
 p : S.par.length = S.nodes.length
 k : S.known.length = S.nodes.length
 w : S.works.length <= S.nodes.length
theorem NL.add {S : NS} (h : NL S) (a : Nat) (x : Nd) : NL (Afa S a x) := by
 refine ⟨?_,?_,?_⟩
 ·show (S.par ++ [_]).length = (S.nodes ++ [_]).length; simp [h.p]
 ·show (S.known ++ [_]).length = (S.nodes ++ [_]).length; simp [h.k]
 ·show (if lfW x = true then S.works ++ [S.nodes.length] else S.works).length <= (S.nodes ++ [_]).length
  have := h.w
  split <;> simp <;> omega
theorem NL.fin {S : NS} (h : NL S) (a : Nat) (x : Nd) : NL (Abt S a x).2 /\ (Abt S a x).2.nodes.length <= S.nodes.length + 1 := by
 unfold Abt;cases S.W.get (Int.ofNat a) with
 | some n => exact ⟨h,eu_ _⟩
 | none => exact ⟨h.add a x,by show (S.nodes ++ [_]).length <= _; simp⟩
theorem NL.M {S : NS} (h : NL S) (M : GM Kk Nat) : NL { S with M := M } := ⟨h.p,h.k,h.w⟩
mutual
theorem X5 : ∀ (t : Ah) (S : NS),NL S -> NL (Dt t S).2 /\ (Dt t S).2.nodes.length <= S.nodes.length + Av t
 | .node l ks,S,h => by
  rw [Dt,Av];obtain ⟨h1,h2⟩ := Afb ks { S with M := (Fg S.M (l,-1,-1)).2 } (Fg S.M (l,-1,-1)).1 [] (h.M _);obtain ⟨h3,h4⟩ := h1.fin (Ie ks { S with M := (Fg S.M (l,-1,-1)).2 } (Fg S.M (l,-1,-1)).1 []).1 ⟨l,(Ie ks { S with M := (Fg S.M (l,-1,-1)).2 } (Fg S.M (l,-1,-1)).1 []).2.1⟩
  exact ⟨h3,by have h2 : (Ie ks { S with M := (Fg S.M (l,-1,-1)).2 } (Fg S.M (l,-1,-1)).1 []).2.2.nodes.length <= S.nodes.length + By ks := h2; omega⟩
theorem Afb : ∀ (ks : List Ah) (S : NS) (a : Nat) (kids : List Nat),NL S -> NL (Ie ks S a kids).2.2 /\ (Ie ks S a kids).2.2.nodes.length <= S.nodes.length + By ks
 | [],S,a,kids,h => by rw [Ie,By]; exact ⟨h,nl⟩
 | t :: r,S,a,kids,h => by
  rw [Ie,By];obtain ⟨h1,h2⟩ := X5 t S h;obtain ⟨h3,h4⟩ := Afb r { (Dt t S).2 with M := (Fg (Dt t S).2.M ([],Int.ofNat a,Int.ofNat (Dt t S).1)).2 } (Fg (Dt t S).2.M ([],Int.ofNat a,Int.ofNat (Dt t S).1)).1 (kids ++ [(Dt t S).1]) (h1.M _)
  exact ⟨h3,by have h4 : _ <= (Dt t S).2.nodes.length + By r := h4; omega⟩
end
section
variable {Y : Sq} {B : Nat} {U τ : Sto} {d d1 : Sa} {S : NS}
theorem Stp.weak {B' : Nat} (h : Stp Y B U d τ d1) (hB : B' <= B) : Stp Y B' U d τ d1 := Stp.refl.trans h hB
theorem Sn.N_le (h : Sn Y U S d) : Y.N <= nx U := ef_ (dd_ h.lo h.lA)
theorem Ap8 (l : Str) (kids : List Nat) (at' : Nat) (kv : AV) (hS : Sn Y U S d) (hkv : ∀ b,adr kv = some b -> B <= b /\ ¬ Aax Y d b) (hB : B <= nx U) (hNL : NL S) (hb : S.nodes.length < 1000000) : ∃ T d',Ap7 Y l kids at' U kv d S (Abt S at' ⟨l,kids⟩).1 T /\ Sn Y T (Abt S at' ⟨l,kids⟩).2 d' /\ Stp Y B U d T d' := by
 unfold Abt;cases hW : S.W.get (Int.ofNat at') with
 | some n => exact ⟨U,d,.inl ⟨hW,rfl⟩,hS,.refl⟩
 | none =>
  have hF : Sn Y (without U kv) S d := hS.of_get (by rw [Di]; exact nl) fun b hb => by rw [Hv,if_neg (fun hh => (hkv b hh).2 hb)]
  have s1 : Stp Y B U d (without U kv) d := .other (by rw [Di]; exact nl) fun b hb => by rw [Hv,if_neg (fun hh => by have := (hkv b hh).1; omega)]
  obtain ⟨vh,hvh⟩ := id hF.gh;have hS1 := hF.setW hvh (ver' := vh + 1) (S.W.put (.ofNat at') S.nodes.length)
  have s2 : Stp Y B (without U kv) d ((without U kv).set d.h (.map 3 (Cz nV (S.W.put (.ofNat at') S.nodes.length)) (vh + 1))) d := ⟨by rw [Ac]; exact nl,fun _ h => .inl h,fun b hb hf => by rw [a_,if_neg (fun hh => hf (.inr (.inr (.inl hh))))]⟩
  have e1 : nx ((without U kv).set d.h (.map 3 (Cz nV (S.W.put (.ofNat at') S.nodes.length)) (vh + 1))) = nx U := by rw [Ac,Di]
  obtain ⟨τ2,hap,hn2,ho2,hg2⟩ := ff_ (by' := 40) Gl hS1.N_le hS1.on ⟨l,kids⟩ (by show (S.nodes.length + 1) * 41 <= sizeLim; simp only [sizeLim]; omega)
  have hc2 : τ2.get Y.A = some (.cells (d.cells Y)) := (hg2 _ hS1.lA hS1.an).trans hS1.c;obtain ⟨hS3,s3⟩ := hS1.appN hn2 ho2 hg2;have hvN : (AV.sr (nx ((without U kv).set d.h (.map 3 (Cz nV (S.W.put (.ofNat at') S.nodes.length)) (vh + 1)))) 0 2 (S.nodes.length + 1) none).cellsN 1 = some [_] := rfl;have hap : Bm ((without U kv).set d.h (.map 3 (Cz nV (S.W.put (.ofNat at') S.nodes.length)) (vh + 1))) 2 40 d.n 1 (eNd ⟨l,kids⟩) = some (AV.sr (nx ((without U kv).set d.h (.map 3 (Cz nV (S.W.put (.ofNat at') S.nodes.length)) (vh + 1)))) 0 2 (S.nodes.length + 1) none,τ2) := hap;have s12 := s1.trans s2 nl
  have s123 := s12.trans s3 (by rw [e1]; exact hB)
  unfold Ap7
  generalize oc : (AV.sr (nx ((without U kv).set d.h (.map 3 (Cz nV (S.W.put (.ofNat at') S.nodes.length)) (vh + 1)))) 0 2 (S.nodes.length + 1) none) = vN at *
  have how := hS1.ow.lenA;obtain ⟨τ3,hτ3⟩ : ∃ τ3,τ2.set Y.A (.cells (({ d with n := vN } : Sa).cells Y)) = τ3 := ⟨_,rfl⟩;have hS3 : Sn Y τ3 { S with W := S.W.put (.ofNat at') S.nodes.length,nodes := S.nodes ++ [⟨l,kids⟩] } { d with n := vN } := hτ3 ▸ hS3;have s123 : Stp Y B U d τ3 { d with n := vN } := hτ3 ▸ s123
  -- the class
  have hB3 : B <= nx τ3 := ax_ hB s123.nx
  have hS4 : Sn Y ((τ3.new (.cells [.int .i64 0,.int .i64 0])).set (nx τ3) (.cells (eC (.ofNat S.nodes.length,-1)))) { S with W := S.W.put (.ofNat at') S.nodes.length,nodes := S.nodes ++ [⟨l,kids⟩] } { d with n := vN } := hS3.of_get (by rw [Ac,Af]; omega) fun b hb => by have := hS3.foot_lt hb; rw [a_,if_neg Om,ab_,if_neg Om]
  have s4 : Stp Y (nx τ3) τ3 { d with n := vN } ((τ3.new (.cells [.int .i64 0,.int .i64 0])).set (nx τ3) (.cells (eC (.ofNat S.nodes.length,-1)))) { d with n := vN } := .other (by rw [Ac,Af]; omega) fun b hb => by rw [a_,if_neg Om,ab_,if_neg Om]
  have hkl : S.known.length = S.par.length := by rw [hNL.k,hNL.p]
  have hpb : S.par.length <= 1000000 := by rw [hNL.p]; omega
  cases hl : lfW ⟨l,kids⟩ with
  | false =>
   obtain ⟨T,d5,c106,hS5,s5⟩ := f106 Y (.ofNat S.nodes.length,-1) hS4 hpb hkl
   refine ⟨T,d5,.inr ⟨vh,vN,τ2,hW,rfl,hF,hvh,hS1,hap,⟨by rw [← oc]; rfl,hc2⟩,how,?_⟩,?_,(s123.trans s4 hB3).trans s5 (by rw [Ac,Af]; omega)⟩
   ·rw [hτ3]; exact .inl ⟨rfl,c106⟩
   ·have e : (Afa S at' ⟨l,kids⟩) = ⟨S.M,S.W.put (Int.ofNat at') S.nodes.length,S.nodes ++ [⟨l,kids⟩],S.par ++ [S.par.length],S.known ++ [(Int.ofNat S.nodes.length,-1)],S.works⟩ := by unfold Afa; rw [if_neg (by rw [hl]; simp),if_neg (by rw [hl]; simp)]
    show Sn Y T (Afa S at' ⟨l,kids⟩) d5
    rw [e]; exact hS5
  | true =>
   have hS5 : Sn Y (((τ3.new (.cells [.int .i64 0,.int .i64 0])).set (nx τ3) (.cells (eC (.ofNat S.nodes.length,-1)))).set (nx τ3) (.cells (eC (-1,.ofNat S.works.length)))) { S with W := S.W.put (.ofNat at') S.nodes.length,nodes := S.nodes ++ [⟨l,kids⟩] } { d with n := vN } := hS4.of_get (by simp only [Ac]; exact nl) fun b hb => by have := hS3.foot_lt hb; rw [a_,if_neg Om]
   have s5 : Stp Y (nx τ3) ((τ3.new (.cells [.int .i64 0,.int .i64 0])).set (nx τ3) (.cells (eC (.ofNat S.nodes.length,-1)))) { d with n := vN } (((τ3.new (.cells [.int .i64 0,.int .i64 0])).set (nx τ3) (.cells (eC (.ofNat S.nodes.length,-1)))).set (nx τ3) (.cells (eC (-1,.ofNat S.works.length)))) { d with n := vN } := .other (by simp only [Ac]; exact nl) fun b hb => by rw [a_,if_neg Om]
   have hce : (((τ3.new (.cells [.int .i64 0,.int .i64 0])).set (nx τ3) (.cells (eC (.ofNat S.nodes.length,-1)))).set (nx τ3) (.cells (eC (-1,.ofNat S.works.length)))).get (nx τ3) = some (.cells (eC (-1,.ofNat S.works.length))) := by rw [a_,if_pos rfl]
   have hn5 : nx τ3 < nx (((τ3.new (.cells [.int .i64 0,.int .i64 0])).set (nx τ3) (.cells (eC (.ofNat S.nodes.length,-1)))).set (nx τ3) (.cells (eC (-1,.ofNat S.works.length)))) := by rw [Ac,Ac,Af]; omega
   obtain ⟨τ6,je,hn6,ho6,hg6⟩ := ff_ (by' := 8) E4 hS5.N_le hS5.ow S.nodes.length (by show (S.works.length + 1) * 9 <= sizeLim; have := hNL.w; simp only [sizeLim]; omega)
   have ji := (hg6 _ hS5.lA hS5.aw).trans hS5.c
   have hwl : adr d.w ≠ some (nx τ3) := fun hh => by have := (hS3.ow.adr_lt hh).2; omega
   have jo : ∀ cs,(τ6.set Y.A (.cells cs)).get (nx τ3) = some (.cells (eC (-1,.ofNat S.works.length))) := fun cs => by rw [a_,if_neg (by have := hS3.lA; omega),hg6 _ hn5 hwl]; exact hce
   obtain ⟨hS7,s7⟩ := hS5.appW hn6 ho6 hg6;obtain ⟨T,d8,c106,hS8,s8⟩ := f106 Y (-1,.ofNat S.works.length) hS7 hpb hkl;have sA := (s123.trans s4 hB3).trans s5 hB3;have sB := sA.trans s7 Om
   refine ⟨T,d8,.inr ⟨vh,vN,τ2,hW,rfl,hF,hvh,hS1,hap,⟨by rw [← oc]; rfl,hc2⟩,how,?_⟩,?_,sB.trans s8 (ax_ hB sB.nx)⟩
   ·rw [hτ3]; exact .inr ⟨rfl,_,τ6,hS4.c,hS5.c,je,rfl,ji,jo _,c106⟩
   ·have e : (Afa S at' ⟨l,kids⟩) = ⟨S.M,S.W.put (Int.ofNat at') S.nodes.length,S.nodes ++ [⟨l,kids⟩],S.par ++ [S.par.length],S.known ++ [(-1,Int.ofNat S.works.length)],S.works ++ [S.nodes.length]⟩ := by unfold Afa; rw [if_pos hl,if_pos hl]
    show Sn Y T (Afa S at' ⟨l,kids⟩) d8
    rw [e]; exact hS8
end
mutual
theorem f68 (Y : Sq) : ∀ (t : Ah) (S : NS) (d : Sa) (U : Sto),Sn Y U S d -> NL S -> Ff t -> S.nodes.length + Av t <= 1000000 -> ∃ T d',(Ao Ew 68 [.pr Y.A 0,Ap t] U fun v U' => v = nV (Dt t S).1 /\ U' = T) /\ Sn Y T (Dt t S).2 d' /\ Stp Y (nx U) U d T d'
 | .node l ks,S,d,U,hS,hNL,hlb,hb => by
  rw [Av] at hb;obtain ⟨U1,c0,hS1,s1⟩ := f105 Y (l,-1,-1) hS
  obtain ⟨Uf,kvf,d2,bx,hS2,hO2,hf2,s2⟩ := Als Y ks { S with M := (Fg S.M (l,-1,-1)).2 } d U1 (Fg S.M (l,-1,-1)).1 [] (.nil (.slice none 0 0)) (nx U) hS1 (hNL.M _) (fun k hk => hlb.node.2 k hk) (by show S.nodes.length + By ks <= 1000000; omega) .nil (fun b hb => by cases hb) s1.nx (by have := Ed ks; simp; omega)
  obtain ⟨ip,hl2⟩ := Afb ks { S with M := (Fg S.M (l,-1,-1)).2 } (Fg S.M (l,-1,-1)).1 [] (hNL.M _);have hl2 : (Ie ks { S with M := (Fg S.M (l,-1,-1)).2 } (Fg S.M (l,-1,-1)).1 []).2.2.nodes.length <= S.nodes.length + By ks := hl2;have s12 := s1.trans s2 nl;obtain ⟨T,d',dk,hS3,s3⟩ := Ap8 l _ (Ie ks { S with M := (Fg S.M (l,-1,-1)).2 } (Fg S.M (l,-1,-1)).1 []).1 kvf hS2 (B := nx U) (fun b hb => ⟨(hO2.adr_lt hb).1,hf2 b hb⟩) s12.nx ip Om
  have s123 := s12.trans s3 nl;rw [Dt];exact ⟨T,d',f68w Y l ks _ d2 U U1 _ hlb.node.1 Om c0 s1.nx bx hS2 hO2 dk s123.nx,hS3,s123⟩
theorem Als (Y : Sq) : ∀ (ks : List Ah) (S : NS) (d : Sa) (U : Sto) (at' : Nat) (kids : List Nat) (kv : AV) (B : Nat),Sn Y U S d -> NL S -> (∀ k ∈ ks,Ff k) -> S.nodes.length + By ks <= 1000000 -> Own U B eW 1 kids kv -> (∀ b,adr kv = some b -> ¬ Aax Y d b) -> B <= nx U -> kids.length + ks.length <= 1000000 ->
  ∃ U' kv' d',Abu Y ks (U,at',kv) (U',(Ie ks S at' kids).1,kv') /\ Sn Y U' (Ie ks S at' kids).2.2 d' /\ Own U' B eW 1 (Ie ks S at' kids).2.1 kv' /\ (∀ b,adr kv' = some b -> ¬ Aax Y d' b) /\ Stp Y B U d U' d'
 | [],S,d,U,at',kids,kv,B,hS,_,_,_,hO,hf,_,_ => by rw [Ie]; exact ⟨U,kv,d,rfl,hS,hO,hf,.refl⟩
 | t :: r,S,d,U,at',kids,kv,B,hS,hNL,hlb,hb,hO,hf,hB,hl => by
  rw [By] at hb;obtain ⟨τ1,d1,c1,hS1,s1⟩ := f68 Y t S d U hS hNL (hlb t (ar_ ..)) Om;obtain ⟨iq,hl1⟩ := X5 t S hNL;have hO1 : Own τ1 B eW 1 kids kv := hO.of_get s1.nx fun b hb => s1.fr b (hO.adr_lt hb).2 (hf b hb)
  have hf1 : ∀ b,adr kv = some b -> ¬ Aax Y d1 b := fun b hb hh => by
   rcases s1.ft b hh with hh | hh
   ·exact hf b hb hh
   ·have := (hO.adr_lt hb).2; omega
  have hB1 : B <= nx τ1 := ax_ hB s1.nx
  obtain ⟨τ2,hap,hn2,hO2,hg2⟩ := ff_ (by' := 8) E4 hB1 hO1 (Dt t S).1 (by simp only [at_] at hl; simp only [sizeLim]; omega)
  have hS2 : Sn Y τ2 (Dt t S).2 d1 := hS1.of_get Om fun b hb => hg2 b (hS1.foot_lt hb) (fun hh => hf1 b hh hb)
  have s2 : Stp Y B τ1 d1 τ2 d1 := .other Om fun b hb => hg2 b Om (fun hh => by have := (hO1.adr_lt hh).1; omega)
  have hnf : ∀ b,adr (.sr (nx τ1) 0 1 (kids.length + 1) none) = some b -> ¬ Aax Y d1 b := fun b hb hh => by
   simp only [adr,ad_] at hb;have := hS1.foot_lt hh;omega
  obtain ⟨τ3,c3,hS3,s3⟩ := f105 Y ([],Int.ofNat at',Int.ofNat (Dt t S).1) hS2;have hO3 : Own τ3 B eW 1 (kids ++ [(Dt t S).1]) (.sr (nx τ1) 0 1 (kids.length + 1) none) := hO2.of_get s3.nx fun b hb => s3.fr b (hO2.adr_lt hb).2 (hnf b hb)
  have hB3 : B <= nx τ3 := by have := s3.nx; omega
  obtain ⟨U',kv',d',bx,hS4,hO4,hf4,s4⟩ := Als Y r { (Dt t S).2 with M := (Fg (Dt t S).2.M ([],Int.ofNat at',Int.ofNat (Dt t S).1)).2 } d1 τ3 (Fg (Dt t S).2.M ([],Int.ofNat at',Int.ofNat (Dt t S).1)).1 (kids ++ [(Dt t S).1]) (.sr (nx τ1) 0 1 (kids.length + 1) none) B hS3 (iq.M _) (fun k hk => hlb k (ak_ _ hk)) (by show (Dt t S).2.nodes.length + By r <= 1000000; omega) hO3 hnf hB3 (by simp at hl ⊢; omega)
  rw [Ie]
  exact ⟨U',kv',d',⟨_,τ1,_,τ2,_,τ3,c1,hap,c3,by show nx U <= nx τ3; have := s1.nx; have := s3.nx; omega,bx⟩,hS4,hO4,hf4,((s1.weak hB).trans s2 nl).trans (s3.weak Om) nl |>.trans s4 nl⟩
end
end
theorem Ahu (k : Kn) (l : List Str) : k.textF l < 200 := by
 unfold Kn.textF
 repeat' split
 all_goals omega
theorem Arq (k : Kn) (h : Hp) : hypT k h < 200 := by unfold hypT; split <;> omega
theorem Arr (k : Kn) (lab : SM Bool) (ty : SM Str) (h : Hp) (du : Bool) : Tn k lab ty h du < 200 := by
 have h1 := Ahu k h.text;have h2 := Arq k h;unfold Tn
 repeat' split
 all_goals omega
theorem Ahv (k : Kn) (nh : Nat) : ∀ (l : List Hp) (i : Nat) (lab : SM Bool) (ty : SM Str),(Ia k nh l i lab ty).1 < 200
 | [],_,_,_ => by unfold Ia; simp
 | h :: r,i,lab,ty => by
  unfold Ia
  split
  ·exact Arr ..
  ·exact Ahv k nh r ..
theorem Ap9 (k : Kn) (f : Fr) : Jg k f < 200 := by
 unfold Jg
 repeat' split
 all_goals omega
theorem Anh (pw : Str -> Bool) (k : Kn) (f : Fr) (before : List Hp) : Em pw k f before < 200 := by
 have h1 := Ahv (k.fr f.label) f.hyps.length f.all 0 [] [];have h2 := Ahu (k.fr f.label) f.text;have h3 := Ap9 (k.fr f.label) f;unfold Em
 repeat' split
 all_goals omega
theorem Adp (pw : Str -> Bool) : ∀ (l : List Fr) (k : Kn) (before : List Hp),Hm pw l k before < 200
 | [],_,_ => by unfold Hm; omega
 | f :: r,k,before => by
  unfold Hm
  split
  ·exact Anh ..
  ·exact Adp pw r ..
theorem Alt : ∀ (l : List Str) (k : Kn),(O2 l k).1 < 200
 | [],k => by unfold O2; simp
 | c :: r,k => by unfold O2; have := Alt r { k with vars := k.vars.put c true }; cases Nr c <;> cases k.isSym c <;> simp [this]
theorem Ars (d : Db) (k : Kn) : (Jo d k).1 < 200 := by
 unfold Jo
 split
 ·exact Alt ..
 ·rcases Ak1 d.consts k with h | h | h <;> omega
theorem Ani (pw : Str -> Bool) (d : Db) : En pw d < 200 := by
 have h1 := Ars d kn0;have h2 := Adp pw d.frames (Jo d kn0).2 [];unfold En
 repeat' split
 all_goals omega
theorem Atu (d : Db) : (ofF d).2 < 200 := by
  have h1 := Ani Ea d
  have h2 : Ds d < 200 := by unfold Ds; (repeat' split) <;> omega
  unfold ofF
  repeat' split
  all_goals (try omega)
  all_goals (show _ < (200 : Int); simp; try omega)
theorem Art (g : Gr) (m : SM Rl) (t : Ah) : Ahi g m t < 200 := by unfold Ahi; (repeat' split) <;> omega
theorem Ahw (g : Gr) (m : SM Rl) : ∀ l : List Ah,Mi g m l < 200
 | [] => by unfold Mi; omega
 | t :: r => by
  unfold Mi
  split
  ·exact Art ..
  ·exact Ahw g m r
theorem Eg {U : Sto} {v w : AV} {b : Nat} : (without (without U v) w).get b = if adr w = some b ∨ adr v = some b then none else U.get b := by
 rw [Hv,Hv]
 by_cases h1 : adr w = some b
 ·simp [h1]
 ·simp [h1]
theorem D5.one {U : Sto} (hw : WFS U) {A : Nat} {cs cs' : List AV} {v w : AV} (hA : U.get A = some (.cells cs)) (hz : FzL U ((AM.without (AM.without U v) w).set A (.cells cs')) cs cs') : D5 U ((AM.without (AM.without U v) w).set A (.cells cs')) := by
 have hn : nx ((AM.without (AM.without U v) w).set A (.cells cs')) = nx U := by rw [Ac,Di,Di]
 refine ⟨by rw [hn]; exact nl,fun a O ha => ?_⟩
 rw [hn]
 by_cases haA : a = A
 ·subst haA;rw [a_,if_pos rfl] at ha;cases ha;exact ⟨(hw _ _ hA).1,_,hA,.cells hz⟩
 ·have ha0 := ha;rw [a_,if_neg haA,Eg] at ha
  split at ha
  ·cases ha
  ·obtain ⟨h1,h2,h3⟩ := hw a O ha;refine ⟨h1,O,ha,?_⟩;cases O with
   | cells vs => exact .cells (fb_ (by rw [hn]; exact h2))
   | map kt es ver => exact .map (M4 .same (by rw [hn]; exact h2))
   | stamp m ver k => exact .stamp (by rw [hn]; exact h2)
   | loop st => exact .loop
   | iter m ver left cur =>
    refine .iter (by rw [hn]; exact h2) ?_
    cases m with
    | none => trivial
    | some r =>
     intro kt es hg;rw [hn];rw [a_] at hg
     split at hg
     ·cases hg
     ·rw [Eg] at hg
      split at hg
      ·cases hg
      ·exact h3 kt es hg
def Sa.sd (Y : Sq) (d : Sa) (S : NS) (p c : Nat) (tp tc : List AV) : Sd := { A := Y.A,p := p,c := c,q0 := Y.q0,q1 := Y.q1,q2 := Y.q2,u4 := .mp d.k,u5 := .mp d.h,nodes := S.nodes,works := S.works,tp := tp,tc := tc }
theorem Sn.toSx {Y : Sq} {U : Sto} {S : NS} {d : Sa} (hw : WFS U) (h : Sn Y U S d) (hNL : NL S) (hne : 0 < S.nodes.length) (hq : AV.unds (nx U) [Y.q0,Y.q1,Y.q2] = true) :
  ∃ p c tp tc,D5 U ((without (without U d.n) d.w).set Y.A (.cells ((d.sd Y S p c tp tc).cells S.par.length))) /\ Sx (d.sd Y S p c tp tc) ((without (without U d.n) d.w).set Y.A (.cells ((d.sd Y S p c tp tc).cells S.par.length))) S.par S.known /\ d.p = .sr p 0 1 S.par.length none /\ d.c = .sr c 0 2 S.known.length none /\ Y.N <= p /\ Y.N <= c /\ p < nx U /\ c < nx U := by
 obtain ⟨p,tp,hp1,hp2,hp3,hp4⟩ := h.op.sr (i := 0) (by rw [hNL.p]; exact hne)
 obtain ⟨c,tc,hc1,hc2,hc3,hc4⟩ := h.ok.sr (i := 0) (by rw [hNL.k]; exact hne)
 have hAp : Y.A ≠ p := fun hh => h.ap (by rw [hp3,hh]; rfl)
 have hAc : Y.A ≠ c := fun hh => h.ac (by rw [hc3,hh]; rfl)
 have hpc : p ≠ c := fun hh => h.pc p (by rw [hp3]; rfl) (by rw [hc3,hh]; rfl)
 have hkl : S.known.length = S.par.length := by rw [hNL.k,hNL.p]
 have hn : ∀ cs,nx ((without (without U d.n) d.w).set Y.A (.cells cs)) = nx U := fun cs => by rw [Ac,Di,Di]
 refine ⟨p,c,tp,tc,D5.one hw h.c ?_,⟨(a_ ..).trans (if_pos rfl),?_,?_,hkl,hAp,hAc,hpc⟩,hp3,hc3,hp1,hc1,hp2,hc2⟩
 ·simp only [AV.unds,af_] at hq
  refine .cons (.same (by rw [hn]; exact hq.1)) (.cons (.same (by rw [hn]; exact hq.2.1)) (.cons (.same (by rw [hn]; exact hq.2.2.1)) (.cons (h.on.fzA Gl (fun b hb => ?_) (Ats _)) (.cons (.same (Ce (by rw [hn]; exact h.lk))) (.cons (.same (Ce (by rw [hn]; exact h.lh))) (.cons ?_ (.cons ?_ (.cons (h.ow.fzA E4 (fun b hb => ?_) (Ahn _)) .nil))))))))
  ·rw [a_,if_neg (fun hh => by subst hh; exact h.an hb),Eg,if_pos (.inr hb)]
  ·rw [hp3]; exact .same (Ce (by rw [hn]; exact hp2))
  ·rw [hc3,hkl]; exact .same (Ce (by rw [hn]; exact hc2))
  ·rw [a_,if_neg (fun hh => by subst hh; exact h.aw hb),Eg,if_pos (.inl hb)]
 ·show Sto.get _ p = _
  rw [a_,if_neg (fi_ hAp),Eg,if_neg]
  ·exact hp4
  ·rintro (hh | hh)
   ·exact h.pw p (by rw [hp3]; rfl) hh
   ·exact h.np p hh (by rw [hp3]; rfl)
 ·show Sto.get _ c = _
  rw [a_,if_neg (fi_ hAc),Eg,if_neg]
  ·exact hc4
  ·rintro (hh | hh)
   ·exact h.cw c (by rw [hc3]; rfl) hh
   ·exact h.nc c hh (by rw [hc3]; rfl)
theorem Ws.empty (s : List Sb) (D : Nat -> Ah) (P : Pth) : Ws s D P ⟨[],[],[],[],[],[]⟩ :=
 ⟨⟨fun n x h => by simp at h,fun n x h => by simp at h⟩,⟨rfl,fun i c h => by simp at h,fun i c h => by simp at h,fun i c h => by simp at h⟩,⟨fun n p h => by simp at h,fun n h => absurd h (fe_ _)⟩,rfl,(fun k n h => by cases h),(fun l n h => by cases h),(fun b k n h => by cases h),(fun a n h => by cases h),fun i hi => absurd hi (fe_ _),fun w hw => by cases hw⟩
theorem fSm {l : List Sb} {s : Str} {t : Ah} (h : Dv l s = some t) : ∃ x,x ∈ l /\ x.label = s /\ x.tree = t := by
 induction l with
 | nil => cases h
 | cons y r ih =>
  rw [Dv] at h
  split at h
  ·rename_i hy
   cases h;exact ⟨y,ar_,hy,rfl⟩
  ·obtain ⟨x,k1,k2⟩ := ih h;exact ⟨x,ak_ _ k1,k2⟩
theorem Aqa (l : List Sb) (w : Str) : (apT l (.node w []) = .node w [] /\ Dv l w = none) ∨ ∃ x,x ∈ l /\ x.label = w /\ apT l (.node w []) = x.tree := by
 rw [apT]
 have e : Jh l w [] = Dv l w := by unfold Jh; rfl
 rw [e];cases h : Dv l w with
 | none => exact .inl ⟨by rw [apL],rfl⟩
 | some t =>
  obtain ⟨x,h1,h2,h3⟩ := fSm h;exact .inr ⟨x,h1,h2,h3.symm⟩
theorem Aru {s u : List Sb} (hu : ∀ x ∈ u,apT s x.tree = apT s (.node x.label [])) (w : Str) : apT s (apT u (.node w [])) = apT s (.node w []) := by
 rcases Aqa u w with ⟨h,_⟩ | ⟨x,h1,h2,h3⟩
 ·rw [h]
 ·rw [h3,hu x h1,h2]
mutual
theorem Lc {s : List Sb} {k : Nat} (hk : ∀ x ∈ s,Av x.tree <= k) : ∀ t : Ah,Av (apT s t) <= Av t * (k + 1)
 | .node w ks => by
  rw [apT];have h0 := Adq hk ks
  have e : Av (.node w ks) = 1 + By ks := by rw [Av]
  have m : (1 + By ks) * (k + 1) = (k + 1) + By ks * (k + 1) := by rw [fr_,Nat.one_mul]
  rw [e,m]
  split
  ·rename_i t ht
   have hf : Dv s w = some t := by
    unfold Jh at ht
    split at ht
    ·exact ht
    ·cases ht
   obtain ⟨x,h1,_,h3⟩ := fSm hf;have := hk x h1;rw [h3] at this;omega
  ·rw [Av]; omega
theorem Adq {s : List Sb} {k : Nat} (hk : ∀ x ∈ s,Av x.tree <= k) : ∀ l : List Ah,By (apL s l) <= By l * (k + 1)
 | [] => by rw [apL,By]; omega
 | t :: r => by
  rw [apL,By,By,fr_];have h1 := Lc hk t;have h2 := Adq hk r;omega
end
mutual
theorem Alu {s : List Sb} {k : Nat} (hk : ∀ x ∈ s,Av x.tree <= k) : ∀ (t : Ah) (lv : Nat),dpT (apT s t) lv <= dpT t lv + k
 | .node w ks,lv => by
  rw [apT]
  split
  ·rename_i t ht
   have hf : Dv s w = some t := by
    unfold Jh at ht
    split at ht
    ·exact ht
    ·cases ht
   obtain ⟨x,h1,_,h3⟩ := fSm hf;have := hk x h1;rw [h3] at this;have h4 := (L3 t lv).2;have h5 := (L3 (.node w ks) lv).1;omega
  ·rw [dpT,dpT];exact Ahx hk ks (lv + 1) lv (lv) Om
theorem Ahx {s : List Sb} {k : Nat} (hk : ∀ x ∈ s,Av x.tree <= k) : ∀ (l : List Ah) (lv d d' : Nat),d' <= d + k -> dpL (apL s l) lv d' <= dpL l lv d + k
 | [],lv,d,d',h => by rw [apL,dpL,dpL]; exact h
 | t :: r,lv,d,d',h => by
  rw [apL,dpL,dpL];have h1 := Alu hk t lv;exact Ahx hk r lv _ _ Om
end
theorem Aay : ∀ t,(e1 t).length = 1 := fun _ => rfl
theorem f66 (p : Sb -> Bool) (l : List Sb) (k : Nat) (cap : List AV) (U : Sto) (hb : l.length < 4611686018427387904) (hk : ∀ a ∈ l,Ao Ew k ([.agg (eS a)] ++ cap) U fun v U' => v = .bool (p a) /\ U' = U) :
  Cv 66 [slV eS 3 l,.fn (.func k) [] cap] U (iV (A2 p l 0)) := by
 refine An Tryz.func66 rfl rfl fun hw hu => ?_
 refine G12 ?_;refine Bq l.length (fun i => [(0,slV eS 3 l),(1,.fn (.func k) [] cap),(7,iV (.ofNat l.length)),(8,iV (.ofNat i))]) (fun i U' => U' = U /\ A2 p l 0 = A2 p (l.drop i) i) SL ⟨rfl,rfl⟩ ?_
 rintro i U' hi ⟨rfl,hf⟩;refine G5 ?_;refine Ab rfl ?_ ?_ <;> intro h
 ·have hlt : i < l.length := by simpa using h
  obtain ⟨a,ha⟩ : ∃ a,l[i]? = some a := ⟨_,an_ hlt⟩
  have hd : l.drop i = a :: l.drop (i + 1) := by
   obtain ⟨h1,rfl⟩ := aa_.1 ha;exact aw_ h1
  iterate 13 refine G ?_
  refine O1 (Ax elC (eS_len) rfl rfl ha) (O1 (Ad ldC rfl rfl (Ba ((eS_len : ∀ a,(eS a).length = 3) a) _)) (Bw rfl rfl rfl rfl (hk a (ae_ ha)) ?_));rintro _ _ ⟨rfl,rfl⟩;refine G ?_;refine Ab rfl (fun h' => ?_) (fun h' => ?_)
  ·refine G6 ?_;refine ⟨_,rfl,iV (.ofNat i),_,ag_ hw nl (fun _ _ => rfl),nl,.same rfl,?_,rfl⟩
   rw [hf,hd]; simp only [A2,h',cond_true]
  ·refine G2 ?_;refine O1 (Dg (p := i) (q := 1) okC rfl rfl Om) ?_;refine G2 ?_;refine ⟨hlt,SL,rfl,?_⟩;rw [hf,hd]; simp only [A2,h',cond_false]
 ·have hge : l.length <= i := by simpa using h
  refine G6 ?_;refine ⟨_,rfl,iV (-1),_,ag_ hw nl (fun _ _ => rfl),nl,.same rfl,?_,rfl⟩
  rw [hf,ah_ hge]; rfl
theorem f20 (p : Sb -> Bool) (l : List Sb) (k : Nat) (cap : List AV) (U : Sto) (hb : l.length < 4611686018427387904) (hk : ∀ a ∈ l,Ao Ew k ([.agg (eS a)] ++ cap) U fun v U' => v = .bool (p a) /\ U' = U) :
  Cv 20 [slV eS 3 l,.fn (.func k) [] cap] U (.bool (l.any p)) := by
 refine An Tryz.func20 rfl rfl fun hw _ => ?_
 refine G8 ?_;refine Bw rfl rfl rfl rfl (f66 p l k cap U hb hk) ?_;rintro _ _ ⟨rfl,rfl⟩;refine G4 ?_;refine Bb hw rfl ?_;exact congrArg AV.bool (E1 l)
theorem f73 (n : Nat) (U : Sto) (hn : n < 1000000) : Ao Ew 73 [.nil (.slice none 0 0),iV (.ofNat n)] U fun v U' => Own U' (nx U) e1 1 [] v /\ Below (nx U) U U' := by
 refine An Tryz.func73 rfl rfl fun hw hu0 => ?_
 refine G10 ?_;refine Ab rfl ?_ ?_ <;> intro h1
 ·exact absurd h1 (by simp)
 ·refine G6 ?_;refine O1 (Xx slC rfl) ?_;refine G ?_;refine O1 (B0 slC rfl rfl rfl) (O1 (Ly (p := 0) (q := 0) okC rfl rfl Om Om) ?_);refine O1 (Ly (p := n) (q := 0) okC rfl rfl Om Om) ?_;refine G7 ?_;refine Ab rfl ?_ ?_ <;> intro h2
  ·obtain ⟨n,rfl⟩ : ∃ k,n = k + 1 := ⟨n - 1,(by simp at h2; omega)⟩
   refine G3 ?_;refine O1 (Xx slC rfl) (O1 (Akq elC rfl rfl) ?_);refine G ?_
   refine O1 (Af9 (n := n) elC rfl in3 rfl rfl (by simp [sizeLim]; omega)) ?_
   refine G ?_;refine O1 (B0 slC rfl rfl rfl) (O1 (Me (b := 0) elC rfl rfl Om) ?_);refine G7 ?_;refine C3 fun hw' => ?_
   refine G ?_
   exact ⟨_,rfl,_,_,ag_ hw' nl (fun _ _ => rfl),by rw [Af]; omega,.same (Ce (by rw [Af]; omega)),.inr ⟨nx U,rep [.str []] (n + 1),nl,by rw [Af]; omega,rfl,by rw [ab_,if_pos rfl]; rfl⟩,Below.rfl'.new nl _⟩
  ·refine G7 ?_;exact ⟨_,rfl,_,_,ag_ hw nl (fun _ _ => rfl),nl,.same rfl,.nil,.rfl'⟩
theorem f25 (ls : List (List Str)) (U : Sto) (hb : ls.length < 1000) (hb2 : ls.flatten.length < 1000000) : Cv 25 [slV eL 1 ls] U (slV e1 1 ls.flatten) := by
 refine An Tryz.func25 rfl rfl fun hw hu0 => ?_
 iterate 16 refine G ?_
 refine B3 (fun q : Nat × AV => [(0,slV eL 1 ls),(3,q.2),(9,slV eL 1 ls),(10,iV (.ofNat ls.length)),(11,iV (.ofNat q.1))]) (fun q U0 => q.1 <= ls.length /\ U0 = U /\ ∃ s,q.2 = iV (.ofNat s) /\ s = ((ls.take q.1).flatten).length) (fun q => ls.length - q.1) (0,iV (.ofNat 0)) SL ⟨bh_ _,rfl,0,rfl,rfl⟩ ?_
 rintro ⟨i0,v0⟩ U0 hP0;obtain ⟨hi0,rfl,s,hvs,hs⟩ : i0 <= ls.length /\ U0 = U /\ ∃ s,v0 = iV (.ofNat s) /\ s = ((ls.take i0).flatten).length := hP0;refine G5 ?_;refine Ab rfl ?_ ?_ <;> intro h1
 ·have bc : i0 < ls.length := by simpa using h1
  obtain ⟨a0,ha0⟩ := A6 bc;have hd0 := Ay ha0;subst hvs
  have hfl : ((ls.take i0).flatten).length + a0.length <= ls.flatten.length := by have := Kb ls (i0 + 1); rwa [Hw ha0,ao_] at this
  iterate 14 refine G ?_
  refine O1 (Dg (p := s) (q := a0.length) okC rfl rfl Om) ?_;refine G7 ?_;refine Ab rfl ?_ ?_ <;> intro h2
  ·exact absurd h2 (by simp; omega)
  ·refine G5 ?_
   refine ⟨(i0 + 1,iV (.ofNat (s + a0.length))),by show ls.length - (i0 + 1) < ls.length - i0; omega,SL,bc,rfl,_,rfl,by rw [Hw ha0,ao_,hs]⟩
 ·have bk : ls.length <= i0 := by simpa using h1
  subst hvs;rw [av_ bk] at hs;subst hs;refine G4 ?_;refine Bw rfl rfl rfl rfl (f73 ls.flatten.length _ hb2) fun v τ ⟨bp,bt⟩ => ?_
  refine G10 ?_;refine B3 (fun q : Nat × AV => [(6,q.2),(25,slV eL 1 ls),(26,iV (.ofNat ls.length)),(27,iV (.ofNat q.1))]) (fun q U2 => q.1 <= ls.length /\ Own U2 (nx U0) e1 1 ((ls.take q.1).flatten) q.2 /\ Below (nx U0) U0 U2) (fun q => ls.length - q.1) (0,v) SL ⟨bh_ _,bp,bt⟩ ?_
  rintro ⟨i2,v2⟩ U2 hP2;obtain ⟨hi2,bu,bn⟩ : i2 <= ls.length /\ Own U2 (nx U0) e1 1 ((ls.take i2).flatten) v2 /\ Below (nx U0) U0 U2 := hP2;refine G5 ?_;refine Ab rfl ?_ ?_ <;> intro h2
  ·have bw : i2 < ls.length := by simpa using h2
   obtain ⟨a2,ha2⟩ := A6 bw;have hd2 := Ay ha2
   have bz : (((ls.take i2).flatten).length + a2.length) * (16 + 1) <= sizeLim := by have := Kb ls (i2 + 1); rw [Hw ha2,ao_] at this; simp only [sizeLim]; omega
   obtain ⟨v,τ3,cu,da,di,_⟩ := bu.app (by' := 16) Aay bn.1 a2 bz
   refine G12 ?_;refine O1 (A3 elC rfl slC rfl rfl rfl (Vl Aay _ a2) cu) ?_;refine G6 ?_
   refine ⟨(i2 + 1,v),by show ls.length - (i2 + 1) < ls.length - i2; omega,SL,bw,by rw [Hw ha2]; exact da,bn.trans di⟩
  ·have b6 : ls.length <= i2 := by simpa using h2
   refine G6 ?_;rw [av_ b6] at bu;refine G ?_;exact ⟨_,rfl,slV e1 1 ls.flatten,U0,as_ hw bn,nl,bu.fz Aay (fun a ha => hw.none ha) (Bi Ke _),rfl,rfl⟩
def Jp : Nat -> Str -> Option Nat
 | acc,[] => some acc
 | acc,c :: r => if 48 <= c.toNat /\ c.toNat <= 57 then Jp (10 * acc + (c.toNat - 48)) r else none
def Afc : Option Nat -> Int
 | none => -1
 | some v => if 1000000000 < v then -1 else v
def Abv (s : Str) : Int := if ((decide (s = []) || decide ((10 : Int) < Int.ofNat s.length)) || (decide (Int.ofNat (s.headD 0).toNat = 48) && decide ((1 : Int) < Int.ofNat s.length))) = true then -1 else Afc (Jp 0 s)
theorem Alv : ∀ (l : Str) (acc v : Nat),Jp acc l = some v -> acc <= v
 | [],acc,v,h => by simp [Jp] at h; omega
 | c :: r,acc,v,h => by
  rw [Jp] at h
  split at h
  ·have := Alv r _ v h; omega
  ·cases h
theorem Ahy {c : UInt8} {n : Nat} (h : c.toNat = n) : c = UInt8.ofNat n := by rw [← h]; simp
theorem Vv : ∀ (l : Str) (acc v : Nat),0 < acc -> Jp acc l = some v -> Lib.decDigits v = Lib.decDigits acc ++ l
 | [],acc,v,_,h => by simp [Jp] at h; subst h; simp
 | c :: r,acc,v,h0,h => by
  rw [Jp] at h
  split at h
  ·rename_i hc
   rw [Vv r _ v Om h,Ahe (10 * acc + (c.toNat - 48)) Om]
   have e1 : (10 * acc + (c.toNat - 48)) / 10 = acc := by omega
   have e2 : UInt8.ofNat (48 + (10 * acc + (c.toNat - 48)) % 10) = c := (Ahy Om).symm;rw [e1,e2]; simp
  ·cases h
theorem Aqb (l : Str) (v : Nat) (hne : l ≠ []) (hz : ¬ ((l.headD 0).toNat = 48 /\ 1 < l.length)) (h : Jp 0 l = some v) : Lib.decDigits v = l := by
 match l,hne with
 | c :: r,_ =>
  rw [Jp] at h
  split at h
  ·rename_i hc
   simp only [Nat.mul_zero,bq_] at h
   by_cases h48 : c.toNat = 48
   ·have hr : r = [] := by
     cases r with
     | nil => rfl
     | cons a b => exact absurd ⟨h48,by simp⟩ hz
    subst hr
    simp [Jp,h48] at h
    subst h;rw [P7 0 Om,Ahy h48]
   ·rw [Vv r _ v Om h,P7 (c.toNat - 48) Om];have : UInt8.ofNat (48 + (c.toNat - 48)) = c := (Ahy Om).symm;rw [this]; rfl
  ·cases h
theorem Aaz : ∀ (l : Str) (acc v : Nat),v <= 1000000000 -> Jp acc l = some v -> Lib.parseUint10 acc l = .ok v
 | [],acc,v,_,h => by simp [Jp] at h; subst h; rfl
 | c :: r,acc,v,hv,h => by
  rw [Jp] at h
  split at h
  ·rename_i hc
   have hle := Alv r _ v h;unfold Lib.parseUint10;rw [if_pos hc,if_neg Om,if_neg Om]
   rw [show acc * 10 + (c.toNat - 48) = 10 * acc + (c.toNat - 48) by omega]
   exact Aaz r _ v hv h
  ·cases h
theorem Anj (t : Str) (h : 0 <= Abv t) : ∃ v : Nat,v <= 1000000000 /\ t = Lib.decDigits v /\ Lib.atoiAll t = .ok v := by
 unfold Abv at h
 split at h
 ·omega
 ·rename_i hb
  simp only [ce_,af_,decide_eq_true_eq,ai_,not_or] at hb;obtain ⟨⟨hn,hl⟩,hz⟩ := hb;cases hg : Jp 0 t with
  | none => rw [hg] at h; simp [Afc] at h
  | some v =>
   rw [hg] at h;simp only [Afc] at h
   by_cases gu : 1000000000 < v
   ·rw [if_pos gu] at h; omega
   ·have qx : Lib.decDigits v = t := Aqb t v hn (fun ⟨k1,k2⟩ => hz ⟨by omega,by omega⟩) hg
    refine ⟨v,by omega,qx.symm,?_⟩
    have hp := Aaz t 0 v Om hg
    match t,hn with
    | c :: r,_ =>
     have hcd : 48 <= c.toNat /\ c.toNat <= 57 := by
      rw [Jp] at hg
      split at hg
      ·assumption
      ·cases hg
     unfold Lib.atoiAll;simp only;rw [if_neg Om];unfold Lib.parseMag
     rw [if_neg (by simp),hp]
     simp only;rw [if_neg Om,if_neg Om,if_neg Om]
def Ml (s : Str) : Bool := if (decide (B4 s < 2) || !decide (Int.ofNat (s.headD 0).toNat = 38)) = true then false else !decide (Abv (s.drop ((B4 s).toNat + 1)) < 0)
theorem Ajv {s : Str} (h : Ml s = true) : (Kg s).isSome = true := by
 unfold Ml at h
 split at h
 ·cases h
 ·rename_i hc
  have h0 : 0 <= Abv (s.drop ((B4 s).toNat + 1)) := by simpa using h
  obtain ⟨v,hv,hd,ha⟩ := Anj _ h0;unfold Kg;rw [if_neg hc]
  have hB : Qp (s.drop ((B4 s).toNat + 1)) = true := by unfold Qp; rw [ha]
  have hN : wkN s (B4 s).toNat = v := by unfold wkN Qo; rw [ha]
  have hc' := hc;simp only [ce_,decide_eq_true_eq,co_,decide_eq_false_iff_not,not_or,Decidable.not_not,ai_] at hc';obtain ⟨h2,h38⟩ := hc'
  obtain ⟨i,hi,hli,h46⟩ : ∃ i : Nat,i < s.length /\ B4 s = Int.ofNat i /\ s[i]? = some 46 := by
   have h := Lib.lastIdx_spec (⟨⟨s⟩⟩ : ByteArray) 46 (⟨⟨s⟩⟩ : ByteArray).size
   rcases h with ⟨h,_⟩ | ⟨i,h1,h3,h4,_⟩
   ·have : B4 s = -1 := h;omega
   ·have h1 : i < s.length := h1;refine ⟨i,h1,h3,?_⟩;rw [an_ h1]
    have e : (((⟨⟨s⟩⟩ : ByteArray).data[i]!)) = s[i] := by
     show (⟨s⟩ : Array UInt8)[i]! = _
     rw [getElem!_pos (⟨s⟩ : Array UInt8) i (by simpa using h1)]; rfl
    rw [e] at h4;exact congrArg some (Ahy (n := 46) Om)
  have ht : (B4 s).toNat = i := by rw [hli]; rfl
  rw [ht] at hd hN hB ⊢
  have h2i : 2 <= i := by rw [hli] at h2; simp only [ai_] at h2; omega
  have hS : wkS s i ≠ [] := by
   unfold wkS;intro hh;have := congrArg List.length hh
   simp at this
   omega
  have hwB : Vp (wkS s i) v = 0 := by unfold Vp; rw [if_neg hS,if_neg Om]
  have hwS : Aag (wkS s i) v = s := by
   unfold Aag;rw [if_pos hwB];have e0 : s = s.take i ++ s.drop i := (c_ i s).symm
   have e1 : s.drop i = [46] ++ s.drop (i + 1) := by
    obtain ⟨h1,h2⟩ := aa_.1 h46;rw [aw_ h1,h2]; rfl
   have e2 : s.take i = [38] ++ wkS s i := by
    match s,i,h2i,hi with
    | c :: r,i + 1,_,_ =>
     have : c = 38 := Ahy (n := 38) (by simp only [List.headD_cons] at h38; omega)
     subst this
     rfl
   have e3 : Lib.itoa (v : Int) = Lib.decDigits v := by unfold Lib.itoa; simp
   rw [e3,← hd];rw [← e2,cc_,← e1,c_]
  rw [if_neg (by rw [hB,hN,hwB,hwS]; simp)]
  rfl
theorem Arv {J : Ae} {U : Sto} {Rr : Rec} {t ty p q : Nat} {x y : Operand} (hi : okI Ew.P t = true) (hx : Ak Ew J x = some (.int .i64 (.ofNat p))) (hy : Ak Ew J y = some (.int .i64 (.ofNat q))) (hb : p * q < 9223372036854775808) : A0 Ew Rr (.binOp .mul t x y ty) J U (iV (.ofNat (p * q))) U := Kz hi hx hy (by
 simp only [Gm]
 rw [show Int.ofNat p * Int.ofNat q = Int.ofNat (p * q) from rfl,Pq (by simp only [ai_]; omega) (by simp only [ai_]; omega)]; rfl)
theorem Arw {J : Ae} {U : Sto} {Rr : Rec} {t ty p q : Nat} {x y : Operand} (hi : okI Ew.P t = true) (hx : Ak Ew J x = some (.int .u8 (.ofNat p))) (hy : Ak Ew J y = some (.int .u8 (.ofNat q))) (h1 : q <= p) (h2 : p <= 255) : A0 Ew Rr (.binOp .sub t x y ty) J U (.int .u8 (.ofNat (p - q))) U := Kz hi hx hy (by
 simp only [Gm,X8,ap_ h1,cond_true,L5,Ai,Ls,ap_ (show p - q <= 255 by omega)])
def cvI (P : Program) (s d : Nat) : Bool := match A4 P s,A4 P d with | some _,some td => (match td.desc with | .int .i64 => true | _ => false) | _,_ => false
theorem Aqc {J : Ae} {U : Sto} {Rr : Rec} {s d p : Nat} {k : IntKind} {x : Operand} (hi : cvI Ew.P s d = true) (hx : Ak Ew J x = some (.int k (.ofNat p))) (hb : p < 9223372036854775808) : A0 Ew Rr (.convert s d x) J U (iV (.ofNat p)) U := fun tm h => by
 unfold cvI at hi
 split at hi
 ·rename_i ts td h1 h2
  split at hi
  ·rename_i h3
   simp only [opA,Az,h1,h2,h3,h.opd hx,Nw,Pq (n := Int.ofNat p) (by simp only [ai_]; omega) (by simp only [ai_]; omega)]
   rfl
  ·cases hi
 ·cases hi
theorem cv53 : cvI Ew.P 5 3 = true := Kr
def dn : Nat -> Int
 | 0 => -1
 | j + 1 => .ofNat j
theorem Aqd (j : Nat) : Int.ofNat j - 1 = dn j := by cases j <;> simp [dn] <;> omega
theorem Alw {s : Str} {j : Nat} {u : UInt8} (h : s[j]? = some u) : Lib.lastIdx ⟨⟨s⟩⟩ 46 (j + 1) = if (u.toNat : Int) = 46 then (j : Int) else Lib.lastIdx ⟨⟨s⟩⟩ 46 j := by
 obtain ⟨h1,h2⟩ := aa_.1 h
 have e : (((⟨⟨s⟩⟩ : ByteArray).data[j]!)) = u := by
  show (⟨s⟩ : Array UInt8)[j]! = _
  rw [getElem!_pos (⟨s⟩ : Array UInt8) j (by simpa using h1)]; exact h2
 rw [Lib.lastIdx,e]
theorem f67 (s : Str) (U : Sto) : Cv 67 [sV s] U (iV (Abv s)) := by
 have hh0 : s ≠ [] -> s[0]? = some (s.headD 0) := fun h => by cases s with | nil => exact absurd rfl h | cons c r => rfl
 refine An Tryz.func67 rfl rfl fun hw hu0 => ?_
 refine G10 ?_;refine TOr 3 ?_ (fun hg => ?_) ?_
 rotate_left
 ·iterate 3 refine Gn hg ?_
  exact Ez
 refine G ?_;refine TOr 8 ?_ (fun hg => ?_) ?_
 rotate_left
 ·refine Gn hg ?_
  refine On hg (Lm st9 rfl rfl (hh0 (by simp only [bt_,decide_eq_false_iff_not] at hg; exact hg.1)) (i := 0)) ?_
  iterate 2 refine Gn hg ?_
  refine Lx 3 _ ?_ rfl rfl rfl rfl rfl (I6 rfl rfl rfl rfl (by rw [hg]; rfl)) (fun hg => ?_) (fun hg => ?_) ?_
  rotate_left
  ·iterate 3 refine Gn hg ?_
   refine G ?_;refine ⟨rfl,?_,?_⟩
   ·exact sb
   ·exact rfl
  ·iterate 3 refine Gn hg ?_
   refine G ?_;exact ⟨rfl,sb⟩
  exact Ez
 refine G ?_;refine Ab rfl ?_ ?_ <;> intro h1
 ·have hV : Abv s = -1 := if_pos h1;refine G5 ?_;exact ⟨_,rfl,iV (-1),U,ag_ hw nl (fun _ _ => rfl),nl,.same rfl,congrArg iV hV.symm,rfl⟩
 ·have hV : Abv s = Afc (Jp 0 s) := if_neg (fun hc => Bool.noConfusion (h1.symm.trans hc))
  have hl10 : s.length <= 10 := by
   simp only [bt_,decide_eq_false_iff_not,ai_] at h1;omega
  have hpw : ∀ i,i <= 10 -> 10 ^ i <= 10000000000 := fun i hi => ax_ (Nat.pow_le_pow_right (by decide) hi) (by decide)
  refine G11 ?_
  refine B3 (fun q : Nat × Nat => [(0,sV s),(3,iV (.ofNat q.2)),(4,iV (.ofNat q.1))]) (fun q U0 => q.1 <= s.length /\ U0 = U /\ q.2 < 10 ^ q.1 /\ Jp 0 s = Jp q.2 (s.drop q.1)) (fun q => s.length - q.1) (0,0) SL ⟨bh_ _,rfl,by decide,rfl⟩ ?_
  rintro ⟨i0,ac⟩ U0 ⟨hi0,rfl,hac,hgo⟩;have hi0 : i0 <= s.length := hi0;have hac : ac < 10 ^ i0 := hac;have hgo : Jp 0 s = Jp ac (s.drop i0) := hgo;refine G8 ?_;refine Ab rfl ?_ ?_ <;> intro h2
  ·have bc : i0 < s.length := by simpa using h2
   obtain ⟨u,hu⟩ := A6 bc;have hd0 := Ay hu;have h256 : u.toNat < 256 := u.toNat_lt;refine G8 ?_;refine O1 (Lm st9 rfl rfl hu) ?_;refine G2 ?_;refine TOr 4 ?_ (fun hg => ?_) ?_
   rotate_left
   ·iterate 2 refine Gn hg ?_
    refine On hg (Lm st9 rfl rfl hu) ?_;refine Gn hg ?_;exact Ez
   refine G ?_;refine Ab rfl ?_ ?_ <;> intro h3
   ·have hno : Jp 0 s = none := by
     rw [hgo,hd0,Jp,if_neg];simp only [ce_,decide_eq_true_eq,ai_] at h3;omega
    refine G5 ?_
    exact ⟨_,rfl,iV (-1),U0,ag_ hw nl (fun _ _ => rfl),nl,.same rfl,by rw [hV,hno]; rfl,rfl⟩
   ·have hdg : 48 <= u.toNat /\ u.toNat <= 57 := by
     simp only [bt_,decide_eq_false_iff_not,ai_] at h3;omega
    have hp10 := hpw i0 Om;have hpl : 10 ^ (i0 + 1) = 10 ^ i0 * 10 := Nat.pow_succ ..;refine G3 ?_;refine O1 (Arv (p := 10) (q := ac) okC rfl rfl Om) ?_;refine G2 ?_;refine O1 (Lm st9 rfl rfl hu) (O1 (Arw (p := u.toNat) (q := 48) okC rfl rfl hdg.1 Om) ?_);refine O1 (Aqc (p := u.toNat - 48) cv53 rfl Om) ?_;refine O1 (Dg (p := 10 * ac) (q := u.toNat - 48) okC rfl rfl Om) ?_;refine G4 ?_;refine O1 (Dg (p := i0) (q := 1) okC rfl rfl Om) ?_;refine G2 ?_
    refine ⟨(i0 + 1,10 * ac + (u.toNat - 48)),by show s.length - (i0 + 1) < s.length - i0; omega,SL,bc,rfl,by show 10 * ac + (u.toNat - 48) < 10 ^ (i0 + 1); omega,?_⟩
    rw [hgo,hd0,Jp,if_pos hdg]
  ·have bk : s.length <= i0 := by simpa using h2
   have hsm : Jp 0 s = some ac := by rw [hgo,ah_ bk]; rfl
   refine G7 ?_;refine Ab rfl ?_ ?_ <;> intro h3
   ·have gu : 1000000000 < ac := by simp only [decide_eq_true_eq,ai_] at h3; omega
    refine G5 ?_
    exact ⟨_,rfl,iV (-1),U0,ag_ hw nl (fun _ _ => rfl),nl,.same rfl,by rw [hV,hsm]; exact congrArg iV (if_pos gu).symm,rfl⟩
   ·have gu : ¬ 1000000000 < ac := by simp only [decide_eq_false_iff_not,ai_] at h3; omega
    refine G7 ?_
    exact ⟨_,rfl,iV (.ofNat ac),U0,ag_ hw nl (fun _ _ => rfl),nl,.same rfl,by rw [hV,hsm]; exact congrArg iV (if_neg gu).symm,rfl⟩
theorem f22 (s : Str) (U : Sto) (hb : s.length <= 281474976710656) : Ao Ew 22 [sV s] U fun v U' => U' = U /\ ∃ a n,v = .tup [a,n,.bool (Ml s)] := by
 have hd0 : decide (B4 s < 2) = false -> s[0]? = some (s.headD 0) := by
  intro hh
  rcases Kf s with h | ⟨i,hi,h⟩
  ·rw [h] at hh; cases hh
  ·cases s with
   | nil => simp at hi
   | cons c r => rfl
 refine An Tryz.func22 rfl rfl fun hw hu0 => ?_
 refine G10 ?_
 refine O1 (Ps (p := Int.ofNat s.length) (q := 1) okC rfl rfl (by simp only [ai_]; omega) (by simp only [ai_]; omega)) ?_
 refine G4 ?_;refine B3 (fun i : Nat => [(0,sV s),(5,iV (dn i))]) (fun i U0 => i <= s.length /\ U0 = U /\ Lib.lastIdx ⟨⟨s⟩⟩ 46 i = B4 s) (fun i => i) s.length ⟨rfl,congrArg (fun z => some (iV z)) (Aqd s.length),trivial⟩ ⟨nl,rfl,rfl⟩ ?_
 rintro i0 U0 ⟨hi0,rfl,hla⟩
 obtain ⟨u,hu⟩ : ∃ u : UInt8,∀ j,i0 = j + 1 -> s[j]? = some u := by
  cases i0 with
  | zero => exact ⟨0,fun j h => by cases h⟩
  | succ k => obtain ⟨u,hu⟩ := A6 (show k < s.length by omega); exact ⟨u,fun j h => by cases h; exact hu⟩
 refine G6 ?_;refine TAn 4 ?_ (fun hg => ?_) ?_
 rotate_left
 ·iterate 2 refine Gn hg ?_
  refine On hg (Lm (i := i0 - 1) st9 rfl (by cases i0 with | zero => exact absurd hg (by decide) | succ k => rfl) (by cases i0 with | zero => exact absurd hg (by decide) | succ k => exact hu k rfl)) ?_
  refine Gn hg ?_;exact Ez
 refine G ?_;refine Ab rfl ?_ ?_ <;> intro h1
 ·obtain ⟨j,rfl⟩ : ∃ j,i0 = j + 1 := by
   cases i0 with
   | zero => exact absurd h1 (by simp [dn])
   | succ k => exact ⟨k,rfl⟩
  have hne : ¬ (u.toNat : Int) = 46 := by
   simp only [af_,co_,decide_eq_false_iff_not,ai_] at h1;exact h1.2
  have od := (Alw (hu j rfl)).symm.trans hla;rw [if_neg hne] at od;refine G4 ?_
  refine O1 (Ps (p := Int.ofNat j) (q := 1) okC rfl rfl (by simp only [ai_]; omega) (by simp only [ai_]; omega)) ?_
  refine G2 ?_
  exact ⟨j,bj_ _,⟨rfl,congrArg (fun z => some (iV z)) (Aqd j),trivial⟩,by omega,rfl,od⟩
 ·have hdn : dn i0 = B4 s := by
   cases i0 with
   | zero => exact hla
   | succ j =>
    have h46 : (u.toNat : Int) = 46 := by
     have h0 : decide ((0 : Int) <= dn (j + 1)) = true := by simp [dn]
     rw [h0,Bool.true_and] at h1
     simpa using h1
    rw [← hla,Alw (hu j rfl),if_pos h46]; rfl
  have hS0 : ∀ {J : Ae},Ae.at ((5,iV (dn i0)) :: J) 5 = some (iV (B4 s)) := fun {J} => by rw [hdn]; rfl
  rw [hdn];refine G7 ?_;refine TOr 3 ?_ (fun hg => ?_) ?_
  rotate_left
  ·refine Gn hg ?_;refine On hg (Lm st9 rfl rfl (hd0 hg) (i := 0)) ?_;refine Gn hg ?_;exact Ez
  refine G ?_;refine Ab rfl ?_ ?_ <;> intro h2
  ·have hV : Ml s = false := if_pos h2;refine G7 ?_
   exact ⟨_,rfl,.tup [sV [],iV 0,.bool (Ml s)],U0,ag_ hw nl (fun _ _ => rfl),nl,(by rw [hV]; exact .same rfl),rfl,_,_,rfl⟩
  ·obtain ⟨i,hi,hli⟩ : ∃ i : Nat,i < s.length /\ B4 s = Int.ofNat i := by
    rcases Kf s with h | h
    ·rw [h] at h2; cases h2
    ·exact h
   have h2i : 2 <= i := by
    rw [hli] at h2;simp only [bt_,decide_eq_false_iff_not,ai_] at h2;omega
   have hN : (B4 s).toNat = i := by rw [hli]; rfl
   have h2' := h2;rw [hli];refine G5 ?_;refine O1 (Dg (p := i) (q := 1) okC rfl rfl Om) ?_;refine O1 (Ahf (a := i + 1) st9 rfl rfl Om) ?_;refine Ag rfl rfl rfl rfl (f67 (s.drop (i + 1)) _) ?_;refine G8 ?_;refine Ab rfl ?_ ?_ <;> intro h3
   ·have hV : Ml s = false := by
     unfold Ml;rw [if_neg (fun hc => Bool.noConfusion (h2'.symm.trans hc)),hN]
     rw [show decide (Abv (s.drop (i + 1)) < 0) = true from h3]; rfl
    refine G7 ?_
    exact ⟨_,rfl,.tup [sV [],iV 0,.bool (Ml s)],U0,ag_ hw nl (fun _ _ => rfl),nl,(by rw [hV]; exact .same rfl),rfl,_,_,rfl⟩
   ·have hV : Ml s = true := by
     unfold Ml;rw [if_neg (fun hc => Bool.noConfusion (h2'.symm.trans hc)),hN]
     rw [show decide (Abv (s.drop (i + 1)) < 0) = false from h3]; rfl
    refine G5 ?_;refine O1 (Ae3 (a := 1) (b := i) st9 rfl rfl rfl Om Om) ?_;refine G6 ?_
    exact ⟨_,rfl,.tup [sV ((s.take i).drop 1),iV (Abv (s.drop (i + 1))),.bool (Ml s)],U0,ag_ hw nl (fun _ _ => rfl),nl,(by rw [hV]; exact .same rfl),rfl,_,_,rfl⟩
def Aqe (l : List Sb) (most : Int) : Bool := decide (Int.ofNat l.length <= 20) && !(l.any fun x => !Aja x.tree most)
theorem f21 (x : Sb) (U : Sto) (hb : x.label.length <= 281474976710656) : Cv 21 [.agg (eS x)] U (.bool (!Ml x.label)) := by
 refine An Tryz.func21 rfl rfl fun hw hu0 => ?_
 refine G2 ?_;refine Fa ldC rfl (A1 (eS_len x)) rfl ?_;refine G6 ?_;refine Bw rfl rfl rfl rfl (f22 x.label _ hb) ?_;rintro _ _ ⟨rfl,a,n,rfl⟩
 iterate 15 refine G ?_
 exact ⟨_,rfl,_,_,ag_ hw nl (fun _ _ => rfl),nl,.same rfl,rfl,rfl⟩
theorem f65 (x : Sb) (most : Int) (U : Sto) (h0 : 0 <= most) (h1 : most <= 1000) : Cv 65 [.agg (eS x),.pv [iV most]] U (.bool (!Aja x.tree most)) := by
 refine An Tryz.func65 rfl rfl fun hw hu0 => ?_
 refine G2 ?_;refine Fa ldC rfl (A1 (eS_len x)) rfl ?_;refine G5 ?_;refine O1 (Ad (v := Ap x.tree) ldC rfl rfl (Bt (eT_len x.tree))) ?_;refine G ?_;refine Ag rfl rfl rfl rfl (f10 x.tree most _ h0 h1) ?_;refine G4 ?_;exact ⟨_,rfl,_,_,ag_ hw nl (fun _ _ => rfl),nl,.same rfl,rfl,rfl⟩
theorem f19 (l : List Sb) (most : Int) (U : Sto) (h0 : 0 <= most) (h1 : most <= 1000) : Cv 19 [slV eS 3 l,iV most] U (.bool (Aqe l most)) := by
 refine An Tryz.func19 rfl rfl fun hw hu0 => ?_
 refine G9 ?_;refine O1 (T9 (q := 20) okC rfl rfl) ?_;refine G ?_;refine TAn 4 ?_ (fun hg => ?_) ?_
 rotate_left
 ·iterate 2 refine Gn hg ?_
  refine Bh rfl rfl rfl (by rw [hg]; rfl) rfl rfl rfl rfl (f20 (fun x => !Aja x.tree most) l 65 [.pv [iV most]] _ (by simp only [decide_eq_true_eq,ai_] at hg; omega) (fun x _ => f65 x most _ h0 h1)) ?_
  refine Gn hg ?_;exact Ez
 refine G3 ?_;exact ⟨_,rfl,_,_,ag_ hw nl (fun _ _ => rfl),nl,.same rfl,rfl,rfl⟩
theorem f23 (l : List Sb) (U : Sto) (hb : l.length < 1000000) : Cv 23 [slV eS 3 l] U (slV eS 3 l) := by
 refine An Tryz.func23 rfl rfl fun hw hu0 => ?_
 iterate 16 refine G ?_
 refine B3 (fun q : Nat × AV => [(3,q.2),(6,slV eS 3 l),(7,iV (.ofNat l.length)),(8,iV (.ofNat q.1))]) (fun q U0 => q.1 <= l.length /\ Own U0 (nx U) eS 3 (l.take q.1) q.2 /\ Below (nx U) U U0) (fun q => l.length - q.1) (0,.nil (.slice none 0 0)) SL ⟨bh_ _,.nil,.rfl'⟩ ?_
 rintro ⟨i0,v0⟩ U0 hP0;obtain ⟨hi0,bp,bt⟩ : i0 <= l.length /\ Own U0 (nx U) eS 3 (l.take i0) v0 /\ Below (nx U) U U0 := hP0;refine G5 ?_;refine Ab rfl ?_ ?_ <;> intro h1
 ·have bc : i0 < l.length := by simpa using h1
  obtain ⟨x,hx⟩ := A6 bc;have htk := Ahc hx;obtain ⟨lb,lt,kt⟩ := x
  have bz : ((l.take i0).length + [(⟨lb,.node lt kt⟩ : Sb)].length) * (56 + 1) <= sizeLim := by simp only [bn_,bv_,sizeLim]; omega
  obtain ⟨v,τ3,cu,da,di,_⟩ := bp.app (by' := 56) eS_len bt.1 [⟨lb,.node lt kt⟩] bz
  refine G5 ?_
  refine O1 (Ax elC eS_len rfl rfl hx) (O1 (Ad (v := .agg [sV lb,sV lt,slV eT 2 kt]) ldC rfl rfl (by rw [← Ae5]; exact Ba (eS_len _) _)) ?_)
  refine G7 ?_;refine O1 (Ad (v := .agg [sV lt,slV eT 2 kt]) ldC rfl rfl rfl) ?_;refine G ?_
  refine C1 (As elC byW rfl rfl rfl) (D6 (len := 1)) rfl rfl (O1 (A3 elC rfl slC rfl rfl rfl (new := [(⟨lb,.node lt kt⟩ : Sb)].flatMap eS) (by rw [ca_,gq_,bi_,Ae5]; rfl) cu) ?_)
  refine G6 ?_
  exact ⟨(i0 + 1,v),by show l.length - (i0 + 1) < l.length - i0; omega,SL,bc,by rw [htk]; exact da,bt.trans di⟩
 ·have bk : l.length <= i0 := by simpa using h1
  rw [av_ bk] at bp;refine G7 ?_;exact ⟨_,rfl,slV eS 3 l,U,as_ hw bt,nl,bp.fz eS_len (fun a ha => hw.none ha) (Bi Ae4 _),rfl,rfl⟩
theorem f74 (t : Ah) (U : Sto) : Cv 74 [Ap t] U (.fn (.func 110) [] [.pv (eT t)]) := by
 refine An Tryz.func74 rfl rfl fun hw hu0 => ?_
 refine G11 ?_
 exact ⟨_,rfl,_,_,ag_ hw nl (fun _ _ => rfl),nl,.same (by show (true && ((AV.unds (nx U) (eT t)) && true)) = true; rw [Gh]; rfl),rfl,rfl⟩
theorem Aqf {J : Ae} {U : Sto} {Rr : Rec} {t m n sz : Nat} {agg : Bool} {k : IntKind} {x y : Operand} {cs : List AV} {v : AV} (hi : arI Ew.P t = some (m,sz,agg)) (hx : Ak Ew J x = some (.agg cs)) (hy : Ak Ew J y = some (.int k (.ofNat n))) (hn : n < m) (hv : Jc sz agg (cs.drop (n * sz)) = some v) : A0 Ew Rr (.index t x y) J U v U := fun tm h => by
 unfold arI at hi
 split at hi
 ·rename_i ti hti
  split at hi
  ·rename_i nn e he
   split at hi
   ·rename_i te hte
    cases hi
    have hb : Nat.blt n m = true := by simpa using hn
    simp only [opA,Az,hti,he,hte,h.opd hx,h.opd hy,Io,hb,cond_true,Hr,hv]
   ·cases hi
  ·cases hi
 ·cases hi
def YN (d : Db) (r N : Nat) : Sq := ⟨N + 2,N,Aq (gO d).sorts,slV eR 4 (gO d).rules,.mp r⟩
def d0N (N : Nat) : Sa := ⟨.nil (.slice none 0 0),.nil (.slice none 0 0),.nil (.slice none 0 0),.nil (.slice none 0 0),N,N + 1⟩
def S00 : NS := ⟨[],[],[],[],[],[]⟩
theorem nl00 : NL S00 := ⟨rfl,rfl,nl⟩
theorem sn0 (d : Db) (r : Nat) {N : Nat} {U : Sto} (hN : nx U = N) : Sn (YN d r N) (((U.new (.map 187 [] 0)).new (.map 3 [] 0)).new (.cells ((d0N N).cells (YN d r N)))) S00 (d0N N) := by
 have h2 := nx1 (o := .map 187 [] 0) hN;have h3 := nx1 (o := .map 3 [] 0) h2;have h4 := nx1 (o := .cells ((d0N N).cells (YN d r N))) h3
 refine ⟨?_,.nil,.nil,.nil,.nil,⟨0,?_⟩,⟨0,?_⟩,fun a h => (by cases h),fun a h => (by cases h),fun a h => (by cases h),fun a h => (by cases h),fun a h => (by cases h),fun a h => (by cases h),fun h => (by cases h),fun h => (by cases h),fun h => (by cases h),fun h => (by cases h),by show N <= N + 2; omega,by show N + 2 < _; omega,by show N < _; omega,by show N + 1 < _; omega⟩
 ·show Sto.get _ (N + 2) = _
  rw [ab_,if_pos h3.symm]
 ·show Sto.get _ N = _
  rw [ab_,if_neg Om,ab_,if_neg Om,ab_,if_pos hN.symm]; rfl
 ·show Sto.get _ (N + 1) = _
  rw [ab_,if_neg Om,ab_,if_pos h2.symm]; rfl
structure Lq (X : Sd) (D : Nat -> Ah) (kn : List Kc) (U τ : Sto) (pa : List Nat) (M : Nat := 0) : Prop where
 s : Sx X τ pa kn
 u : UF D pa
 l : pa.length = X.nodes.length
 f : ∀ b,b < nx U -> τ.get b = U.get b
 n : nx U <= nx τ
 m : M <= nx τ
structure Lp (X : Sd) (D : Nat -> Ah) (kn : List Kc) (mo : Nat) (m : GM Int Ms) (U τ : Sto) (pa : List Nat) : Prop where
 s : Sx X τ pa kn
 g : GAt 3 eM τ mo m
 u : UF D pa
 l : pa.length = X.nodes.length
 f : ∀ b,b < nx U -> τ.get b = U.get b
 n : nx U <= nx τ
section
variable {X : Sd} {D : Nat -> Ah} {kn : List Kc} {mo M n : Nat} {m : GM Int Ms} {U τ : Sto} {pa : List Nat} {r : Nat × List Nat}
theorem Lp.root (h : Lp X D kn mo m U τ pa) (hm : mo ≠ X.p) (hp : nx U <= X.p) (hr : Rq D pa n r) : Lp X D kn mo m U (X.setP τ r.2) r.2 :=
 ⟨h.s.setP hr.len,h.g.of_get (by rw [Bc,if_neg hm]),hr.uf,hr.len.trans h.l,fun b hb => by rw [Bc,if_neg Om]; exact h.f b hb,by rw [B2]; exact h.n⟩
theorem Lq.root (h : Lq X D kn U τ pa M) (hp : nx U <= X.p) (hr : Rq D pa n r) : Lq X D kn U (X.setP τ r.2) r.2 M :=
 ⟨h.s.setP hr.len,hr.uf,hr.len.trans h.l,fun b hb => by rw [Bc,if_neg Om]; exact h.f b hb,by rw [B2]; exact h.n,by rw [B2]; exact h.m⟩
theorem Lq.val {sq0 : List Sb} {o : Ah × List Nat} (h : Lq X D kn U τ pa M) (hp : nx U <= X.p) (hr : Ahm sq0 D pa n o) : Lq X D kn U (X.setP τ o.2) o.2 M :=
 ⟨h.s.setP hr.len,hr.uf,hr.len.trans h.l,fun b hb => by rw [Bc,if_neg Om]; exact h.f b hb,by rw [B2]; exact h.n,by rw [B2]; exact h.m⟩
theorem Sx.lt9 (h : Sx X τ pa kn) (hw : WFS τ) : X.A < nx τ /\ X.p < nx τ /\ X.c < nx τ := ⟨(hw _ _ h.c).1,(hw _ _ h.p).1,(hw _ _ h.k).1⟩
end
theorem f24 (d : Db) (la lb : Str) (ka kb : List Ah) (s : List Sb) (U : Sto) (hD : DbS d) (hta : TrS (.node la ka)) (htb : TrS (.node lb kb)) (hs : No s) (hab : apT s (.node la ka) = apT s (.node lb kb)) (hca : Av (apT s (.node la ka)) <= 1000000) :
  Ao Ew 24 [dbV d,slV eT 2 [.node la ka],slV eT 2 [.node lb kb]] U fun v U' => U' = U /\ ∃ l e,v = .tup [slV eS 3 l,iV e] /\ (e ≠ 0 -> e ≠ 200 /\ e ≠ 201) /\ l.length <= 8000 /\ ∀ x ∈ l,apT s x.tree = apT s (.node x.label []) := by
 obtain ⟨hOk,hrl⟩ := of_ok d;refine An Tryz.func24 rfl rfl fun hw hu0 => ?_
 iterate 15 refine G ?_
 refine TOr 3 ?_ (fun hg => ?_) ?_
 rotate_left
 ·iterate 3 refine Gn hg ?_
  exact Ez
 refine G ?_;refine Ab rfl ?_ ?_ <;> intro h1
 ·exact absurd h1 (by simp)
 ·skip
  refine G4 ?_;refine Bw rfl rfl rfl rfl (f49 d U hD.b hD.n hrl) ?_;rintro _ U1 ⟨r,rfl,hr0,hm1,hB1⟩;refine Asz fun hw1 => ?_
  refine G3 ?_;refine Dh (cs := L4 (gO d) r) ziC ldC rfl (fun _ => rfl) rfl rfl rfl rfl ?_
  refine G8 ?_;refine Ab rfl ?_ ?_ <;> intro h2
  ·have hof : ¬ (ofF d).2 = 0 := by simpa using h2
   have hlt := Atu d;refine G7 ?_
   exact ⟨_,rfl,.tup [slV eS 3 [],iV ((ofF d).2)],U,as_ hw ⟨hB1.1,hB1.2⟩,nl,.tup (.cons (.nils (fun q hq => by cases hq)) (.cons (.same rfl) .nil)),rfl,[],_,rfl,fun _ => ⟨by omega,by omega⟩,bh_ _,fun x hx => by cases hx⟩
  ·skip
   refine G9 ?_;refine Bq 1 (fun i0 => [(1,slV eT 2 [.node la ka]),(2,slV eT 2 [.node lb kb]),(6,.nil (.slice none 0 0)),(8,.pv (L4 (gO d) r)),(43,iV (.ofNat 1)),(44,iV (.ofNat i0))]) (fun i0 U0 => U1 = U0) SL rfl ?_
   rintro i0 U0 hi0 rfl;refine G5 ?_;refine Ab rfl ?_ ?_ <;> intro h3
   ·have bc : i0 < 1 := by
     have h9 : (i0 : Int) < 1 := of_decide_eq_true h3;omega
    obtain rfl : i0 = 0 := by omega
    have c50 := (f50t (gO d) (mO d) r U1 hm1 hOk hta htb rfl).wk (args := [Fs (gO d) r,.sv [sV la,slV eT 2 ka,sV lb,slV eT 2 kb] 2 2 (some 2)]) (.cons .rfl' (.cons D6 .nil));refine G9 ?_;refine XS (l := [(50,[Fs (gO d) r,.sv [sV la,slV eT 2 ka,sV lb,slV eT 2 kb] 2 2 (some 2)],U1,iV (Mi (gO d) (mO d) [.node la ka,.node lb kb]),U1)]) ⟨c50,trivial⟩ ?_;refine G3 ?_
    refine DF (Ax (a := .node la ka) elC eT_len rfl rfl rfl) (DF (Ad (v := .agg [sV la,slV eT 2 ka]) ldC rfl rfl (by rw [← Cc]; exact Ba (eT_len _) _)) ?_)
    refine G2 ?_
    refine DF (Ax (a := .node lb kb) elC eT_len rfl rfl rfl) (DF (Ad (v := .agg [sV lb,slV eT 2 kb]) ldC rfl rfl (by rw [← Cc]; exact Ba (eT_len _) _)) ?_)
    refine DF (As elC byW rfl rfl rfl) ?_;refine G8 ?_;refine Ab rfl ?_ ?_ <;> intro h4
    ·have hck : ¬ Mi (gO d) (mO d) [.node la ka,.node lb kb] = 0 := by simpa using h4
     have hlt := Ahw (gO d) (mO d) [.node la ka,.node lb kb];refine G7 ?_
     exact ⟨_,rfl,.tup [slV eS 3 [],iV (Mi (gO d) (mO d) [.node la ka,.node lb kb])],U,as_ hw ⟨hB1.1,hB1.2⟩,nl,.tup (.cons (.nils (fun q hq => by cases hq)) (.cons (.same rfl) .nil)),rfl,[],_,rfl,fun _ => ⟨by omega,by omega⟩,bh_ _,fun x hx => by cases hx⟩
    ·skip
     refine G5 ?_;refine ⟨bc,SL,rfl⟩
   ·skip
    refine G9 ?_;refine Bq 1 (fun i2 => [(1,slV eT 2 [.node la ka]),(2,slV eT 2 [.node lb kb]),(6,.nil (.slice none 0 0)),(8,.pv (L4 (gO d) r)),(63,iV (.ofNat 1)),(64,iV (.ofNat i2))]) (fun i2 U2 => U1 = U2) SL rfl ?_
    rintro i2 U2 hi2 rfl;refine G5 ?_;refine Ab rfl ?_ ?_ <;> intro h4
    ·have bw : i2 < 1 := by
      have h9 : (i2 : Int) < 1 := of_decide_eq_true h4;omega
     obtain rfl : i2 = 0 := by omega
     refine G9 ?_;refine XI (l := [(51,[Fs (gO d) r,sV la],U1,sV (Hx (gO d) (mO d) la),U1),(51,[Fs (gO d) r,sV lb],U1,sV (Hx (gO d) (mO d) lb),U1)]) ⟨f51 (gO d) (mO d) la r U1 hm1 hta.l.node.1 hOk.s,f51 (gO d) (mO d) lb r U1 hm1 htb.l.node.1 hOk.s,trivial⟩ ?_;refine G3 ?_;refine DF (Ax (a := .node la ka) elC eT_len rfl rfl rfl) ?_;refine G ?_
     refine DF (Ad (v := sV la) ldC rfl rfl (by rw [Cc]; rfl)) ?_
     refine G4 ?_;refine DF (Ax (a := .node lb kb) elC eT_len rfl rfl rfl) ?_;refine G ?_
     refine DF (Ad (v := sV lb) ldC rfl rfl (by rw [Cc]; rfl)) ?_
     refine DT (Bg rfl rfl (Adi fun h => by simp only [cq_,and_true,true_and] at h; rw [Asw h])) ?_
     refine DF (Ey okC rfl rfl) ?_;refine G ?_
     refine ⟨rfl,by simp,?_⟩
     refine Ab rfl ?_ ?_ <;> intro h5
     ·skip
      refine G6 ?_
      exact ⟨_,rfl,.tup [slV eS 3 [],iV (11)],U,as_ hw ⟨hB1.1,hB1.2⟩,nl,.tup (.cons (.nils (fun q hq => by cases hq)) (.cons (.same rfl) .nil)),rfl,[],_,rfl,fun _ => ⟨by omega,by omega⟩,bh_ _,fun x hx => by cases hx⟩
     ·skip
      refine G5 ?_;refine ⟨bw,SL,rfl⟩
    ·obtain ⟨N,hN⟩ : ∃ N,nx U1 = N := ⟨_,rfl⟩
     have hrN : r < N := by rw [← hN]; exact hm1.lt hw1
     have hNU : nx U <= N := by rw [← hN]; exact hB1.1
     refine G4 ?_;refine O1 (Bp (n := N) Agp hN) (O1 (Bp (n := N + 1) Aov (nx1 hN)) ?_);refine G ?_;refine O1 (Aie (cs := (d0N N).cells (YN d r N)) ldC rfl rfl) ?_;refine G2 ?_;have hn2 := nx1 (o := .map 187 [] 0) hN;have hn3 := nx1 (o := .map 3 [] 0) hn2;have hSs := sn0 d r hN
     have js : ∀ b,b < nx U -> (((U1.new (.map 187 [] 0)).new (.map 3 [] 0)).new (.cells ((d0N N).cells (YN d r N)))).get b = U.get b := fun b hb => by rw [ab_,if_neg Om,ab_,if_neg Om,ab_,if_neg Om]; exact hB1.2 b hb
     rw [hn3]
     have hns : nx (((U1.new (.map 187 [] 0)).new (.map 3 [] 0)).new (.cells ((d0N N).cells (YN d r N)))) = N + 3 := by rw [Af,hn3]
     generalize (((U1.new (.map 187 [] 0)).new (.map 3 [] 0)).new (.cells ((d0N N).cells (YN d r N)))) = Us at *
     obtain ⟨τ1,d1,ca,hS1,s1⟩ := f68 (YN d r N) (.node la ka) S00 (d0N N) Us hSs nl00 hta.l (by have := hta.c; show 0 + _ <= _; omega)
     obtain ⟨iq,hl1⟩ := X5 (.node la ka) S00 nl00
     have hl1 : (Dt (.node la ka) S00).2.nodes.length <= Av (.node la ka) := by have : (Dt (.node la ka) S00).2.nodes.length <= 0 + Av (.node la ka) := hl1; omega
     obtain ⟨τ2,d2,cb,hS2,s2⟩ := f68 (YN d r N) (.node lb kb) (Dt (.node la ka) S00).2 d1 τ1 hS1 iq htb.l (by have := hta.c; have := htb.c; omega)
     obtain ⟨ip,hl2⟩ := X5 (.node lb kb) (Dt (.node la ka) S00).2 iq;obtain ⟨D1,P1,k1⟩ := Aju hs (.node la ka) (fun _ => .node [] []) (fun _ => ([],[])) S00 (Ws.empty ..) hca
     obtain ⟨D2,P2,k2⟩ := Aju hs (.node lb kb) D1 P1 (Dt (.node la ka) S00).2 k1.inv (by rw [← hab]; exact hca)
     have hDa : D2 (Dt (.node la ka) S00).1 = apT s (.node la ka) := (k2.grw.d _ k1.lt).trans k1.d;have hDb := k2.d;have hla := al_ k1.lt k2.grw.n;have hlb := k2.lt;have eu := k2.inv
     have im : τ1 ≠ Us := fun hh => by
      have e1 := hS1.c;rw [hh,hSs.c] at e1
      have e2 : (d0N N).n = d1.n := by simp only [ad_,AO.cells.injEq,Sa.cells,cq_] at e1; exact e1.2.2.2.1
      obtain ⟨a9,tl9,_,_,e3,_⟩ := hS1.on.sr k1.lt;rw [← e2] at e3;cases e3
     clear k1 k2
     generalize hS2e : (Dt (.node lb kb) (Dt (.node la ka) S00).2).2 = S2 at *
     generalize (Dt (.node lb kb) (Dt (.node la ka) S00).2).1 = nb at *
     generalize (Dt (.node la ka) S00).1 = na at *
     have hsl : S2.nodes.length <= 8000 := by have := hta.c; have := htb.c; omega
     have hN2 : N + 3 <= nx τ2 := by rw [← hns]; exact ax_ s1.nx s2.nx
     obtain ⟨τ3,hap,hn3',ho3,hg3⟩ := ff_ (U := τ2) (N := N) (by' := 16) Ef Om (.nil (enc := eP2) (sz := 2)) (na,nb) (by simp [sizeLim])
     have hS3 : Sn (YN d r N) τ3 S2 d2 := hS2.of_get Om fun b hb => hg3 b (hS2.foot_lt hb) (fun hh => by cases hh)
     have qz : ∀ b,b < nx U -> τ3.get b = U.get b := fun b hb => by
      have hfo : ∀ b,b < N -> ¬ Aax (YN d r N) (d0N N) b := fun b hb hf => by
       rcases hf with h | h | h | h | h | h | h
       ·have h : b = N + 2 := h; omega
       ·have h : b = N := h; omega
       ·have h : b = N + 1 := h; omega
       all_goals cases h
      have s12 := s1.trans s2 s1.nx
      rw [hg3 b Om (fun hh => by cases hh),s12.fr b Om (hfo b Om)]
      exact js b hb
     generalize hvp : (AV.sr (nx τ2) 0 2 (([] : List (Nat × Nat)).length + 1) none) = vp at *
     refine G12 ?_;refine B3 (fun z : Nat × AV => [(1,slV eT 2 [.node la ka]),(2,slV eT 2 [.node lb kb]),(6,.nil (.slice none 0 0)),(12,.pr (N + 2) 0),(13,z.2),(89,iV (.ofNat 1)),(90,nV z.1)]) (fun z τ => (z.1 = 0 /\ z.2 = .nil (.slice none 0 0) /\ τ = Us) ∨ (z.1 = 1 /\ z.2 = vp /\ τ = τ3)) (fun z => 1 - z.1) (0,.nil (.slice none 0 0)) SL (.inl ⟨rfl,rfl,rfl⟩) ?_
     rintro ⟨i4,v4⟩ U4 hz;refine G5 ?_;refine Ab rfl ?_ ?_ <;> intro h5
     ·have dc : i4 < 1 := by
       have h9 : (i4 : Int) < 1 := of_decide_eq_true h5;omega
      rcases hz with ⟨h7,h8,rfl⟩ | ⟨h7,_,_⟩
      rotate_left
      ·have h7 : i4 = 1 := h7; omega
      have h7 : i4 = 0 := h7;have h8 : v4 = .nil (.slice none 0 0) := h8;subst h7 h8;refine G8 ?_;refine Rc (Rr := Dl [(68,[.pr (N + 2) 0,Ap (.node la ka)],U4,nV na,τ1),(68,[.pr (N + 2) 0,Ap (.node lb kb)],τ1,nV nb,τ2)]) (anns := [⟨.pure,0,2⟩,⟨.pure,0,0⟩,⟨.pure,0,0⟩,⟨.pure,0,0⟩,⟨.pure,0,0⟩,⟨.read,0,0⟩,⟨.eff,0,1⟩,⟨.pure,0,1⟩,⟨.pure,0,1⟩,⟨.pure,0,1⟩,⟨.pure,0,1⟩,⟨.read,0,1⟩,⟨.eff,1,2⟩,⟨.pure,2,2⟩,⟨.pure,2,2⟩,⟨.eff,2,3⟩,⟨.pure,3,3⟩]) E8 (Da ⟨ca,cb,trivial⟩) Kr ?_;refine G4 ?_;refine DF (Ax (a := .node la ka) elC eT_len rfl rfl rfl) (DF (Ad (v := Ap (.node la ka)) ldC rfl rfl (Ba (eT_len (.node la ka)) _)) ?_);refine G4 ?_;refine DF (Ax (a := .node lb kb) elC eT_len rfl rfl rfl) (DF (Ad (v := Ap (.node lb kb)) ldC rfl rfl (Ba (eT_len (.node lb kb)) _)) (DT (Bg rfl rfl (Ado (fun h => absurd h.2.2 im) Bo)) ?_))
      refine DF (Jd (z := [.int .i64 0,.int .i64 0]) Kr Jt rfl rfl) ?_;refine DF (As elC byW rfl rfl rfl) (DT (A3 elC rfl slC rfl rfl rfl (new := eP2 (na,nb)) rfl hap) ?_);refine G2 ?_;refine ⟨⟨trivial,trivial,trivial,trivial,trivial,(fun s _ => ⟨_,(Ad (v := Ap (.node la ka)) (ldC (t := 28)) rfl rfl (Ba (eT_len (.node la ka)) _))⟩),trivial,trivial,trivial,trivial,trivial,(fun s _ => ⟨_,(Ad (v := Ap (.node lb kb)) (ldC (t := 28)) rfl rfl (Ba (eT_len (.node lb kb)) _))⟩),trivial,trivial,trivial,trivial,trivial,trivial⟩,?_⟩
      refine G4 ?_
      exact ⟨(1,vp),by show 1 - 1 < 1 - 0; omega,SL,.inr ⟨rfl,rfl,rfl⟩⟩
     ·have ic : 1 <= i4 := by
       have h9 : ¬ (i4 : Int) < 1 := of_decide_eq_false h5;omega
      rcases hz with ⟨h7,_,_⟩ | ⟨_,h8,rfl⟩
      ·have h7 : i4 = 0 := h7; omega
      have h8 : v4 = vp := h8;subst h8;refine G ?_;refine C3 fun hw4 => ?_
      obtain ⟨p,c,tp,tc,hfz,hX,hdp,hdc,hpN,hcN,hpl,hcl⟩ := hS3.toSx hw4 ip (dd_ (bh_ _) hla) (by have := Alg (N := nx U4) (gO d) (r := r) Om; exact this)
      have hnF : nx ((without (without U4 d2.n) d2.w).set (YN d r N).A (.cells ((d2.sd (YN d r N) S2 p c tp tc).cells S2.par.length))) = nx U4 := by rw [Ac,Di,Di]
      have ga : adr v4 = some (nx τ2) := by rw [← hvp]; rfl
      have qy : ∀ b,adr v4 = some b -> ((without (without U4 d2.n) d2.w).set (YN d r N).A (.cells ((d2.sd (YN d r N) S2 p c tp tc).cells S2.par.length))).get b = U4.get b := fun b hb => by
       rw [ga] at hb;cases hb
       rw [a_,if_neg (by have := hS2.lA; omega),Eg,if_neg]
       rintro (hh | hh)
       ·have := (hS2.ow.adr_lt hh).2; omega
       ·have := (hS2.on.adr_lt hh).2; omega
      have ql : ∀ b,b < nx U -> ((without (without U4 d2.n) d2.w).set (YN d r N).A (.cells ((d2.sd (YN d r N) S2 p c tp tc).cells S2.par.length))).get b = U.get b := fun b hb => by
       rw [a_,if_neg (by show ¬ b = N + 2; omega),Eg,if_neg]
       ·exact qz b hb
       ·rintro (hh | hh)
        ·have := (hS3.ow.adr_lt hh).1; have e : (YN d r N).N = N := rfl; omega
        ·have := (hS3.on.adr_lt hh).1; have e : (YN d r N).N = N := rfl; omega
      refine An7 ((without (without U4 d2.n) d2.w).set (YN d r N).A (.cells ((d2.sd (YN d r N) S2 p c tp tc).cells S2.par.length))) [(6,.nil (.slice none 0 0)),(12,.pr (N + 2) 0),(13,v4)] hfz (by rw [hnF]; omega) ⟨⟨_,rfl,.same rfl⟩,⟨_,rfl,.same (Ce (by rw [hnF]; omega))⟩,⟨_,rfl,.same (by rw [← hvp]; exact Ce (by rw [hnF]; omega))⟩,trivial⟩ ?_
      have hO4 : Mk ((without (without U4 d2.n) d2.w).set (YN d r N).A (.cells ((d2.sd (YN d r N) S2 p c tp tc).cells S2.par.length))) eP2 2 [(na,nb)] v4 := (ho3.toO (by simp)).of_get (by rw [hnF]; exact nl) qy
      have hcX : (d2.sd (YN d r N) S2 p c tp tc).A = N + 2 := rfl;have hpX : (d2.sd (YN d r N) S2 p c tp tc).p = p := rfl;have og : (d2.sd (YN d r N) S2 p c tp tc).c = c := rfl;have hXn : (d2.sd (YN d r N) S2 p c tp tc).nodes = S2.nodes := rfl;have hXw : (d2.sd (YN d r N) S2 p c tp tc).works = S2.works := rfl
      have hp2 : p < nx τ2 := (hS2.op.adr_lt (by rw [hdp]; rfl)).2
      have hc2 : c < nx τ2 := (hS2.ok.adr_lt (by rw [hdc]; rfl)).2
      have hpN : N <= p := hpN;have hcN : N <= c := hcN
      generalize hUF : ((without (without U4 d2.n) d2.w).set (YN d r N).A (.cells ((d2.sd (YN d r N) S2 p c tp tc).cells S2.par.length))) = UF at *
      generalize hXe : d2.sd (YN d r N) S2 p c tp tc = X at *
      have hni : NI s D2 X.nodes := hXn ▸ eu.ni
      have hki : KI D2 X.nodes X.works S2.known := by rw [hXn,hXw]; exact eu.ki
      have fm : S2.par.length = X.nodes.length := by rw [hXn]; exact eu.pl
      have hnF3 : N + 3 <= nx UF := by omega
      refine G5 ?_
      refine Bw rfl rfl rfl (by rw [← hcX]; rfl) (f69 X D2 s hs hni [(na,nb)] v4 hX eu.uf hki fm hO4 (by rw [ga,hcX]; intro hh; have := cf_ hh; omega) (by rw [ga,hpX]; intro hh; have := cf_ hh; omega) (by rw [ga,og]; intro hh; have := cf_ hh; omega) (fun q hq => by rw [am_.1 hq]; exact ⟨by rw [fm,hXn]; exact hla,by rw [fm,hXn]; exact hlb,by show D2 na = D2 nb; rw [hDa,hDb,hab]⟩) (by show Av (D2 na) + 0 <= 1000000; rw [hDa]; omega)) ?_
      rintro u9 U5 ⟨rfl,p5,k5,hX5,hn5,hg5,hU5,hK5,hl5⟩;refine G2 ?_;refine Ab rfl ?_ ?_ <;> intro h6
      ·exact absurd h6 (by simp)
      ·skip
       refine G4 ?_
       refine Bw rfl rfl rfl (by rw [← hcX]; rfl) (f70 X D2 s hs hni hX5 hU5 hK5 (hl5.trans fm) (by rw [hXn]; omega) (fun i hi => eu.bd i (by rw [hl5,fm,hXn] at hi; exact hi))) ?_
       rintro u9 U6 ⟨mo,p6,m6,rfl,hm6,hmo,hmo2,hX6,hn6,hg6,hU6,hl6⟩
       have qr : ∀ b,b < nx U -> U6.get b = U.get b := fun b hb => by
        rw [hg6 b Om (by rw [hpX]; omega),hg5 b Om (by rw [hpX]; omega) (by rw [og]; omega) (by rw [ga]; intro hh; have := cf_ hh; omega)]
        exact ql b hb
       have fp : mo ≠ X.p := by rw [hpX]; omega
       have qs : p6.length = X.nodes.length := hl6.trans (hl5.trans fm)
       have hL0 : Lp X D2 k5 mo m6 U U6 p6 := ⟨hX6,hm6,hU6,qs,qr,by omega⟩
       have hXpU : nx U <= X.p := by rw [hpX]; omega
       have hlw : ∀ w ∈ X.works,∃ x,X.nodes[w]? = some x /\ lfW x = true := fun w hw' => by rw [hXn]; rw [hXw] at hw'; exact eu.wk w hw'
       have hwl : X.works.length <= 8000 := by rw [hXw]; have := ip.w; omega
       have hbd : ∀ i,i < X.nodes.length -> Av (D2 i) <= 1000000 := fun i hi => eu.bd i (by rw [← hXn]; exact hi)
       have hnU6 : nx U <= nx U6 := by omega
       rw [← hcX] at *;refine G12 ?_;refine Ab rfl ?_ ?_ <;> intro h7
       ·exact absurd h7 (by simp)
       ·skip
        refine G7 ?_;refine O1 (A5 hL0.s.c ldC rfl rfl) ?_;refine G4 ?_;refine Bq X.works.length (fun i6 => [(6,.nil (.slice none 0 0)),(12,.pr X.A 0),(15,.mp mo),(124,slV eW 1 X.works),(125,iV (.ofNat X.works.length)),(126,iV (.ofNat i6))]) (fun i6 U6 => ∃ pa,Lp X D2 k5 mo m6 U U6 pa) SL ⟨_,hL0⟩ ?_
        rintro i6 U6 hi6 ⟨pa6,hL6⟩;refine G5 ?_;refine Ab rfl ?_ ?_ <;> intro h8
        ·have dv : i6 < X.works.length := by simpa using h8
         obtain ⟨n6,hn6⟩ := A6 dv;obtain ⟨x6,hx6,_⟩ := hlw n6 (ae_ hn6)
         have iw : n6 < pa6.length := by rw [hL6.l]; exact (aa_.1 hx6).1
         refine G5 ?_;refine O1 (Ax elC E4 rfl rfl hn6) ?_;refine G10 ?_
         refine Ag rfl rfl rfl rfl (f71 X D2 n6 hL6.s hL6.u iw) (O1 (Xz (k := Int.ofNat (Am pa6 n6).1) Z3 rfl (hL6.root fp hXpU (Do hL6.u iw)).g rfl (Aaw _)) (O1 (Aqf (v := iV ((m6.get (Int.ofNat (Am pa6 n6).1)).getD (0,0)).1) Jt (congrArg some (Vu _)) rfl (by decide) rfl) ?_))
         refine G2 ?_;refine Ab rfl ?_ ?_ <;> intro h9
         ·skip
          refine G6 ?_
          exact ⟨_,rfl,.tup [slV eS 3 [],iV (15)],U,as_ hw ⟨by rw [B2]; exact hL6.n,(hL6.root fp hXpU (Do hL6.u iw)).f⟩,nl,.tup (.cons (.nils (fun q hq => by cases hq)) (.cons (.same rfl) .nil)),rfl,[],_,rfl,fun _ => ⟨by omega,by omega⟩,bh_ _,fun x hx => by cases hx⟩
         ·skip
          refine G5 ?_;refine ⟨dv,SL,_,hL6.root fp hXpU (Do hL6.u iw)⟩
        ·skip
         refine G7 ?_;refine O1 (A5 hL6.s.c ldC rfl rfl) ?_;refine G4 ?_;refine Bq X.works.length (fun i8 => [(6,.nil (.slice none 0 0)),(12,.pr X.A 0),(15,.mp mo),(143,slV eW 1 X.works),(144,iV (.ofNat X.works.length)),(145,iV (.ofNat i8))]) (fun i8 U8 => ∃ pa,Lp X D2 k5 mo m6 U U8 pa) SL ⟨_,hL6⟩ ?_
         rintro i8 U8 hi8 ⟨pa8,hL8⟩;refine G5 ?_;refine Ab rfl ?_ ?_ <;> intro h9
         ·have gg : i8 < X.works.length := by simpa using h9
          obtain ⟨n8,hn8⟩ := A6 gg;obtain ⟨x8,hx8,_⟩ := hlw n8 (ae_ hn8)
          have ix : n8 < pa8.length := by rw [hL8.l]; exact (aa_.1 hx8).1
          refine G5 ?_;refine O1 (Ax elC E4 rfl rfl hn8) ?_;refine G10 ?_
          refine Ag rfl rfl rfl rfl (f71 X D2 n8 hL8.s hL8.u ix) (O1 (Xz (k := Int.ofNat (Am pa8 n8).1) Z3 rfl (hL8.root fp hXpU (Do hL8.u ix)).g rfl (Aaw _)) (O1 (Aqf (v := iV ((m6.get (Int.ofNat (Am pa8 n8).1)).getD (0,0)).2) Jt (congrArg some (Vu _)) rfl (by decide) rfl) ?_))
          refine G2 ?_;refine Ab rfl ?_ ?_ <;> intro h10
          ·skip
           refine G6 ?_
           exact ⟨_,rfl,.tup [slV eS 3 [],iV (9)],U,as_ hw ⟨by rw [B2]; exact hL8.n,(hL8.root fp hXpU (Do hL8.u ix)).f⟩,nl,.tup (.cons (.nils (fun q hq => by cases hq)) (.cons (.same rfl) .nil)),rfl,[],_,rfl,fun _ => ⟨by omega,by omega⟩,bh_ _,fun x hx => by cases hx⟩
          ·skip
           refine G5 ?_;refine ⟨gg,SL,_,hL8.root fp hXpU (Do hL8.u ix)⟩
         ·skip
          refine G7 ?_;refine O1 (A5 hL8.s.c ldC rfl rfl) ?_;refine G4 ?_;refine C3 fun j0 => ?_
          refine B3 (fun z : Nat × AV => [(6,z.2),(12,.pr X.A 0),(162,slV eW 1 X.works),(163,iV (.ofNat X.works.length)),(164,nV z.1)]) (fun z τ => z.1 <= X.works.length /\ ∃ pa l,Lq X D2 k5 U τ pa (nx U8) /\ Own τ (nx U8) eS 3 l z.2 /\ l.length <= z.1 /\ ∀ y ∈ l,apT s y.tree = apT s (.node y.label [])) (fun z => X.works.length - z.1) (0,.nil (.slice none 0 0)) SL ⟨bh_ _,pa8,[],⟨hL8.s,hL8.u,hL8.l,hL8.f,hL8.n,nl⟩,.nil,nl,fun y hy => by cases hy⟩ ?_
          rintro ⟨iA,vA⟩ UA ⟨hiA,pA,l,hLA,hoA,hlA,hpA⟩;have hiA : iA <= X.works.length := hiA;have hoA : Own UA (nx U8) eS 3 l vA := hoA;have hlA : l.length <= iA := hlA
          have hXA8 : X.A < nx U8 /\ X.p < nx U8 /\ X.c < nx U8 := ⟨by have := hL8.s.lt9 j0; exact this.1,by have := hL8.s.lt9 j0; exact this.2.1,by have := hL8.s.lt9 j0; exact this.2.2⟩
          refine G5 ?_;refine Ab rfl ?_ ?_ <;> intro h10
          ·have j6 : iA < X.works.length := by simpa using h10
           obtain ⟨nA,hnA⟩ := A6 j6;obtain ⟨xA,hxA,hxw⟩ := hlw nA (ae_ hnA);have j7 : nA < X.nodes.length := (aa_.1 hxA).1
           have hrA := Do hLA.u (show nA < pA.length by rw [hLA.l]; exact j7)
           have c71 := f71 X D2 nA hLA.s hLA.u (by rw [hLA.l]; exact j7)
           have hLB := hLA.root hXpU hrA
           obtain ⟨hvk,c72⟩ := f72 X D2 s hs hni hK5 1000000 (Am pA nA).2 (Am pA nA).1 (X.setP UA (Am pA nA).2) hLB.s hLB.u hLB.l (by rw [hrA.len]; exact hrA.lt) (by rw [hrA.d]; exact hbd nA j7) nl
           have qt : apT s (Rs X.nodes X.works k5 1000000 (Am pA nA).2 (Am pA nA).1).1 = apT s (.node xA.lab []) := by rw [hvk.ap,hrA.d]; exact hni.leaf hxA hxw
           have hLC := hLB.val hXpU hvk
           have hoC : Own (X.setP (X.setP UA (Am pA nA).2) (Rs X.nodes X.works k5 1000000 (Am pA nA).2 (Am pA nA).1).2) (nx U8) eS 3 l vA := hoA.of_get (by rw [B2,B2]; exact nl) fun b hb => by have := (hoA.adr_lt hb).1; rw [Bc,if_neg Om,Bc,if_neg Om]
           clear hvk
           generalize (Rs X.nodes X.works k5 1000000 (Am pA nA).2 (Am pA nA).1).1 = tt at *
           generalize (Rs X.nodes X.works k5 1000000 (Am pA nA).2 (Am pA nA).1).2 = pC at *
           obtain ⟨lt,kt⟩ := tt
           generalize (X.setP (X.setP UA (Am pA nA).2) pC) = UC at *
           refine G5 ?_;refine O1 (Ax elC E4 rfl rfl hnA) ?_;refine G10 ?_;refine Ag rfl rfl rfl rfl c71 (Ag rfl rfl rfl rfl c72 (Dh ziC ldC rfl (fun _ => rfl) rfl (A1 (eT_len _)) rfl rfl ?_))
           refine G2 ?_;refine X0 ?_;refine G ?_
           refine DF (Ad (v := sV lt) ldC rfl rfl (by rw [Cc]; rfl)) ?_
           refine G3 ?_;refine DF (A5 hLC.s.c ldC rfl rfl) ?_;refine G ?_;refine DF (Ax elC Gl rfl rfl hxA) ?_;refine G2 ?_;refine DF (Ey okC rfl rfl) ?_;refine G ?_;refine ⟨rfl,rfl,?_⟩;refine Ab rfl ?_ ?_ <;> intro h11
           ·obtain ⟨τD,qu,hnD,hoD,hgD⟩ := ff_ (by' := 56) eS_len hLC.m hoC ⟨xA.lab,.node lt kt⟩ (by simp only [sizeLim]; omega)
            refine XS (l := []) trivial ?_;refine G4 ?_;refine DF (A5 hLC.s.c ldC rfl rfl) ?_;refine G ?_;refine DF (Ax elC Gl rfl rfl hxA) ?_;refine G2 ?_
            refine DF (Ad (v := .agg [sV lt,slV eT 2 kt]) ldC rfl rfl (by rw [← Cc]; exact Bt (eT_len _))) ?_
            refine G ?_
            refine DF (As elC byW rfl rfl rfl) (DT (A3 elC rfl slC rfl rfl rfl (new := eS ⟨xA.lab,.node lt kt⟩) (by rw [Ae5]; rfl) qu) ?_)
            refine G6 ?_
            exact ⟨(iA + 1,_),by show X.works.length - (iA + 1) < X.works.length - iA; omega,SL,j6,pC,l ++ [⟨xA.lab,.node lt kt⟩],⟨hLC.s.of_get (hgD _ (by have := hLC.m; omega) (fun hh => by have := (hoC.adr_lt hh).1; omega)) (hgD _ (by have := hLC.m; omega) (fun hh => by have := (hoC.adr_lt hh).1; omega)) (hgD _ (by have := hLC.m; omega) (fun hh => by have := (hoC.adr_lt hh).1; omega)),hLC.u,hLC.l,fun b hb => (hgD b (by have := hLC.n; omega) (fun hh => by have := (hoC.adr_lt hh).1; have := hL8.n; omega)).trans (hLC.f b hb),by have := hLC.n; omega,by have := hLC.m; omega⟩,hoD,by simp; omega,fun y hy => by
              rcases b_.1 hy with hy | hy
              ·exact hpA y hy
              ·rw [am_.1 hy]; exact qt⟩
           ·skip
            refine G5 ?_
            exact ⟨(iA + 1,vA),by show X.works.length - (iA + 1) < X.works.length - iA; omega,SL,j6,pC,l,hLC,hoC,by show l.length <= iA + 1; omega,hpA⟩
          ·skip
           refine G8 ?_
           exact ⟨_,rfl,.tup [slV eS 3 l,iV 0],U,as_ hw ⟨hLA.n,hLA.f⟩,nl,.tup (.cons (hoA.fzA eS_len (fun b hb => hw.none (by have := (hoA.adr_lt hb).1; have := hL8.n; omega)) (Bi Ae4 _)) (.cons (.same rfl) .nil)),rfl,l,0,rfl,fun h => absurd rfl h,by omega,hpA⟩
mutual
def lvT : Ah -> List Str
 | .node l ks => if decide (Int.ofNat ks.length = 0) = true then [l] else lvL ks
def lvL : List Ah -> List Str
 | [] => []
 | t :: r => lvT t ++ lvL r
end
def Jj (L : RF) (a : Nat) : List AV := [.fn (.func 111) [] [.pv [.yl L.aY],.pr a 0]]
def YLs (L : RF) (a : Nat) (S : List Str -> Sto -> Prop) : Prop := ∀ (ls : List Str) (s : Str) (τ : Sto),ls.length < 1000000 -> s.length <= 281474976710656 -> a < nx τ -> S ls τ -> τ.get a = some (.cells (Jj L a)) -> YTo Ew L [sV s] τ fun τ' => S (ls ++ [s]) τ' /\ τ'.get a = some (.cells (Jj L a))
mutual
theorem X6 : ∀ t : Ah,(lvT t).length <= Av t
 | .node l ks => by
  rw [lvT,Av];have := Alx ks
  split
  ·simp only [bv_]; omega
  ·omega
theorem Alx : ∀ l : List Ah,(lvL l).length <= By l
 | [] => nl
 | t :: r => by
  rw [lvL,By,ao_];have h1 := X6 t;have h2 := Alx r;omega
end
theorem Ank {ks : List Ah} {i : Nat} {k : Ah} (h : ks[i]? = some k) : By (ks.drop i) = Av k + By (ks.drop (i + 1)) := by rw [Ay h,By]
theorem f111n (L : RF) (a : Nat) (S : List Str -> Sto -> Prop) (hy : YLs L a S) (l : Str) (ks : List Ah) (ls : List Str) (U : Sto) (hbl : ls.length + Av (.node l ks) <= 1000000) (hlb : l.length <= 281474976710656) (hk : ks.length <= 1000000) (han : a < nx U) (hS : S ls U) (ha : U.get a = some (.cells (Jj L a)))
  (ih : ∀ k ∈ ks,∀ ls τ,ls.length + Av k <= 1000000 -> a < nx τ -> S ls τ -> τ.get a = some (.cells (Jj L a)) -> Acy Ew L 111 [Ap k,.pv [.yl L.aY],.pr a 0] τ fun v τ' => v = .bool true /\ S (ls ++ lvT k) τ' /\ τ'.get a = some (.cells (Jj L a))) :
  Acy Ew L 111 [Ap (.node l ks),.pv [.yl L.aY],.pr a 0] U fun v τ' => v = .bool true /\ S (ls ++ lvT (.node l ks)) τ' /\ τ'.get a = some (.cells (Jj L a)) := by
 rw [Av] at hbl;refine Atb Tryz.func111 (Oh _ _ Tryz.func111) rfl rfl fun hw hu0 => ?_
 refine Cd (Ek (Cm ?_));refine Fa ldC rfl (A1 (eT_len (.node l ks))) rfl ?_;refine G2 ?_;refine Cd ?_;refine Cd (Ek (Cm ?_));refine G ?_
 refine O1 (Ad (v := slV eT 2 ks) ldC rfl rfl (by rw [Cc]; rfl)) ?_
 refine G3 ?_;refine Jf rfl ?_ ?_ <;> intro h1
 ·refine Cd (K4 ?_);refine D8 noR rfl rfl (Ad ldC rfl rfl rfl) ?_;refine D8 noR rfl rfl (Aj fdC rfl rfl) ?_
  refine D8 noR rfl rfl (Ad (v := sV l) ldC rfl rfl (by rw [Cc]; rfl)) ?_
  refine Uh (fun _ _ => rfl) rfl rfl rfl rfl (hy ls l U Om hlb han hS ha) fun U1 hS1 hn1 => ?_
  refine D8 noR rfl rfl (Fi rfl) ?_;refine P0 ?_;refine Akx fun hw9 => ?_
  refine Akw ?_
  exact ⟨_,rfl,_,U1,ag_ hw9 nl (fun _ _ => rfl),hn1,.same rfl,rfl,by rw [lvT,if_pos h1]; exact hS1.1,hS1.2⟩
 ·refine Je ?_;refine Cd ?_;refine Cd (Ek (Cm ?_));refine G ?_
  refine O1 (Ad (v := slV eT 2 ks) ldC rfl rfl (by rw [Cc]; rfl)) ?_
  refine G3 ?_;refine Kl ?_
  refine Ug (fun i => [(2,.pr a 0),(16,slV eT 2 ks),(17,iV (.ofNat ks.length)),(18,nV i)]) (fun i τ => i <= ks.length /\ nx U <= nx τ /\ τ.get a = some (.cells (Jj L a)) /\ ∃ ls',S ls' τ /\ ls ++ lvL ks = ls' ++ lvL (ks.drop i) /\ ls'.length + By (ks.drop i) <= 1000000) (fun i => ks.length - i) 0 SL ⟨bh_ _,nl,ha,ls,hS,rfl,by show ls.length + By ks <= _; omega⟩ ?_
  rintro i U0 ⟨hi0,hn0,ha0,ls0,hS0,hl0,hb0⟩;refine Cd (Ek (Cm ?_));refine G2 ?_;refine Cd ?_;refine Jf rfl ?_ ?_ <;> intro h2
  ·have bc : i < ks.length := by simpa using h2
   obtain ⟨k,hk0⟩ := A6 bc;rw [Ank hk0] at hb0;have hlk := X6 k;refine Je ?_;refine Cd ?_;refine Kl ?_;refine Cd (Ek (Cm ?_));refine O1 (Ax elC eT_len rfl rfl hk0) (O1 (Ad ldC rfl rfl (Ba (eT_len k) _)) (Dh ziC ldC rfl (fun _ => rfl) rfl (A1 (eT_len k)) rfl rfl ?_))
   refine G ?_;refine Cd (K4 ?_);refine D8 noR rfl rfl (A5 ha0 ldC rfl rfl) ?_;refine D8 noR rfl rfl (Ad ldC rfl rfl (Bt (eT_len k))) ?_;refine Acz rfl rfl rfl rfl (ih k (ae_ hk0) ls0 U0 Om Om hS0 ha0) ?_;rintro _ U1 ⟨rfl,hS1,ha1⟩ hn1;refine D8 noR rfl rfl (F4 rfl) ?_;refine P0 ?_
   refine Jf rfl (fun h3 => by cases h3) (fun h3 => ?_)
   refine Je ?_;refine Ek (Cm ?_);refine G3 ?_
   exact ⟨i + 1,by omega,SL,bc,by omega,ha1,ls0 ++ lvT k,hS1,by rw [hl0,Ay hk0,lvL,cc_],by rw [ao_]; omega⟩
  ·have bk : ks.length <= i := by simpa using h2
   refine Z0 ?_;refine Cd (Ek (Cm ?_));refine G2 ?_;refine Akx fun hw9 => ?_
   refine Akw ?_;refine ⟨_,rfl,_,U0,ag_ hw9 nl (fun _ _ => rfl),hn0,.same rfl,rfl,?_,ha0⟩
   rw [lvT,if_neg (by rw [h1]; simp),hl0,ah_ bk,lvL,bi_]
   exact hS0
theorem f111 (L : RF) (a : Nat) (S : List Str -> Sto -> Prop) (hy : YLs L a S) (t : Ah) : Ff t -> Av t <= 1000000 -> ∀ ls τ,ls.length + Av t <= 1000000 -> a < nx τ -> S ls τ -> τ.get a = some (.cells (Jj L a)) -> Acy Ew L 111 [Ap t,.pv [.yl L.aY],.pr a 0] τ fun v τ' => v = .bool true /\ S (ls ++ lvT t) τ' /\ τ'.get a = some (.cells (Jj L a)) := by
 refine Ah.ind' (P := fun t => Ff t -> Av t <= 1000000 -> ∀ ls τ,ls.length + Av t <= 1000000 -> a < nx τ -> S ls τ -> τ.get a = some (.cells (Jj L a)) -> Acy Ew L 111 [Ap t,.pv [.yl L.aY],.pr a 0] τ fun v τ' => v = .bool true /\ S (ls ++ lvT t) τ' /\ τ'.get a = some (.cells (Jj L a))) ?_ t
 intro l ks ih hlb hc ls τ hbl han hS ha;rw [Av] at hc;have hkl := Ed ks
 exact f111n L a S hy l ks ls τ hbl hlb.node.1 Om han hS ha fun k hk ls τ h0 h1 h2 h3 => ih k hk (hlb.node.2 k hk) (by have := F9 hk; omega) ls τ h0 h1 h2 h3
theorem it110 (L : RF) (t : Ah) (U : Sto) (S : List Str -> Sto -> Prop) (hlb : Ff t) (hc : Av t <= 1000000) (h0 : ∀ τ,nx U <= nx τ -> (∀ b,b < nx U -> τ.get b = U.get b) -> S [] τ) (hy : ∀ a,nx U <= a -> YLs L a S) : K5 Ew L 110 [.yl L.aY,.pv (eT t)] U (S (lvT t)) := by
 refine Ai1 Tryz.func110 rfl rfl rfl fun hw hu0 => ?_
 refine Cd (Ek (Cm ?_));refine G2 ?_;refine Cd (Ek (Cm ?_));refine O1 (Cn (n := nx U) ziC rfl) ?_;refine G ?_;refine Cd (Ek (Cm ?_));refine G ?_
 refine O1 (E3 (cs := [.nil (.nilFunc)]) (cs' := Jj L (nx U)) (by rw [ab_,if_pos rfl]) ldC rfl rfl rfl rfl) ?_
 refine G ?_
 have hg : ((U.new (.cells [.nil (.nilFunc)])).set (nx U) (.cells (Jj L (nx U)))).get (nx U) = some (.cells (Jj L (nx U))) := by rw [a_,if_pos rfl]
 have hn : nx U < nx ((U.new (.cells [.nil (.nilFunc)])).set (nx U) (.cells (Jj L (nx U)))) := by rw [Ac,Af]; omega
 refine K4 ?_;refine D8 noR rfl rfl (A5 hg ldC rfl rfl) ?_;refine D8 noR rfl rfl (Ad ldC rfl rfl (Bt (eT_len t))) ?_
 refine Acz rfl rfl rfl rfl (f111 L (nx U) S (hy _ nl) t hlb hc [] _ (by simpa using hc) hn (h0 _ (ef_ hn) fun b hb => by rw [a_,if_neg Om,ab_,if_neg Om]) hg) ?_
 rintro _ U1 ⟨rfl,hS1,_⟩ hn1;refine P0 ?_;exact hS1
def H0 (o : List Str) (s : Str) : List Str := if ((Kg s).isSome && !(o.any fun x => decide (s = x))) = true then o ++ [s] else o
def Rt (t : Ah) : List Str := (lvT t).foldl H0 []
theorem P8 : ∀ (l o : List Str),(l.foldl H0 o).length <= o.length + l.length
 | [],o => nl
 | s :: r,o => by
  rw [fs_];have h1 := P8 r (H0 o s)
  have h2 : (H0 o s).length <= o.length + 1 := by
   unfold H0; split
   ·rw [ao_]; exact nl
   ·omega
  simp only [at_]; omega
structure WkS (U : Sto) (l : List Str) (τ : Sto) : Prop where
 mk' ::
 ex : ∃ v,τ.get (nx U + 1) = some (.cells [v]) /\ Own τ (nx U + 4) e1 1 (l.foldl H0 []) v /\ (l.foldl H0 [] = [] -> v = .nil (.slice none 0 0)) /\ τ.get (nx U + 3) = some (.loop .ready) /\ (∀ b,b < nx U -> τ.get b = U.get b) /\ nx U + 4 <= nx τ
theorem WkS.rd {U τ : Sto} {l : List Str} (h : WkS U l τ) : τ.get (nx U + 3) = some (.loop .ready) := by obtain ⟨_,_,_,_,h,_⟩ := h.ex; exact h
theorem Atv {U : Sto} {N a : Nat} {l : List Str} {v : AV} {L : RF} (h : Own U N e1 1 l v) (hn : l = [] -> v = .nil (.slice none 0 0)) (ha : U.get a = some (.cells (Jj L a))) : adr v ≠ some a := fun hh => by
 rcases h with ⟨_,rfl | rfl⟩ | ⟨c,tl,_,_,rfl,hg⟩
 ·cases hh
 ·cases hh
 ·have hca : c = a := cf_ hh;subst hca;rw [ha] at hg;cases l with
  | nil => cases hn rfl
  | cons s r =>
   have h9 := AO.cells.inj (cf_ hg);cases h9
theorem f26 (t : Ah) (U : Sto) (hlb : Ff t) (hc : Av t <= 100000) : Cv 26 [Ap t] U (Aq (Rt t)) := by
 refine Ar7 Tryz.func26 (Oh _ _ Tryz.func26) rfl rfl fun hw hu0 => ?_
 refine Z1 ?_;refine G4 ?_;refine Z1 ?_;refine G ?_;refine O1 (Ct ziC) ?_;refine G ?_;refine Acv ?_;refine G2 ?_;refine Ag rfl rfl rfl rfl (f74 t _) ?_;refine G ?_;have hA : nx U.bump = nx U + 1 := A8 U
 have h1n : nx (U.bump.new (.cells [.nil (.slice none 0 0)])) = nx U + 2 := by rw [Af,hA]
 have hsn : nx ((U.bump.new (.cells [.nil (.slice none 0 0)])).bump.new (.loop .ready)) = nx U + 4 := by rw [Af,A8,h1n]
 refine ⟨110,[.pv (eT t)],_,fun U' => WkS U (lvT t) U',rfl,Tryz.func110,Oh _ _ Tryz.func110,rfl,fun tm ht => ?_,fun U' aD hS hn => ?_⟩
 ·rw [h1n];refine gm_ (it110 _ t _ (fun l U' => WkS U l U') hlb Om ?_ ?_) fun U' hS => ⟨hS.rd,hS⟩
  ·intro τ hnτ hgτ;rw [hsn] at hnτ hgτ;refine ⟨⟨.nil (.slice none 0 0),?_,.nil,fun _ => rfl,?_,fun b hb' => ?_,hnτ⟩⟩
   ·rw [hgτ _ Om,ab_,A8,if_neg (by rw [h1n]; omega),Cy,ab_,if_pos hA.symm]
   ·rw [hgτ _ Om,ab_,A8,if_pos (by rw [h1n])]
   ·rw [hgτ _ Om,ab_,A8,if_neg (by rw [h1n]; omega),Cy,ab_,if_neg (by rw [hA]; omega),Cy]
  ·intro a hna ls s τ hls hsl hat hS ha;rw [hsn] at hna;obtain ⟨v,cg,bp,d6,hrd,cx,hnn⟩ := hS.ex;have hnb : nx (τ.set (nx U + 3) (.loop .busy)) = nx τ := Ac _ _ _
   have hll : (ls.foldl H0 []).length < 1000000 := dd_ (P8 ls []) (by simpa using hls)
   obtain ⟨wu,wn,hwk⟩ : ∃ u m,wkV (Kg s) = .tup [sV u,iV m,.bool (Kg s).isSome] := by
    cases hh : Kg s with
    | none => exact ⟨[],0,rfl⟩
    | some q => exact ⟨q.1,q.2,rfl⟩
   have hbg : ∀ b,b ≠ nx U + 3 -> (τ.set (nx U + 3) (.loop .busy)).get b = τ.get b := fun b hb => by rw [a_,if_neg hb]
   have cr : Own (τ.set (nx U + 3) (.loop .busy)) (nx U + 4) e1 1 (ls.foldl H0 []) v := bp.mono (by rw [hnb]; exact nl) fun a tl _ h8 h9 _ => hbg a Om
   have cz : (τ.set (nx U + 3) (.loop .busy)).get (nx U + 1) = some (.cells [v]) := (hbg _ Om).trans cg;have ha1 : (τ.set (nx U + 3) (.loop .busy)).get a = some (.cells (Jj _ a)) := (hbg a Om).trans ha
   have e9 : (ls ++ [s]).foldl H0 [] = H0 (ls.foldl H0 []) s := by rw [gi_]; rfl
   refine Aiz (JL := _) ht rfl rfl hrd (by show nx U + 3 < nx τ; omega) ?_
   refine Fc Kr ?_;refine G2 ?_;refine ⟨hrd,?_⟩;refine Uf (Aep ?_);refine Fc Kr ?_;refine G ?_;refine Ag rfl rfl rfl rfl (f75w s _ hsl hwk) ?_;refine G8 ?_;refine Aep ?_;refine Fc Kr ?_;refine G2 ?_;refine TAn 4 ?_ (fun hg => ?_) ?_
   rotate_left
   ·refine On hg (Ad (u := .pr (nx U + 1) 0) (cs := [v]) ldC (by rw [← hA]; rfl) (by simp only [Bk,Sto.cells,cz]; rfl) rfl) ?_
    refine Gn hg ?_
    refine Bh rfl rfl rfl (by rw [hg]; rfl) rfl rfl rfl rfl (Ape (ls.foldl H0 []) s v _ cr hll) ?_
    refine Gn hg ?_;exact Ez
   refine G ?_;refine Aoo rfl ?_ ?_ <;> intro h1
   ·have hst : H0 (ls.foldl H0 []) s = ls.foldl H0 [] ++ [s] := if_pos h1
    obtain ⟨τ1,hap,qh,ho1,hg1⟩ := ff_ (by' := 16) Aay (by rw [hnb]; omega) cr s (by simp only [sizeLim]; omega)
    have hav : adr v ≠ some a := Atv cr d6 ha1
    have hvn : ∀ b,b < nx U + 4 -> adr v ≠ some b := fun b hb hh => by have := (cr.adr_lt hh).1; omega
    have ey : τ1.get (nx U + 1) = some (.cells [v]) := (hg1 _ (by rw [hnb]; omega) (hvn _ Om)).trans cz
    refine Fc Kr ?_
    refine O1 (Ad (u := .pr (nx U + 1) 0) (cs := [v]) ldC (by rw [← hA]; rfl) (by simp only [Bk,Sto.cells,cz]; rfl) rfl) ?_
    refine G ?_
    refine C1 (As elC byW rfl rfl rfl) (D6 (len := 1)) rfl rfl (O1 (A3 elC rfl slC rfl rfl rfl (new := e1 s) rfl hap) (O1 (Aw (ad := nx U + 1) (off := 0) (vs := [v]) (vs' := [_]) (cs := [_]) ldC (by rw [← hA]; rfl) rfl (K9 ho1) (by simp only [Sto.cells,ey]) rfl) ?_))
    refine G ?_
    have hn1 : nx U + 4 <= nx τ1 := by rw [qh,hnb]; omega
    refine ⟨?_,?_,?_⟩
    rotate_left
    ·refine WkS.mk' ⟨.sr (nx (τ.set (nx U + 3) (.loop .busy))) 0 1 ((ls.foldl H0 []).length + 1) none,?_,?_,fun h => ?_,(by rw [a_,if_pos rfl]),fun b hb' => ?_,(by rw [Ac,Ac]; exact hn1)⟩
     ·rw [a_,if_neg (by show ¬ nx U + 1 = nx U + 3; omega),a_,if_pos rfl]
     ·rw [e9,hst]
      exact ho1.mono (by rw [Ac,Ac]; exact nl) fun a tl _ h8 h9 _ => by rw [a_,if_neg (by show ¬ a = nx U + 3; omega),a_,if_neg Om]
     ·rw [e9,hst] at h; simp at h
     ·rw [a_,if_neg (by show ¬ b = nx U + 3; omega),a_,if_neg Om,hg1 b (by rw [hnb]; omega) (hvn b Om),hbg b Om]
      exact cx b hb'
    ·rw [a_,if_neg (by show ¬ a = nx U + 3; omega),a_,if_neg Om,hg1 a (by rw [hnb]; omega) hav]
     exact ha1
    ·rw [a_,if_neg (by show ¬ nx U + 3 = nx U + 1; omega),hg1 _ (by rw [hnb]; show nx U + 3 < _; omega) (hvn _ (by show nx U + 3 < _; omega)),a_,if_pos rfl]
   ·have hst : H0 (ls.foldl H0 []) s = ls.foldl H0 [] := if_neg (fun hc => Bool.noConfusion (h1.symm.trans hc))
    refine Aon ?_
    refine ⟨by rw [a_,if_pos rfl],?_,?_⟩
    rotate_left
    ·rw [a_,if_neg (by show ¬ a = nx U + 3; omega)]; exact ha1
    refine WkS.mk' ⟨v,?_,?_,fun h => d6 (by rw [e9,hst] at h; exact h),by rw [a_,if_pos rfl],fun b hb' => ?_,by rw [Ac,Ac]; exact hnn⟩
    ·rw [a_,if_neg (by show ¬ nx U + 1 = nx U + 3; omega)]; exact cz
    ·rw [e9,hst]
     exact cr.mono (gb_ (by simp only [Ac])) fun a tl _ h8 h9 _ => by rw [a_,if_neg (by show ¬ a = nx U + 3; omega)]
    ·rw [a_,if_neg (by show ¬ b = nx U + 3; omega),hbg b Om]
     exact cx b hb'
 ·have hS' : WkS U (lvT t) U' := hS;obtain ⟨v,cg,bp,d6,hrd,cx,hnn⟩ := hS'.ex;rw [h1n];have hnk : nx (U'.kill (nx U + 2 + 1)) = nx U' := Bn _ _
  have hgk : ∀ b,b ≠ nx U + 3 -> (U'.kill (nx U + 2 + 1)).get b = U'.get b := fun b hb' => by rw [cp_,if_neg hb']
  have d7 : Own (U'.kill (nx U + 2 + 1)) (nx U + 4) e1 1 (Rt t) v := bp.mono (by rw [hnk]; exact nl) fun a tl _ h8 h9 _ => hgk a Om
  refine G2 ?_
  refine O1 (Ad (u := .pr (nx U + 1) 0) (cs := [v]) ldC (by rw [← hA]; rfl) (by simp only [Bk,Sto.cells,(hgk _ Om).trans cg]; rfl) rfl) ?_
  refine G3 ?_;exact ⟨_,rfl,Aq (Rt t),U,ag_ hw Om (fun b hb => (hgk b Om).trans (cx b hb)),nl,d7.fz Aay (fun a ha => hw.none Om) (Bi Ke _),rfl,rfl⟩
theorem Ahz {t : Ah} (h : Aja t 20 = true) (hl : Ff t) : TrS t /\ Av t <= 20 := by
 have hc : Av t <= 20 := Api (n := 20) h
 exact ⟨⟨hl,by omega,by have := (L3 t 1).2; omega⟩,hc⟩
theorem f13u (t : Ah) (l : List Sb) (n k : Nat) {e0 : Int} (he : 0 = e0) (U : Sto) (hc : Av t <= n) (hn : n <= 30) (hll : l.length < 1000000) (hl : ∀ x ∈ l,Av x.tree <= k) (hk : k <= 20) : Cv 13 [Ap t,slV eS 3 l] U (.tup [Ap (apT l t),iV e0]) := by
 subst he;have h1 := Lc hl t;have h2 := Alu hl t 1;have h3 := (L3 t 1).2;have h4 : Av t * (k + 1) <= 30 * 21 := Nat.mul_le_mul Om Om
 exact f13 t l U Om hll (fun x hx => by have := hl x hx; omega) Om Om
theorem f13v (t : Ah) (l : List Sb) (k : Nat) {e0 : Int} (he : 0 = e0) (U : Sto) (hc : Av t <= 30) (hll : l.length < 1000000) (hl : ∀ x ∈ l,Av x.tree <= 20) (hk : Av (apT l t) <= k) (hk2 : k <= 50) : Cv 13 [Ap t,slV eS 3 l] U (.tup [Ap (apT l t),iV e0]) := by
 subst he;have h3 := (L3 (apT l t) 1).2
 exact f13 t l U Om hll (fun x hx => by have := hl x hx; omega) Om Om
theorem Aly (l : Str) (k : List Ah) : slV eT 2 [.node l k] = .sv [sV l,slV eT 2 k] 2 1 none := by
 show AV.sv ([Ah.node l k].flatMap eT) 2 1 none = _
 rw [ca_,gq_,bi_,Cc]
theorem f4n (d : Db) (la lb : Str) (ka kb : List Ah) (l : List Sb) (U : Sto) (hla : Ff (.node la ka)) (hlt : Ff (.node lb kb)) (hlb : ∀ x ∈ l,x.label.length <= 281474976710656) (hA : ∀ τ,Cv 11 [] τ (.bool true)) : Cv 4 [dbV d,Ap (.node la ka),Ap (.node lb kb),slV eS 3 l] U (.bool true) := by
 refine An Tryz.func4 rfl rfl fun hw hu0 => ?_
 refine G3 ?_;refine Fa ldC rfl (A1 (eT_len (.node la ka))) rfl (Fa ldC rfl (A1 (eT_len (.node lb kb))) rfl ?_);refine G6 ?_
 refine Ag rfl rfl rfl rfl (f9 d 20 100 _ (by decide) (by decide)) ?_
 refine G2 ?_;refine TOr 3 ?_ (fun hg => ?_) ?_
 rotate_left
 ·refine On hg (Ad ldC rfl rfl (Bt (eT_len (.node la ka)))) (Bh rfl rfl rfl (by rw [hg]; rfl) rfl rfl rfl rfl (f10 (.node la ka) 20 _ (by decide) (by decide)) ?_)
  refine Gn hg ?_;exact Ez
 refine G ?_;refine TOr 3 ?_ (fun hg => ?_) ?_
 rotate_left
 ·refine On hg (Ad ldC rfl rfl (Bt (eT_len (.node lb kb)))) (Bh rfl rfl rfl (by rw [hg]; rfl) rfl rfl rfl rfl (f10 (.node lb kb) 20 _ (by decide) (by decide)) ?_)
  refine Gn hg ?_;exact Ez
 refine G ?_;refine TOr 3 ?_ (fun hg => ?_) ?_
 rotate_left
 ·iterate 3 refine Gn hg ?_
  exact Ez
 refine G ?_;refine TOr 3 ?_ (fun hg => ?_) ?_
 rotate_left
 ·refine Gn hg ?_
  refine Bh rfl rfl rfl (by rw [hg]; rfl) rfl rfl rfl rfl (f19 l 8 _ (by decide) (by decide)) ?_
  refine Gn hg ?_;exact Ez
 refine G ?_;refine TOr 2 ?_ (fun hg => ?_) ?_
 rotate_left
 ·refine Gn hg ?_
  refine Bh rfl rfl rfl (by rw [hg]; rfl) rfl rfl rfl rfl (f20 (fun x => !Ml x.label) l 21 [] _ (by simp only [bt_,decide_eq_false_iff_not,ai_] at hg; omega) (fun x hx => f21 x _ (hlb x hx))) ?_
  exact Ez
 refine G ?_;refine Ab rfl ?_ ?_ <;> intro h1
 ·skip
  refine G2 ?_;refine Ag rfl rfl rfl rfl (hA _) ?_;refine G3 ?_;refine Bb hw rfl ?_
  rfl
 ·simp only [bt_,ec_,decide_eq_false_iff_not,ai_] at h1;obtain ⟨⟨⟨⟨⟨hq1,hq2⟩,hq3⟩,hq4⟩,hq5⟩,hq6⟩ := h1;have hD : DbS d := Aps hq1;obtain ⟨hta,hca⟩ := Ahz hq2 hla;obtain ⟨htb,hcb⟩ := Ahz hq3 hlt
  have hl6 : l.length <= 6 := by omega
  have hl8 : ∀ x ∈ l,Av x.tree <= 8 := fun x hx => by
   unfold Aqe at hq5;simp only [af_,co_] at hq5;have := em_.1 hq5.2 x hx
   exact Api (n := 8) (by simpa using this)
  have hws : No l := fun x hx => by
   have := em_.1 hq6 x hx
   exact Ajv (by simpa using this)
  obtain ⟨ea,he1⟩ : ∃ ea : Int,0 = ea := ⟨_,rfl⟩;obtain ⟨e2,he2⟩ : ∃ e2 : Int,0 = e2 := ⟨_,rfl⟩;refine G4 ?_;refine Ag rfl rfl rfl rfl (f23 l _ Om) ?_;refine G4 ?_;refine O1 (Ad ldC rfl rfl (Bt (eT_len (.node la ka)))) ?_;refine G ?_;refine Ag rfl rfl rfl rfl (f13u (.node la ka) l 20 8 he1 _ hca Om Om hl8 Om) ?_;refine G3 ?_;refine Dh ziC ldC rfl (fun _ => rfl) rfl (A1 (eT_len (apT l (.node la ka)))) rfl rfl ?_
  refine G4 ?_;refine O1 (Ad ldC rfl rfl (Bt (eT_len (.node lb kb)))) ?_;refine G ?_;refine Ag rfl rfl rfl rfl (f13u (.node lb kb) l 20 8 he2 _ hcb Om Om hl8 Om) ?_;refine G3 ?_;refine Dh ziC ldC rfl (fun _ => rfl) rfl (A1 (eT_len (apT l (.node lb kb)))) rfl rfl ?_
  refine G8 ?_;refine TOr 2 ?_ (fun hg => ?_) ?_
  rotate_left
  ·iterate 2 refine Gn hg ?_
   exact Ez
  refine G ?_;refine TOr 4 ?_ (fun hg => ?_) ?_
  rotate_left
  ·refine On hg (Ad ldC rfl rfl (Bt (eT_len (apT l (.node la ka))))) (On hg (Ad ldC rfl rfl (Bt (eT_len (apT l (.node lb kb))))) (Bh rfl rfl rfl (by rw [hg]; rfl) rfl rfl rfl rfl (f14 (apT l (.node la ka)) (apT l (.node lb kb)) _ (Aaf _ (by have := Lc hl8 (.node la ka); omega))) ?_))
   refine Gn hg ?_;exact Ez
  refine G ?_;refine Ab rfl ?_ ?_ <;> intro h2
  ·skip
   refine G2 ?_;refine Ag rfl rfl rfl rfl (hA _) ?_;refine G3 ?_;refine Bb hw rfl ?_
   rfl
  ·have hab : apT l (.node la ka) = apT l (.node lb kb) := by
    simp only [bt_,ec_] at h2;exact Apr _ _ h2.2
   have c24 := f24 d la lb ka kb l U hD hta htb hws hab (by have := Lc hl8 (.node la ka); omega)
   rw [Aly,Aly] at c24;refine G4 ?_
   refine O1 (Ad (v := .agg [sV la,slV eT 2 ka]) ldC rfl rfl (by rw [← Cc]; exact Bt (eT_len _))) ?_
   refine C1 (As elC byW rfl rfl rfl) (D6 (len := 1)) rfl rfl (O1 (Ad (v := .agg [sV lb,slV eT 2 kb]) ldC rfl rfl (by rw [← Cc]; exact Bt (eT_len _))) ?_)
   refine C1 (As elC byW rfl rfl rfl) (D6 (len := 1)) rfl rfl (Bw rfl rfl rfl rfl c24 ?_);rintro _ U1 ⟨rfl,u,e,rfl,he,hul,hu⟩;refine G12 ?_;refine Ab rfl ?_ ?_ <;> intro h3
   ·have he0 : e ≠ 0 := by simpa using h3
    obtain ⟨om,oq⟩ := he he0;refine G5 ?_;refine TAn 2 ?_ (fun hg => ?_) ?_
    rotate_left
    ·iterate 2 refine Gn hg ?_
     exact Ez
    refine G ?_;refine TAn 1 ?_ (fun hg => ?_) ?_
    rotate_left
    ·refine Bh rfl rfl rfl (by rw [hg]; rfl) rfl rfl rfl rfl (hA _) ?_
     exact Ez
    refine G3 ?_;refine Bb hw rfl ?_;rw [show decide (e = 200) = false from decide_eq_false om,show decide (e = 201) = false from decide_eq_false oq]; rfl
   ·obtain ⟨wa,hwa⟩ : ∃ w,Rt (.node la ka) = w := ⟨_,rfl⟩
    have qa : wa.length <= 20 := by
     rw [← hwa];have h1 := P8 (lvT (.node la ka)) [];have h2 := X6 (.node la ka);simp only [cs_] at h1;unfold Rt;omega
    have cA : ∀ τ,Cv 26 [Ap (.node la ka)] τ (Aq wa) := fun τ => by rw [← hwa]; exact f26 _ τ hla Om
    obtain ⟨wb,hwb,hwbl,cB⟩ : ∃ wb,(Ap (.node lb kb) = Ap (.node la ka) -> wb = wa) /\ wb.length <= 20 /\ ∀ τ,Cv 26 [Ap (.node lb kb)] τ (Aq wb) := by
     by_cases hh : Ap (.node lb kb) = Ap (.node la ka)
     ·exact ⟨wa,fun _ => rfl,qa,fun τ => by rw [hh]; exact cA τ⟩
     ·refine ⟨Rt (.node lb kb),fun h9 => absurd h9 hh,?_,fun τ => f26 _ τ hlt Om⟩
      have h1 := P8 (lvT (.node lb kb)) [];have h2 := X6 (.node lb kb);simp only [cs_] at h1;unfold Rt;omega
    have c25 := fun τ => (f25 [wa,wb] τ (by simp) (by simp only [List.flatten_cons,List.flatten_nil,bi_,ao_]; omega)).wk (args := [.sv [Aq wa,Aq wb] 1 2 (some 2)]) (.cons D6 .nil)
    have hu9 : ∀ x ∈ u,Av x.tree <= 9 := fun x hx => by
     have h1 := Ap2 l x.tree;rw [hu x hx] at h1;have h2 := Lc hl8 (.node x.label []);have h3 : Av (.node x.label []) = 1 := rfl;omega
    obtain ⟨ws,ov⟩ : ∃ ws,[wa,wb].flatten = ws := ⟨_,rfl⟩
    have hwsl : ws.length <= 40 := by
     rw [← ov]; simp only [List.flatten_cons,List.flatten_nil,bi_,ao_]; omega
    rw [ov] at c25;refine G3 ?_;refine XI (l := [(26,[Ap (.node la ka)],U1,Aq wa,U1),(26,[Ap (.node lb kb)],U1,Aq wb,U1),(25,[.sv [Aq wa,Aq wb] 1 2 (some 2)],U1,slV e1 1 ws,U1)]) ⟨cA U1,cB U1,c25 U1,trivial⟩ ?_;refine DF (Ad ldC rfl rfl (Bt (eT_len (.node la ka)))) ?_;refine G ?_
    refine DF (Ad ldC rfl rfl (Bt (eT_len (.node lb kb)))) (DT (Bg rfl rfl (Adi fun h => by rw [hwb (by simpa using h)])) ?_)
    refine DF (As elC byW rfl rfl rfl) (DT (Bg rfl rfl (B5 (by decide) (B5 (by decide) Bo))) ?_)
    refine G3 ?_
    refine ⟨rfl,by simp,?_⟩
    refine G ?_;refine Bq ws.length (fun i0 => [(9,slV eS 3 l),(14,slV eS 3 u),(103,slV e1 1 ws),(104,iV (.ofNat ws.length)),(105,iV (.ofNat i0))]) (fun i0 U0 => U0 = U1) SL rfl ?_
    rintro i0 U0 hi0 rfl;refine G5 ?_;refine Ab rfl ?_ ?_ <;> intro h4
    ·have bc : i0 < ws.length := by simpa using h4
     obtain ⟨w,hw0⟩ := A6 bc;obtain ⟨e3,he3⟩ : ∃ e3 : Int,0 = e3 := ⟨_,rfl⟩;obtain ⟨e4,he4⟩ : ∃ e4 : Int,0 = e4 := ⟨_,rfl⟩;obtain ⟨e5,he5⟩ : ∃ e5 : Int,0 = e5 := ⟨_,rfl⟩;have hlf : Av (.node w []) = 1 := rfl;have hth := Aru hu w;have h1l := Lc hl8 (.node w []);have h1u := Lc hu9 (.node w []);refine G12 ?_;refine Ag rfl rfl rfl rfl (f18 w _) ?_;refine G ?_;refine Ag rfl rfl rfl rfl (f13u (.node w []) l 1 8 he3 _ Om Om Om hl8 Om) ?_;refine G3 ?_;refine Dh ziC ldC rfl (fun _ => rfl) rfl (A1 (eT_len (apT l (.node w [])))) rfl rfl ?_
     refine G5 ?_;refine Ag rfl rfl rfl rfl (f18 w _) ?_;refine G ?_;refine Ag rfl rfl rfl rfl (f13u (.node w []) u 1 9 he4 _ Om Om Om hu9 Om) ?_;refine G3 ?_;refine Dh ziC ldC rfl (fun _ => rfl) rfl (A1 (eT_len (apT u (.node w [])))) rfl rfl ?_
     refine G4 ?_;refine O1 (Ad ldC rfl rfl (Bt (eT_len (apT u (.node w []))))) ?_;refine G ?_
     refine Ag rfl rfl rfl rfl (f13v (apT u (.node w [])) l 9 he5 _ Om Om (fun x hx => by have := hl8 x hx; omega) (by rw [hth]; omega) Om) ?_
     refine G3 ?_;refine Dh ziC ldC rfl (fun _ => rfl) rfl (A1 (eT_len (apT l (apT u (.node w []))))) rfl rfl ?_
     refine G7 ?_;refine TOr 2 ?_ (fun hg => ?_) ?_
     rotate_left
     ·iterate 2 refine Gn hg ?_
      exact Ez
     refine G ?_;refine TOr 2 ?_ (fun hg => ?_) ?_
     rotate_left
     ·iterate 2 refine Gn hg ?_
      exact Ez
     refine G ?_;refine TOr 4 ?_ (fun hg => ?_) ?_
     rotate_left
     ·refine On hg (Ad ldC rfl rfl (Bt (eT_len (apT l (.node w []))))) (On hg (Ad ldC rfl rfl (Bt (eT_len (apT l (apT u (.node w [])))))) (Bh rfl rfl rfl (by rw [hg]; rfl) rfl rfl rfl rfl (f14 (apT l (.node w [])) (apT l (apT u (.node w []))) _ (Aaf _ Om)) ?_))
      refine Gn hg ?_;exact Ez
     refine G ?_;refine Ab rfl ?_ ?_ <;> intro h5
     ·exact absurd h5 (by rw [hth,Ahj,← he3,← he4,← he5]; decide)
     ·skip
      refine G5 ?_;refine ⟨bc,SL,rfl⟩
    ·skip
     refine G3 ?_;refine Ag rfl rfl rfl rfl (hA _) ?_;refine G3 ?_;refine Bb hw rfl ?_
     rfl
theorem f4 (d : Db) (a b : Ah) (l : List Sb) (U : Sto) (hla : Ff a) (hlt : Ff b) (hlb : ∀ x ∈ l,x.label.length <= 281474976710656) (hA : ∀ τ,Cv 11 [] τ (.bool true)) : Cv 4 [dbV d,Ap a,Ap b,slV eS 3 l] U (.bool true) := by
 cases a with
 | node la ka => cases b with
  | node lb kb => exact f4n d la lb ka kb l U hla hlt hlb hA
section
open Go Go.Proofs Go.Proofs.YtolkkkghemedjaaGreatDoor Go.ChangeShapes Go.WideShapes Go.ChangeAt Go.WideMaps Go.WideElems Go.RowKit
theorem most (d : Db) (a b : Ah) (l : List Sb) (U : Sto) (ha : Ff a) (hb : Ff b) (hl : ∀ x ∈ l,x.label.length <= 281474976710656) : Cv 4 [dbV d,Ap a,Ap b,slV eS 3 l] U (.bool true) := f4 d a b l U ha hb hl f11
section
variable {H : Type} {eh : TypeId × Value -> H} {w : World}
theorem ut47 : Tryz.prog.underlying 47 = some (.slice 50) := Kr
theorem ct50 : Tryz.prog.cellsOf 50 = 3 := Kr
theorem fl50 : Iz 50 = some [(9,0,1),(28,1,2)] := Kr
set_option maxRecDepth 1000000 in
theorem Atw {hd : Bool} {n : Nat} : RdN eh w hd n 50 3 (Fm (fun x : Sb => Ur x.label) eS) :=
 (I0 (Qs := [Fm Ur e1,Fm Ff eT]) fl50 rfl fun m _ => ⟨O9 ut9,X4 m,trivial⟩).mono fun avs h => by
  obtain ⟨_,_,⟨a,ha,rfl⟩,⟨_,_,⟨b,_,rfl⟩,rfl,rfl⟩,rfl⟩ := h
  exact ⟨⟨a,b⟩,ha,by unfold eS; simp⟩
set_option maxRecDepth 1000000 in
theorem Arx {hd : Bool} {n : Nat} : RdN eh w hd n 47 1 (Fm (fun l : List Sb => ∀ x ∈ l,Ur x.label) fun l => [slV eS 3 l]) := Lb ut47 ct50 Om eS_len fun m _ => Atw
set_option maxRecDepth 1000000 in
theorem Ajw {t e base : Nat} {v : Value} (ht : Tryz.prog.underlying t = some (.slice e)) (hv : Value.okWide Tryz.prog w .any base t v) : v.cells = #[v] := by
 obtain ⟨a,l,c,rfl⟩ := okWide_slice (P := Tryz.prog) (e := e) ht hv
 rfl
set_option maxRecDepth 1000000 in
theorem Aqg {base : Nat} {v0 v1 v2 v3 : Value} {d0 d1 d2 d3 : DataW H} {p0 p1 p2 p3 : List MemPlace} {ts : List TypeId} {gs : List (DataW H)} (hv0 : Value.okWide Tryz.prog w .any base 25 v0) (hv1 : Value.okWide Tryz.prog w .any base 28 v1) (hv2 : Value.okWide Tryz.prog w .any base 28 v2) (hv3 : Value.okWide Tryz.prog w .any base 47 v3)
  (h0 : DataW.Trod eh Tryz.prog w 0 (fun _ => true) true 25 v0 d0 p0) (h1 : DataW.Trod eh Tryz.prog w 0 (fun _ => true) true 28 v1 d1 p1) (h2 : DataW.Trod eh Tryz.prog w 0 (fun _ => true) true 28 v2 d2 p2) (h3 : DataW.Trod eh Tryz.prog w 0 (fun _ => true) true 47 v3 d3 p3)
  (hw : (DataW.weightsEach Tryz.prog ([25,28,28,47] ++ ts) ([d0,d1,d2,d3] ++ gs)).all (· <= reachBytes) = true) : ∃ (d : Db) (p t : Ah) (l : List Sb),Ff p /\ Ff t /\ (∀ x ∈ l,Ur x.label) /\ RL C0 0 w [dbV d,Ap p,Ap t,slV eS 3 l] [v0,v1,v2,v3] := by
 have hw' : ∀ (j : Nat) (t : TypeId) (d : DataW H),([25,28,28,47] ++ ts)[j]? = some t -> ([d0,d1,d2,d3] ++ gs)[j]? = some d -> ∀ b ∈ d.weights Tryz.prog t,b <= reachBytes := fun j t d ht hd b hb => by
  have := da_.1 hw b (DataW.weights_mem_each ht hd b hb)
  simpa using this
 obtain ⟨c0,rfl,l0⟩ := Aas fl25 ct25 hv0;obtain ⟨c1,rfl,l1⟩ := Aas fl28 ct28 hv1;obtain ⟨c2,rfl,l2⟩ := Aas fl28 ct28 hv2;have e3 := Ajw ut47 hv3;obtain ⟨n0,h0⟩ := h0;obtain ⟨n1,h1⟩ := h1;obtain ⟨n2,h2⟩ := h2;obtain ⟨n3,h3⟩ := h3;rw [e3] at h3;obtain ⟨_,⟨d,_,rfl⟩,r0,o0⟩ := rd_db c0.toList _ h0 l0 (hw' 0 25 d0 rfl rfl);obtain ⟨_,⟨p,hp,rfl⟩,r1,o1⟩ := X4 n1 c1.toList _ h1 l1 (hw' 1 28 d1 rfl rfl);obtain ⟨_,⟨t,ht,rfl⟩,r2,o2⟩ := X4 n2 c2.toList _ h2 l2 (hw' 2 28 d2 rfl rfl);obtain ⟨_,⟨l,hl,rfl⟩,r3,o3⟩ := Arx [v3] _ h3 rfl (hw' 3 47 d3 rfl rfl);refine ⟨d,p,t,l,hp,ht,hl,?_⟩;unfold RL
 refine ⟨by unfold dbV R; exact ⟨c0,rfl,r0,o0⟩,?_⟩
 unfold RL
 refine ⟨by unfold Ap R; exact ⟨c1,rfl,r1,o1⟩,?_⟩
 unfold RL
 exact ⟨by unfold Ap R; exact ⟨c2,rfl,r2,o2⟩,r3⟩
end
end
end Go.AM
