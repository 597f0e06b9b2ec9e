/- A part of the proof; shortened by program. -/
import Derived.Shelf.Bits.Mul64
import Derived.Test.YtadnlmhnjfmleaaGreatDoorP25
set_option maxRecDepth 100000
set_option maxHeartbeats 4000000
set_option linter.unusedSimpArgs false
set_option linter.unusedVariables false
namespace Go.AM
open Go Go.Proofs
mutual
theorem Ad0 {g : List Rl} : ∀ (t : As) (acc : List Str),(C9 g t acc).length <= acc.length + Ch t
 | .node s ks,acc => by
  unfold C9 Ch;refine bc_ (Ad1 ks _) ?_
  split
  ·rw [aw_,dc_]; omega
  ·omega
theorem Ad1 {g : List Rl} : ∀ (l : List As) (acc : List Str),(Ur g l acc).length <= acc.length + Dw l
 | [],acc => nl
 | t :: r,acc => by
  unfold Ur Dw;have h1 := Ad1 (g := g) r (C9 g t acc);have h2 := Ad0 (g := g) t acc;omega
end
theorem Ah8 {l : List Mg} {s : Str} : (Ap (fun x => decide (x.var = s)) l 0 = -1 /\ P5 l s = none) ∨ ∃ n x,Ap (fun x => decide (x.var = s)) l 0 = Int.ofNat n /\ l[n]? = some x /\ P5 l s = some x := by
 have key : ∀ (l : List Mg) (i : Nat),(Ap (fun r => decide (r.var = s)) l i = -1 /\ P5 l s = none) ∨ ∃ n r,Ap (fun r => decide (r.var = s)) l i = Int.ofNat (i + n) /\ l[n]? = some r /\ P5 l s = some r := by
  intro l
  induction l with
  | nil => intro i; exact .inl ⟨rfl,rfl⟩
  | cons r l ih =>
   intro i;unfold Ap P5;rw [List.find?_cons]
   by_cases h : r.var = s
   ·rw [decide_eq_true h];exact .inr ⟨0,r,rfl,rfl,rfl⟩
   ·rw [decide_eq_false h]
    rcases ih (i + 1) with ⟨h1,h2⟩ | ⟨n,x,h1,h2,h3⟩
    ·exact .inl ⟨h1,h2⟩
    ·exact .inr ⟨n + 1,x,by rw [cond_false,h1]; congr 1; omega,h2,h3⟩
 rcases key l 0 with h | ⟨n,r,h1,h2,h3⟩
 ·exact .inl h
 ·exact .inr ⟨n,r,by rw [h1,be_],h2,h3⟩
structure VmG (l : List Mg) (vs : List Str) (vm : SM Mg) : Prop where
 get : ∀ s,vm.get s = if s ∈ vs then P5 l s else none
theorem VmG.put {l : List Mg} {vs : List Str} {vm : SM Mg} (h : VmG l vs vm) {s : Str} {x : Mg} (hv : P5 l s = some x) : VmG l (vs ++ [s]) (vm.put s x) := ⟨fun y => by
 rw [cc_,h.get]
 by_cases hx : y = s
 ·subst hx; rw [if_pos rfl,if_pos (by simp),hv]
 ·rw [if_neg hx]
  by_cases hm : y ∈ vs
  ·rw [if_pos hm,if_pos (by simp [hm])]
  ·rw [if_neg hm,if_neg (by simp [hm,hx])]⟩
theorem MnS.setQ {d : Db} {s : Stc} {W : Wd} {rm : SM Rl} {vm vm' : SM Mg} {k a kq rq yq b q : Nat} {J : Sto} {O : AO} (h : MnS d s W rm vm k a kq rq yq b q J) (h1 : a ≠ q) (h2 : kq ≠ q) (h3 : rq ≠ q) (h4 : yq ≠ q) (h5 : b ≠ q) (hm : A8 mgV (J.set q O) q vm') : MnS d s W rm vm' k a kq rq yq b q (J.set q O) := by
 obtain ⟨⟨c1,⟨v2,c2⟩,⟨v3,c3⟩,⟨v4,c4⟩⟩,c5,_⟩ := h
 exact ⟨⟨by rw [a_,if_neg h1]; exact c1,⟨v2,by rw [a_,if_neg h2]; exact c2⟩,⟨v3,by rw [a_,if_neg h3]; exact c3⟩,⟨v4,by rw [a_,if_neg h4]; exact c4⟩⟩,by rw [a_,if_neg h5]; exact c5,hm⟩
theorem Aqg {E : Env} {ρ : Ad} {J : Sto} {Rr : Rec} {t t2 a sz n m by' : Nat} {x y : Operand} {cap : Option Nat} {u : AV} {z : Option (List AV)} {vs vs' cs : List AV} (hi : elI E.P t = some (sz,by',z)) (hx : Ai E ρ x = some (.sr a 0 sz n cap)) (hy : Ai E ρ y = some u) (hl : lenA u = some m)
  (hs : Dj J sz u (Nat.min m n) = some cs) (hg : J.get a = some (.cells vs)) (hv : setAt vs 0 cs = some vs') : A0 E Rr (.call ⟨.builtin .copy,#[x,y],#[t,t2]⟩) ρ J (.int .i64 (.ofNat (Nat.min m n))) (J.set a (.cells vs')) := fun tm h => by
 unfold elI at hi
 split at hi
 ·rename_i ti hti
  split at hi
  ·rename_i e he
   split at hi
   ·rename_i te hte
    simp only [ac_,ax_] at hi;obtain ⟨k1,k2,k3⟩ := hi;subst k1;simp only [opA,Ar,hti,Dp,he,hte,h.opd hx,h.opd hy,opds,Aj7,(show lenA (AV.sr a 0 te.size n cap) = some n from rfl),hl,hs,Sto.cells,hg,bm_,hv,Ag]
   ·cases hi
  ·cases hi
 ·cases hi
theorem Ad2 : ∀ {cs vs r : List AV},cs.length = vs.length -> setAt (vs ++ r) 0 cs = some (cs ++ r)
 | [],[],r,_ => by cases r <;> rfl
 | c :: cs,v :: vs,r,h => by
  have := Ad2 (cs := cs) (vs := vs) (r := r) (by simpa using h)
  simp only [av_,setAt,this]
theorem Ar2 {els : List Int} (h : els.length <= 6) : setAt [.int .i64 (0),.int .i64 (0),.int .i64 (0),.int .i64 (0),.int .i64 (0),.int .i64 (0)] 0 (els.flatMap eI) = some ((atL els).map iV) := by
 have e1 : ([.int .i64 (0),.int .i64 (0),.int .i64 (0),.int .i64 (0),.int .i64 (0),.int .i64 (0)] : List AV) = List.replicate els.length (.int .i64 0) ++ List.replicate (6 - els.length) (.int .i64 0) := by
  rw [List.replicate_append_replicate,show els.length + (6 - els.length) = 6 by omega]; rfl
 have e2 : els.flatMap eI = els.map iV := by
  clear h e1
  induction els with
  | nil => rfl
  | cons x l ih => rw [ch_,ih]; rfl
 rw [e1,Ad2 (by rw [e2]; simp),e2]
 unfold atL;rw [ci_,List.map_replicate]; rfl
theorem Atq {J : Sto} {els : List Int} : Dj J 1 (slV eI 1 els) els.length = some (els.flatMap eI) := Uc (enc := eI) (sz := 1) (fun _ => rfl) J els
theorem f10 (d : Db) (s : Stc) (t : As) (l : List Mg) (els : List Int) (J : Sto) (hD : DbB d) (hvf : d.vars.length + d.frames.length < 1000000) (hso : s.sorts.length < 1000000) (hsy : s.syms.length < 1000000) (hyl : ∀ y ∈ s.syms,y.vals.length < 1000000) (hgs : (ofF d).1.sorts.length < 1000000) (hb : Ch t <= 4000) (hh : hT t <= 100) (hl : l.length < 1000000) (hml : ∀ x ∈ l,x.vals.length < 1000000) (hel : els.length < 1000000) : Cv 10 [dbV d,P6 s,Bp t,slV eMg 3 l,slV eI 1 els] J (.tup [iV (soV d s t l els),iV (soE d s t l els)]) := by
 have hG := Adn d;have hgl := hG.len;have hvl := Ad0 (g := (ofF d).1.rules) t [];simp only [dr_,be_] at hvl;refine Ak Tryz.func10 rfl rfl fun hw hu0 => ?_
 refine G12 ?_;refine Bu rfl rfl rfl rfl (f28 d s _ hD hvf hso hsy hyl hgs) ?_;rintro _ τ ⟨p,rfl,bh,hW⟩
 iterate 14 refine G ?_
 refine Ab rfl ?_ ?_ <;> intro h1
 ·have hO : ¬ Jd (ofF d) s = 0 := by simpa using h1
  refine G6 ?_
  have hE : soE d s t l els = (Jd (ofF d) s) := by unfold soE; rw [if_neg hO]
  have hne : (Jd (ofF d) s) ≠ (0 : Int) := hO;refine G ?_
  exact ⟨_,rfl,_,J,as_ hw bh,nl,.same rfl,(by unfold soV; rw [hE,if_neg hne]; rfl),rfl⟩
 ·have hO : Jd (ofF d) s = 0 := by simpa using h1
  obtain ⟨rfl,rm,hrm,hS⟩ := hW hO;have hWo := Ajz hO;have hn1 : 1 <= s.size := hWo.n1;have hn3 : s.size <= 3 := hWo.n3;refine G7 ?_;refine Ab rfl ?_ ?_ <;> intro h2
  ·have hE1 : decide (6 < Int.ofNat els.length) = true := h2;refine G5 ?_
   have hE : soE d s t l els = 4 := by unfold soE; rw [if_pos hO,if_pos hE1]
   have hne : 4 ≠ (0 : Int) := by decide
   refine G ?_
   exact ⟨_,rfl,_,J,as_ hw bh,nl,.same rfl,(by unfold soV; rw [hE,if_neg hne]; rfl),rfl⟩
  ·have hE1 : decide (6 < Int.ofNat els.length) = false := h2
   have ig : els.length <= 6 := by simp at hE1; omega
   refine G4 ?_
   refine Af rfl rfl rfl rfl (f29 (fun e => decide (e < 0) || decide (s.size <= e)) els 30 [.pv (scC s)] _ Om (fun a _ => f30 a s _)) ?_
   refine G2 ?_;refine Ab rfl ?_ ?_ <;> intro h3
   ·have hE2 : Afo s.size els = true := h3;refine G5 ?_
    have hE : soE d s t l els = 3 := by unfold soE; rw [if_pos hO,if_neg (by rw [hE1]; simp),if_pos hE2]
    have hne : 3 ≠ (0 : Int) := by decide
    refine G ?_
    exact ⟨_,rfl,_,J,as_ hw bh,nl,.same rfl,(by unfold soV; rw [hE,if_neg hne]; rfl),rfl⟩
   ·have hE2 : Afo s.size els = false := h3;refine G5 ?_;refine Af rfl rfl rfl rfl (f31 d t _ hD hvf hb hh) ?_;refine G12 ?_;refine Ab rfl ?_ ?_ <;> intro h4
    ·have hC : ¬ P3 d t = 0 := by simpa using h4
     refine G6 ?_
     have hE : soE d s t l els = (P3 d t) := by unfold soE; rw [if_pos hO,if_neg (by rw [hE1]; simp),if_neg (by rw [hE2]; simp),if_neg hC]
     have hne : (P3 d t) ≠ (0 : Int) := hC;refine G ?_
     exact ⟨_,rfl,_,J,as_ hw bh,nl,.same rfl,(by unfold soV; rw [hE,if_neg hne]; rfl),rfl⟩
    ·have hC : P3 d t = 0 := by simpa using h4
     rw [if_pos hC];refine Co fun hwt => ?_
     have hlta := (hwt _ _ hS.cl).1
     have hMn : MnS d s (Ci (ofF d).1 s) rm [] els.length (nx J + 3) (nx J) (nx J + 1) (nx J + 2) (nx τ + 1) (nx τ) ((τ.new (.map 9 [] 0)).new (.cells (I5 (nx J + 3) (nx τ) els.length))) := ⟨hS.of_get (by rw [ab_,if_neg (by rw [Ac]; omega),ab_,if_neg Om]) (by rw [ab_,if_neg (by rw [Ac]; omega),ab_,if_neg Om]) (by rw [ab_,if_neg (by rw [Ac]; omega),ab_,if_neg Om]) (by rw [ab_,if_neg (by rw [Ac]; omega),ab_,if_neg Om]),by rw [ab_,if_pos (Ac _ _).symm],⟨0,by rw [ab_,if_neg (by rw [Ac]; omega),ab_,if_pos rfl]; rfl⟩⟩
     have hBm : Below (nx J) J ((τ.new (.map 9 [] 0)).new (.cells (I5 (nx J + 3) (nx τ) els.length))) := ⟨by rw [Ac,Ac]; have := bh.1; omega,fun b hb => by rw [ab_,if_neg (by rw [Ac]; omega),ab_,if_neg Om]; exact bh.2 b hb⟩
     refine G4 ?_;refine O1 (Bq (n := nx τ) mp88 rfl) ?_;refine G3 ?_;refine O1 (Alt (n := nx τ + 1) (cs := I5 (nx J + 3) (nx τ) els.length) ldC rfl rfl (nx1 rfl)) ?_;refine G10 ?_;refine Bh (C9 (ofF d).1.rules t []).length (fun i1 => [(3,slV eMg 3 l),(4,slV eI 1 els),(6,.pv (scC s)),(7,.pv (eT t)),(12,.pr (nx J + 3) 0),(15,.pr (nx τ + 1) 0),(55,Aj (C9 (ofF d).1.rules t [])),(56,iV (.ofNat (C9 (ofF d).1.rules t []).length)),(57,iV (.ofNat i1))]) (fun i1 J1 => ∃ vm,MnS d s (Ci (ofF d).1 s) rm vm els.length (nx J + 3) (nx J) (nx J + 1) (nx J + 2) (nx τ + 1) (nx τ) J1 /\ Below (nx J) J J1 /\ VmG l ((C9 (ofF d).1.rules t []).take i1) vm /\ Xx (Ci (ofF d).1 s) l els.length (C9 (ofF d).1.rules t []) = Xx (Ci (ofF d).1 s) l els.length ((C9 (ofF d).1.rules t []).drop i1)) SL ⟨[],hMn,hBm,⟨fun s => rfl⟩,rfl⟩ ?_
     rintro i1 J1 hi1 ⟨vm,hS1,hB1,hv1,hf1⟩;refine G5 ?_;refine Ab rfl ?_ ?_ <;> intro h5
     ·have nc : i1 < (C9 (ofF d).1.rules t []).length := by simpa using h5
      obtain ⟨a1,ha1⟩ := A3 nc;have hd1 := Av ha1;obtain ⟨ver,hvm⟩ := id hS1.of;rw [hd1,Xx] at hf1
      obtain ⟨r,hr,hrv⟩ : ∃ r,Au (ofF d).1.rules a1 = some r /\ r.var = true := by
       have hm : a1 ∈ (C9 (ofF d).1.rules t []) := af_ ha1
       rcases (Q0 t []).1 hm with h | ⟨h,_⟩
       ·cases h
       ·unfold Abz at h;cases hq : Au (ofF d).1.rules a1 with
        | none => rw [hq] at h; cases h
        | some r => rw [hq] at h; exact ⟨r,rfl,h⟩
      have hgr : rm.get a1 = some r := by rw [hrm]; exact hr
      have hrl : Gx (Ci (ofF d).1 s).g a1 = r := Alo hr
      iterate 13 refine G ?_
      refine Af rfl rfl rfl rfl (f32 (fun x => decide (x.var = a1)) l 33 [.pv [sV a1]] _ Om (fun x _ => f33 x a1 _)) ?_
      refine G8 ?_;refine Ab rfl ?_ ?_ <;> intro h6
      ·have e2 : P5 l a1 = none := by
        rcases Ah8 (l := l) (s := a1) with ⟨_,e⟩ | ⟨n,x,e1,_⟩
        ·exact e
        ·rw [e1] at h6; exact absurd h6 (by simp)
       rw [e2] at hf1;refine G5 ?_
       have hE : soE d s t l els = 5 := by unfold soE; rw [if_pos hO,if_neg (by rw [hE1]; simp),if_neg (by rw [hE2]; simp),if_pos hC]; exact hf1
       have hne : 5 ≠ (0 : Int) := by decide
       refine G ?_
       exact ⟨_,rfl,_,J,as_ hw hB1,nl,.same rfl,(by unfold soV; rw [hE,if_neg hne]; rfl),rfl⟩
      ·obtain ⟨n,x,e1,e2,e3⟩ : ∃ n x,Ap (fun x => decide (x.var = a1)) l 0 = Int.ofNat n /\ l[n]? = some x /\ P5 l a1 = some x := by
        rcases Ah8 (l := l) (s := a1) with ⟨e1,_⟩ | h
        ·rw [e1] at h6; exact absurd h6 (by decide)
        ·exact h
       rw [e3] at hf1;simp only at hf1;have hxb := hml x (af_ e2);refine G ?_;refine Ed 19 zYc (eMg x) [(20,iV (kd (Ci (ofF d).1 s).km r.sort))] (Kz x) rfl (fun hw => ?_) ?_
       ·refine XX 2 (l := []) trivial ?_;refine G2 ?_;refine DF (Bn (i := n) elC (fun _ => rfl) rfl (congrArg (fun x => some (AV.int .i64 x)) e1) e2) ?_
        refine G4 ?_;refine DF (A4 hS1.w.cl ldC rfl (show Be 1 false ((B5 d s (nx J) (nx J + 1) (nx J + 2)).drop 6) = some (.mp (nx J)) from rfl)) ?_
        refine G3 ?_;refine DF (A4 hS1.w.cl ldC rfl (show Be 1 false ((B5 d s (nx J) (nx J + 1) (nx J + 2)).drop 7) = some (.mp (nx J + 1)) from rfl)) ?_
        refine G ?_;refine DF (F4 (v := r) st9 Ao2 rfl hS1.w.rs rfl hgr) (DF (Zh (cs := eR r) fdC rfl rfl) (DF (G1 st9 Lu rfl hS1.w.ks rfl) (DT (B6 ziC) (DT (A6 (vs := zYc) (vs' := eMg x) ldC rfl rfl (Bk (Iu _)) Bj (Cx (Iu _))) ?_))));refine G2 ?_
        exact ⟨(by intro e he; simp at he; rcases he with rfl | rfl | rfl <;> first | exact .refl | exact H1 hw | exact Vw.below hw ⟨by rw [Ae,Ac]; omega,fun b hb => by rw [a_,if_neg Om,ab_,if_neg Om]⟩),⟨rfl,trivial⟩,sb,rfl,rfl⟩
       refine G7 ?_;refine TAn 10 ?_ (fun hg => ?_) ?_
       rotate_left
       ·iterate 4 refine Gn hg ?_
        refine Zt 5 _ ?_ rfl rfl rfl rfl rfl (Jq rfl rfl rfl rfl (by rw [hg]; rfl)) (fun hg => ?_) (fun hg => ?_) ?_
        rotate_left
        ·iterate 5 refine Gn hg ?_
         refine G ?_;refine ⟨rfl,?_,?_⟩
         ·exact sb
         ·exact rfl
        ·iterate 5 refine Gn hg ?_
         refine G ?_;exact ⟨rfl,sb⟩
        exact Ez
       refine G2 ?_;refine Ab rfl ?_ ?_ <;> intro h7
       ·have h7' : (decide ((kd (Ci (ofF d).1 s).km r.sort) = 1) && (decide (x.obj < 0) || decide (Int.ofNat els.length <= x.obj))) = true := h7
        have hmv : Sx (Ci (ofF d).1 s) els.length (kd (Ci (ofF d).1 s).km (Gx (Ci (ofF d).1 s).g a1).sort) x = 3 := by rw [hrl]; unfold Sx; rw [show (Ci (ofF d).1 s).n = s.size from rfl]; rw [if_pos h7']
        rw [if_neg (by rw [hmv]; decide),hmv] at hf1
        refine G5 ?_
        have hE : soE d s t l els = 3 := by unfold soE; rw [if_pos hO,if_neg (by rw [hE1]; simp),if_neg (by rw [hE2]; simp),if_pos hC]; exact hf1
        have hne : 3 ≠ (0 : Int) := by decide
        refine G ?_
        exact ⟨_,rfl,_,J,as_ hw hB1,nl,.same rfl,(by unfold soV; rw [hE,if_neg hne]; rfl),rfl⟩
       ·have h7' : (decide ((kd (Ci (ofF d).1 s).km r.sort) = 1) && (decide (x.obj < 0) || decide (Int.ofNat els.length <= x.obj))) = false := h7
        refine D3 [(97,.bool (!decide ((kd (Ci (ofF d).1 s).km r.sort) = 1) && !decide (Int.ofNat x.vals.length = Ce s.size 10000 els.length 1)))] ?_ ?_
        ·rcases al_ ((!decide ((kd (Ci (ofF d).1 s).km r.sort) = 1))) with hg2 | hg2
         ·refine XI (l := [(34,[iV s.size,iV (.ofNat els.length)],J1,iV (Ce s.size 10000 els.length 1),J1)]) ⟨f34 s.size els.length J1 hn1 hn3 Om,trivial⟩ ?_;refine G10 ?_
          refine Se rfl rfl rfl rfl (by first|rfl|simp only [hg2]<;>rfl|simp [hg2]) rfl rfl (Bo rfl rfl Bx) ?_
          refine G4 ?_
          exact ⟨rfl,by simp,⟨⟨Cb,trivial⟩,sb,rfl⟩⟩
         ·refine XI (l := []) trivial ?_;refine G10 ?_
          refine Qr rfl rfl rfl rfl (by first|rfl|simp only [hg2]<;>rfl|simp [hg2]) rfl rfl ?_
          refine G ?_
          refine DF (Am rfl (by first|rfl|simp only [hg2]<;>rfl|simp [hg2]) rfl) ?_
          refine G2 ?_
          exact ⟨rfl,by simp,⟨⟨congrArg (fun b => some (AV.bool b)) (by first|rfl|simp only [hg2]<;>rfl|simp [hg2]),trivial⟩,sb,rfl⟩⟩
        refine Ab rfl ?_ ?_ <;> intro h8
        ·have h8' : (!decide ((kd (Ci (ofF d).1 s).km r.sort) = 1) && !decide (Int.ofNat x.vals.length = Ce s.size 10000 els.length 1)) = true := h8
         have hmv : Sx (Ci (ofF d).1 s) els.length (kd (Ci (ofF d).1 s).km (Gx (Ci (ofF d).1 s).g a1).sort) x = 4 := by rw [hrl]; unfold Sx; rw [show (Ci (ofF d).1 s).n = s.size from rfl]; rw [if_neg (by rw [h7']; simp),if_pos h8']
         rw [if_neg (by rw [hmv]; decide),hmv] at hf1
         refine G5 ?_
         have hE : soE d s t l els = 4 := by unfold soE; rw [if_pos hO,if_neg (by rw [hE1]; simp),if_neg (by rw [hE2]; simp),if_pos hC]; exact hf1
         have hne : 4 ≠ (0 : Int) := by decide
         refine G ?_
         exact ⟨_,rfl,_,J,as_ hw hB1,nl,.same rfl,(by unfold soV; rw [hE,if_neg hne]; rfl),rfl⟩
        ·have h8' : (!decide ((kd (Ci (ofF d).1 s).km r.sort) = 1) && !decide (Int.ofNat x.vals.length = Ce s.size 10000 els.length 1)) = false := h8;refine G5 ?_;refine TAn 6 ?_ (fun hg => ?_) ?_
         rotate_left
         ·iterate 4 refine Gn hg ?_
          refine Bg rfl rfl rfl (by rw [hg]; rfl) rfl rfl rfl rfl (f35 d s (nx J + 3) (nx J) (nx J + 1) (nx J + 2) x.vals (kd (Ci (ofF d).1 s).km r.sort) _ hS1.w.cl hxb) ?_
          refine Gn hg ?_;exact Ez
         refine G2 ?_;refine Ab rfl ?_ ?_ <;> intro h9
         ·have h9' : (!decide ((kd (Ci (ofF d).1 s).km r.sort) = 1) && !Wc s.size (kd (Ci (ofF d).1 s).km r.sort) x.vals) = true := h9
          have hmv : Sx (Ci (ofF d).1 s) els.length (kd (Ci (ofF d).1 s).km (Gx (Ci (ofF d).1 s).g a1).sort) x = 3 := by rw [hrl]; unfold Sx; rw [show (Ci (ofF d).1 s).n = s.size from rfl]; rw [if_neg (by rw [h7']; simp),if_neg (by rw [h8']; simp),if_pos h9']
          rw [if_neg (by rw [hmv]; decide),hmv] at hf1
          refine G5 ?_
          have hE : soE d s t l els = 3 := by unfold soE; rw [if_pos hO,if_neg (by rw [hE1]; simp),if_neg (by rw [hE2]; simp),if_pos hC]; exact hf1
          have hne : 3 ≠ (0 : Int) := by decide
          refine G ?_
          exact ⟨_,rfl,_,J,as_ hw hB1,nl,.same rfl,(by unfold soV; rw [hE,if_neg hne]; rfl),rfl⟩
         ·have h9' : (!decide ((kd (Ci (ofF d).1 s).km r.sort) = 1) && !Wc s.size (kd (Ci (ofF d).1 s).km r.sort) x.vals) = false := h9
          have hmv : Sx (Ci (ofF d).1 s) els.length (kd (Ci (ofF d).1 s).km (Gx (Ci (ofF d).1 s).g a1).sort) x = 0 := by rw [hrl]; unfold Sx; rw [show (Ci (ofF d).1 s).n = s.size from rfl]; rw [if_neg (by rw [h7']; simp),if_neg (by rw [h8']; simp),if_neg (by rw [h9']; simp)]
          refine G ?_;refine XS (l := []) trivial ?_;refine G3 ?_;refine DF (A4 hS1.m ldC rfl (show Be 1 false ((I5 (nx J + 3) (nx τ) els.length).drop 1) = some (.mp (nx τ)) from rfl)) ?_
          refine G2 ?_
          refine DT (Ec (v := x) st9 mp88 rfl hvm rfl rfl (fun te k1 k2 => by first | exact Ex k1 k2 | exact Ey k1 k2 | exact Fc k1 k2 | exact Fe k1 k2 | exact E1 k1 k2 rfl)) ?_
          refine G5 ?_
          refine ⟨nc,SL,vm.put a1 x,hS1.setQ Om Om Om Om Om dj_,⟨by rw [Ae]; exact hB1.1,fun b hb => by rw [a_,if_neg Om]; exact hB1.2 b hb⟩,(by rw [Bb ha1]; exact hv1.put e3),(by rw [hf1,if_pos hmv])⟩
     ·have ng : (C9 (ofF d).1.rules t []).length <= i1 := by simpa using h5
      rw [ar_ ng] at hv1
      have hV0 : Xx (Ci (ofF d).1 s) l els.length (C9 (ofF d).1.rules t []) = 0 := by rw [hf1,ah_ ng]; rfl
      have hE : soE d s t l els = 0 := by unfold soE; rw [if_pos hO,if_neg (by rw [hE1]; simp),if_neg (by rw [hE2]; simp),if_pos hC]; exact hV0
      obtain ⟨q0,hq0⟩ := Ah2 hC
      have hvs : ∀ s' r',ocT s' t = true -> Au (Ci (ofF d).1 s).g s' = some r' -> r'.var = true -> vm.get s' = some (byG (C9 (ofF d).1.rules t []) l s') := fun s' r' ho hr' hv' => by
       have hm : s' ∈ (C9 (ofF d).1.rules t []) := (Q0 t []).2 (.inr ⟨by unfold Abz; rw [show Au (ofF d).1.rules s' = some r' from hr']; exact hv',ho⟩)
       obtain ⟨x,hx,_⟩ := Ut.1 hV0 s' hm;rw [hv1.get,if_pos hm,hx]; unfold byG; rw [if_pos hm,hx]; rfl
      have hat := Ap6 hn1 ig hE2
      have hal : ((atL els).map iV).length = 6 := by rw [by_]; exact hat.1
      refine Co fun hw1 => ?_
      have hBf : Below (nx J) J ((J1.new (.cells [.int .i64 (0),.int .i64 (0),.int .i64 (0),.int .i64 (0),.int .i64 (0),.int .i64 (0)])).set (nx J1) (.cells ((atL els).map iV))) := ⟨by rw [Ae,Ac]; have := hB1.1; omega,fun c hc => by have := hB1.1; rw [a_,if_neg Om,ab_,if_neg Om]; exact hB1.2 c hc⟩
      have hMf : MnS d s (Ci (ofF d).1 s) rm vm els.length (nx J + 3) (nx J) (nx J + 1) (nx J + 2) (nx τ + 1) (nx τ) ((J1.new (.cells [.int .i64 (0),.int .i64 (0),.int .i64 (0),.int .i64 (0),.int .i64 (0),.int .i64 (0)])).set (nx J1) (.cells ((atL els).map iV))) := hS1.below hw1 ⟨by rw [Ae,Ac]; omega,fun c hc => by rw [a_,if_neg Om,ab_,if_neg Om]⟩
      refine G3 ?_;refine O1 (Ho (n := nx J1) ziC rfl) ?_;refine G3 ?_
      refine O1 (Adt Ak6 rfl (by rw [ab_,if_pos rfl]) rfl rfl rfl rfl rfl) ?_
      refine G ?_
      refine O1 (Aqg (vs' := (atL els).map iV) (cs := els.flatMap eI) elC rfl rfl rfl (by rw [show Nat.min els.length 6 = els.length from dt_ ig]; exact Atq) (by rw [ab_,if_pos rfl]) (Ar2 ig)) ?_
      refine G5 ?_
      refine O1 (A4 (by rw [a_,if_pos rfl]) ldC rfl (B0 hal)) ?_
      refine Af rfl rfl rfl rfl (f36 d s (ofF d).1 (Ci (ofF d).1 s) rm vm ⟨byG (C9 (ofF d).1.rules t []) l,els.length⟩ (nx J + 3) (nx J) (nx J + 1) (nx J + 2) (nx τ + 1) (nx τ) hG rfl rfl hWo hrm ig t q0 (atL els) _ hvs hq0 (Alp hWo ig hV0) hat hMf Om) ?_;refine G4 ?_
      exact ⟨_,rfl,_,J,as_ hw hBf,nl,.same rfl,(by unfold soV; rw [if_pos hE,hE]; rfl),rfl⟩
def fzL (f : AV -> AV -> Bool) : List AV -> List AV -> Bool
 | [],[] => true
 | x :: r,y :: s => f x y && fzL f r s
 | _,_ => false
def wkS (f : AV -> AV -> Bool) (a b : AV) : Bool := match a,b with
 | .sv l sz len _,.sv l' sz' len' none => Nat.beq sz sz' && Nat.beq len len' && fzL f l l'
 | .agg l,.agg l' => fzL f l l'
 | .nil (.slice none 0 0),.sv [] _ 0 none => true
 | a,b => AV.beq a b
def wkA : Nat -> AV -> AV -> Bool
 | 0,_,_ => false
 | n + 1,a,b => wkS (wkA n) a b
section
variable {C : Ctx} {N : Nat} {w : World} {f : AV -> AV -> Bool}
theorem RL.wk (hf : ∀ a b x,f a b = true -> R C N w a x -> R C N w b x) : ∀ (l m : List AV) (xs : List Value),fzL f l m = true -> RL C N w l xs -> RL C N w m xs
 | [],[],xs,_,h => h
 | x :: r,y :: s,[],_,h => by unfold RL at h; exact h.elim
 | x :: r,y :: s,v :: vs,hz,h => by
  simp only [fzL,ae_] at hz;unfold RL at h ⊢;exact ⟨hf x y v hz.1 h.1,RL.wk hf r s vs hz.2 h.2⟩
 | [],_ :: _,_,h,_ => by cases h
 | _ :: _,[],_,h,_ => by cases h
theorem RC.wk (hf : ∀ a b x,f a b = true -> R C N w a x -> R C N w b x) {c : Nat} : ∀ (l m : List AV) (o : Nat),fzL f l m = true -> RC C N w c l o -> RC C N w c m o /\ l.length = m.length
 | [],[],_,_,h => ⟨h,rfl⟩
 | x :: r,y :: s,o,hz,h => by
  simp only [fzL,ae_] at hz;unfold RC at h ⊢;obtain ⟨⟨v,h1,h2,h3⟩,h4⟩ := h;obtain ⟨k1,k2⟩ := RC.wk hf r s (o + 1) hz.2 h4
  exact ⟨⟨⟨v,h1,h2,hf x y v hz.1 h3⟩,k1⟩,by simp [k2]⟩
 | [],_ :: _,_,h,_ => by cases h
 | _ :: _,[],_,h,_ => by cases h
theorem Alu : ∀ (l m : List AV),fzL f l m = true -> l.length = m.length
 | [],[],_ => rfl
 | _ :: r,_ :: s,h => by simp only [fzL,ae_] at h; simp [Alu r s h.2]
 | [],_ :: _,h => by cases h
 | _ :: _,[],h => by cases h
theorem R.wk : ∀ (n : Nat) (a b : AV) (x : Value),wkA n a b = true -> R C N w a x -> R C N w b x
 | 0,_,_,_,h,_ => by unfold wkA at h; cases h
 | n + 1,a,b,x,h,hr => by
  rw [wkA] at h;unfold wkS at h
  split at h
  ·simp only [ae_] at h;obtain ⟨⟨h1,h2⟩,h3⟩ := h;have h1 := aa_ h1;have h2 := aa_ h2;subst h1 h2;have hl := Alu _ _ h3;unfold R at hr ⊢;obtain ⟨ado,k,q1,q2,q3,q4,q5,q6⟩ := hr
   refine ⟨ado,k,q1,q2,fun q hq => (by cases hq),by rw [← hl]; exact q4,q5,fun ad ha => ?_⟩
   obtain ⟨p1,p2,p3⟩ := q6 ad ha;refine ⟨p1,fun hne => p2 fun he => hne ?_,(RC.wk (fun a b x => R.wk n a b x) _ _ _ h3 p3).1⟩
   rw [he] at hl;exact ee_.1 hl.symm
  ·unfold R at hr ⊢;obtain ⟨q,q1,q2,q3⟩ := hr;exact ⟨q,q1,RL.wk (fun a b x => R.wk n a b x) _ _ _ h q2,q3⟩
  ·unfold R at hr ⊢
   exact ⟨none,0,hr.1,nl,fun q hq => (by cases hq),by simp,fun _ => rfl,fun ad ha => (by cases ha)⟩
  ·have := AV.beq_eq _ _ h;subst this; exact hr
end
theorem A7.of_wk {f : Nat} {args' : List AV} {u : AV} (hc : ∀ τ,Aq Ew f args' τ (fun v τ' => v = u /\ τ' = τ)) :
  A7 Ew f (fun args J => match fzL (wkA 12) args args' with | true => some (u,J) | false => none) := fun C w J args vs v J' hs hg ha h => by
 dsimp only at h
 split at h
 ·rename_i hz
  cases h;obtain ⟨h1,h2⟩ := hc J C w vs hs hg (RL.wk (fun a b x => R.wk 12 a b x) _ _ _ hz ha)
  refine ⟨h1,h2.mono fun e w' he => ?_⟩
  cases e with
  | returned x => obtain ⟨v,τ',C',⟨rfl,rfl⟩,k1,k2,k3⟩ := he; exact ⟨C',k1,k2,k3⟩
  | panicked _ => exact he.elim
  | outgrown => exact he.elim
 ·cases h
abbrev ec_ := @A7.of_wk
def fzB (J : Sto) : Nat -> AV -> AV -> Bool
 | 0,_,_ => false
 | n + 1,.sr a off sz len _,.sv l sz' len' none => Nat.beq sz sz' && Nat.beq len len' && (match J.get a with | some (.cells vs) => (match Di (len * sz) (vs.drop off) with | some cs => fzL (fzB J n) cs l | none => false) | _ => false)
 | n + 1,.sv l sz len _,.sv l' sz' len' none => Nat.beq sz sz' && Nat.beq len len' && fzL (fzB J n) l l'
 | n + 1,.agg l,.agg l' => fzL (fzB J n) l l'
 | n + 1,.tup l,.tup l' => fzL (fzB J n) l l'
 | _ + 1,a,b => AV.beq a b && AV.und (nx J) b
theorem Aa4 {J τ : Sto} {f : AV -> AV -> Bool} (hf : ∀ a b,f a b = true -> Fz J τ a b) : ∀ (l m : List AV),fzL f l m = true -> FzL J τ l m
 | [],[],_ => .nil
 | x :: r,y :: s,h => by
  simp only [fzL,ae_] at h;exact .cons (hf x y h.1) (Aa4 hf r s h.2)
 | [],_ :: _,h => by cases h
 | _ :: _,[],h => by cases h
theorem Aa5 (J : Sto) : ∀ (n : Nat) (a b : AV),fzB J n a b = true -> Fz J ⟨.e,nx J⟩ a b
 | 0,_,_,h => by unfold fzB at h; cases h
 | n + 1,a,b,h => by
  unfold fzB at h
  split at h
  ·cases h
  ·simp only [ae_] at h;obtain ⟨⟨h1,h2⟩,h3⟩ := h;have h1 := aa_ h1;have h2 := aa_ h2;subst h1 h2
   split at h3
   ·rename_i vs hg
    split at h3
    ·rename_i cs ht
     exact .sr hg rfl ht (Aa4 (fun a b => Aa5 J _ a b) _ _ h3)
    ·cases h3
   ·cases h3
  ·simp only [ae_] at h;obtain ⟨⟨h1,h2⟩,h3⟩ := h;have h1 := aa_ h1;have h2 := aa_ h2;subst h1 h2
   exact .sv (fun q hq => by cases hq) (Aa4 (fun a b => Aa5 J _ a b) _ _ h3)
  ·exact .agg (Aa4 (fun a b => Aa5 J _ a b) _ _ h)
  ·exact .tup (Aa4 (fun a b => Aa5 J _ a b) _ _ h)
  ·simp only [ae_] at h;have := AV.beq_eq _ _ h.1;subst this;exact .same h.2
def fzR (N : Nat) (u : AV) (r : Res) : Bool := match r with
 | some (v,J) => fzB J N v u
 | none => false
theorem Ye {E : Env} {lf n f N : Nat} {a₀ : List AV} {u : AV} (dg : Ao E (Dy E lf n)) (hgl : ∀ g cs,E.gl g = some cs -> AV.closeds [.pv cs] = true) (hlp : E.loops = []) (hcl : AV.closeds a₀ = true) (hv : u.closed = true)
  (bl : fzR N u (Dy E lf n (.fn f) a₀ ⟨.e,0⟩) = true) : A7 E f (Lb a₀ u) := by
 intro C w J args vs v J' hs hg bg h;unfold Lb at h
 split at h
 ·rename_i hb
  cases h;have := AV.beqs_eq _ _ hb;subst this;unfold fzR at bl
  split at bl
  ·rename_i v₁ J₁ c6
   have hGl : Fo C.iso 0 w E := by
    refine ⟨fun g cs hh => ?_,fun c P hc => by rw [C.iso_own]; exact hg.2.1 c P hc,fun L hL => by rw [hlp] at hL; cases hL⟩
    have h1 : RL C (nx J) w [.pv cs] [.pointer (some ⟨g,0,none⟩)] := by unfold RL; exact ⟨hg.1 g cs hh,by unfold RL; trivial⟩
    have h2 : RL C.iso 0 w [.pv cs] [.pointer (some ⟨g,0,none⟩)] := RL.closed (fun c hc => by rwa [C.iso_own] at hc) _ _ (hgl g cs hh) h1
    unfold RL at h2; exact h2.1
   obtain ⟨gn,hc⟩ := dg.fn f C.iso w ⟨.e,0⟩ args vs v₁ J₁ hs.iso hGl (RL.closed (fun c hc => by rwa [C.iso_own] at hc) _ _ hcl bg) c6
   refine ⟨gn,hc.mono fun e w' he => ?_⟩
   cases e with
   | returned x =>
    obtain ⟨C₁,h1,h2,h3⟩ := he;have hz := Aa5 J₁ N v₁ u bl
    have hst : Hl J₁ ⟨.e,nx J₁⟩ := ⟨nl,fun a O h => by cases h⟩
    have k1 := h1.frz hst;have k2 := ((h2.base nl).trans (fg_ C₁ ⟨.e,nx J₁⟩ _ w')).top (ca_ (nx (⟨.e,nx J₁⟩ : Sto)));have k3 := hz.R h1 h3;obtain ⟨C₂,m1,m2,m3⟩ := Agz hs k1 rfl rfl k2 k3 et_ rfl
    exact ⟨C₂,m1,m2,by rwa [M6 _ hv] at m3⟩
   | panicked _ => exact he.elim
   | outgrown => exact he.elim
  ·cases bl
 ·cases h
def xDb : AV := (.agg [(.sv [(.str [115,101,116,118,97,114]),(.str [119,102,102]),(.str [124,45]),(.str [61]),(.str [65,46]),(.str [40]),(.str [45,62]),(.str [41])] 1 8 (some 8)),(.sv [(.str [120]),
 (.str [121]),(.str [112,104])] 1 3 (some 3)),(.sv [(.str [119,101,113]),(.bool false),(.sv [(.str [118,120]),(.bool true),(.sv [(.str [115,101,116,118,97,114]),(.str [120])] 1 2 (some 
 2)),(.str [118,121]),(.bool true),(.sv [(.str [115,101,116,118,97,114]),(.str [121])] 1 2 (some 2))] 3 2 (some 2)),(.nil (.slice none 0 0)),(.sv [(.str [119,102,102]),(.str [120]),
 (.str [61]),(.str [121])] 1 4 (some 4)),(.sv [(.str [119,112,104]),(.bool true),(.sv [(.str [119,102,102]),(.str [112,104])] 1 2 (some 2))] 3 1 (some 1)),(.nil (.slice none 0 0)),(.nil 
 (.slice none 0 0)),(.str [119,97,108]),(.bool false),(.sv [(.str [118,120]),(.bool true),(.sv [(.str [115,101,116,118,97,114]),(.str [120])] 1 2 (some 2)),(.str [119,112,104]),(.bool 
 true),(.sv [(.str [119,102,102]),(.str [112,104])] 1 2 (some 2))] 3 2 (some 2)),(.nil (.slice none 0 0)),(.sv [(.str [119,102,102]),(.str [65,46]),(.str [120]),(.str [112,104])] 1 4 
 (some 4)),(.sv [(.str [118,121]),(.bool true),(.sv [(.str [115,101,116,118,97,114]),(.str [121])] 1 2 (some 2))] 3 1 (some 1)),(.nil (.slice none 0 0)),(.nil (.slice none 0 0)),(.str 
 [119,105]),(.bool false),(.sv [(.str [119,112,104]),(.bool true),(.sv [(.str [119,102,102]),(.str [112,104])] 1 2 (some 2))] 3 1 (some 1)),(.nil (.slice none 0 0)),(.sv [(.str [119,102,
 102]),(.str [40]),(.str [45,62]),(.str [112,104]),(.str [41])] 1 5 (some 5)),(.sv [(.str [118,120]),(.bool true),(.sv [(.str [115,101,116,118,97,114]),(.str [120])] 1 2 (some 2)),
 (.str [118,121]),(.bool true),(.sv [(.str [115,101,116,118,97,114]),(.str [121])] 1 2 (some 2))] 3 2 (some 2)),(.nil (.slice none 0 0)),(.nil (.slice none 0 0)),(.str [97,108,108]),
 (.bool false),(.sv [(.str [118,120]),(.bool true),(.sv [(.str [115,101,116,118,97,114]),(.str [120])] 1 2 (some 2))] 3 1 (some 1)),(.nil (.slice none 0 0)),(.sv [(.str [124,45]),(.str 
 [65,46]),(.str [120]),(.str [120]),(.str [61]),(.str [120])] 1 6 (some 6)),(.sv [(.str [118,121]),(.bool true),(.sv [(.str [115,101,116,118,97,114]),(.str [121])] 1 2 (some 2)),(.str 
 [119,112,104]),(.bool true),(.sv [(.str [119,102,102]),(.str [112,104])] 1 2 (some 2))] 3 2 (some 2)),(.nil (.slice none 0 0)),(.nil (.slice none 0 0)),(.str [111,110,101]),(.bool 
 false),(.sv [(.str [118,120]),(.bool true),(.sv [(.str [115,101,116,118,97,114]),(.str [120])] 1 2 (some 2)),(.str [118,121]),(.bool true),(.sv [(.str [115,101,116,118,97,114]),
 (.str [121])] 1 2 (some 2))] 3 2 (some 2)),(.nil (.slice none 0 0)),(.sv [(.str [124,45]),(.str [120]),(.str [61]),(.str [121])] 1 4 (some 4)),(.sv [(.str [119,112,104]),(.bool true),(.sv 
 [(.str [119,102,102]),(.str [112,104])] 1 2 (some 2))] 3 1 (some 1)),(.nil (.slice none 0 0)),(.nil (.slice none 0 0)),(.str [103,101,110]),(.bool false),(.sv [(.str [118,120]),(.bool 
 true),(.sv [(.str [115,101,116,118,97,114]),(.str [120])] 1 2 (some 2)),(.str [119,112,104]),(.bool true),(.sv [(.str [119,102,102]),(.str [112,104])] 1 2 (some 2)),(.str [103,101,
 110,46,49]),(.bool false),(.sv [(.str [124,45]),(.str [112,104])] 1 2 (some 2))] 3 3 (some 3)),(.sv [(.str [112,104]),(.str [120])] 2 1 (some 1)),(.sv [(.str [124,45]),(.str [65,46]),
 (.str [120]),(.str [112,104])] 1 4 (some 4)),(.sv [(.str [118,121]),(.bool true),(.sv [(.str [115,101,116,118,97,114]),(.str [121])] 1 2 (some 2))] 3 1 (some 1)),(.sv [(.str [112,104]),
 (.str [120])] 2 1 (some 1)),(.nil (.slice none 0 0))] 8 6 (some 6))])
def xSt : AV := (.agg [(.int .i64 2),(.sv [(.str [115,101,116,118,97,114]),(.int .i64 1),(.str [119,102,102]),(.int .i64 3)] 2 2 (some 2)),(.sv [(.str [119,101,113]),(.int .i64 (-1)),(.sv [(.int .i64 
 1),(.int .i64 0),(.int .i64 0),(.int .i64 1)] 1 4 (some 4)),(.str [119,97,108]),(.int .i64 0),(.sv [(.int .i64 0),(.int .i64 0),(.int .i64 0),(.int .i64 1)] 1 4 (some 4)),(.str [119,
 105]),(.int .i64 (-1)),(.sv [(.int .i64 0),(.int .i64 1)] 1 2 (some 2))] 3 3 (some 3))])
def xGs : AV := (.sv [(.str [115,101,116,118,97,114]),(.str [119,102,102])] 1 2 none)
def xGR : AV := (.sv [(.str [118,120]),(.str [115,101,116,118,97,114]),(.sv [(.str [120]),(.str []),(.int .i64 0)] 3 1 none),(.bool true),(.str [118,121]),(.str [115,101,116,118,97,114]),(.sv 
 [(.str [121]),(.str []),(.int .i64 0)] 3 1 none),(.bool true),(.str [119,112,104]),(.str [119,102,102]),(.sv [(.str [112,104]),(.str []),(.int .i64 0)] 3 1 none),(.bool true),(.str 
 [119,101,113]),(.str [119,102,102]),(.sv [(.str []),(.str [115,101,116,118,97,114]),(.int .i64 0),(.str [61]),(.str []),(.int .i64 0),(.str []),(.str [115,101,116,118,97,114]),
 (.int .i64 1)] 3 3 none),(.bool false),(.str [119,97,108]),(.str [119,102,102]),(.sv [(.str [65,46]),(.str []),(.int .i64 0),(.str []),(.str [115,101,116,118,97,114]),(.int .i64 0),
 (.str []),(.str [119,102,102]),(.int .i64 1)] 3 3 none),(.bool false),(.str [119,105]),(.str [119,102,102]),(.sv [(.str [40]),(.str []),(.int .i64 0),(.str [45,62]),(.str []),(.int 
 .i64 0),(.str []),(.str [119,102,102]),(.int .i64 0),(.str [41]),(.str []),(.int .i64 0)] 3 4 none),(.bool false)] 4 6 none)
def xGr : AV := .agg [xGs,xGR]
theorem Ah9 {d : Db} (h : Aag d 15 60 = true) : DbB d /\ d.vars.length + d.frames.length < 1000000 := by
 unfold Aag at h;simp only [ae_,decide_eq_true_eq,aj_,bl_] at h;obtain ⟨⟨⟨h1,h2⟩,h3⟩,h4⟩ := h
 refine ⟨⟨fun f hf => ?_,by omega,by omega,by omega⟩,by omega⟩
 have hf := dq_.1 h4 f hf;simp only [bigF,bh_,decide_eq_true_eq,aj_,ev_,not_or,not_exists,not_and] at hf;obtain ⟨⟨⟨⟨⟨⟨⟨⟨k1,k2⟩,k3⟩,k4⟩,k5⟩,k6⟩,k7⟩,k8⟩,k9⟩ := hf
 refine ⟨by omega,by unfold Fr.all; simp; omega,by omega,fun h hh => ?_,by omega,by omega⟩
 have : Aaf h = false := by
  rcases bq_.1 (show h ∈ f.hyps ++ f.dummies by simpa [Fr.all] using hh) with hh | hh
  ·have := k7 h hh; simpa using this
  ·have := k8 h hh; simpa using this
 unfold Aaf at this;simp only [decide_eq_false_iff_not,aj_] at this;omega
def dA : Db := ⟨[[115,101,116,118,97,114],[119,102,102],[124,45],[61],[65,46],[40],[45,62],[41]],[[120],[121],[112,104]],[⟨[119,101,113],false,[⟨[118,120],true,[[115,101,116,118,97,114],[120]]⟩,⟨[118,121],true,[[115,101,116,118,97,114],[121]]⟩],[],[[119,102,102],[120],[61],[121]],[⟨[119,112,104],true,[[119,102,102],[112,104]]⟩],[],[]⟩,
 ⟨[119,97,108],false,[⟨[118,120],true,[[115,101,116,118,97,114],[120]]⟩,⟨[119,112,104],true,[[119,102,102],[112,104]]⟩],[],[[119,102,102],[65,46],[120],[112,104]],[⟨[118,121],true,[[115,101,116,118,97,114],[121]]⟩],[],[]⟩,
 ⟨[119,105],false,[⟨[119,112,104],true,[[119,102,102],[112,104]]⟩],[],[[119,102,102],[40],[45,62],[112,104],[41]],[⟨[118,120],true,[[115,101,116,118,97,114],[120]]⟩,⟨[118,121],true,[[115,101,116,118,97,114],[121]]⟩],[],[]⟩,
 ⟨[97,108,108],false,[⟨[118,120],true,[[115,101,116,118,97,114],[120]]⟩],[],[[124,45],[65,46],[120],[120],[61],[120]],[⟨[118,121],true,[[115,101,116,118,97,114],[121]]⟩,⟨[119,112,104],true,[[119,102,102],[112,104]]⟩],[],[]⟩,
 ⟨[111,110,101],false,[⟨[118,120],true,[[115,101,116,118,97,114],[120]]⟩,⟨[118,121],true,[[115,101,116,118,97,114],[121]]⟩],[],[[124,45],[120],[61],[121]],[⟨[119,112,104],true,[[119,102,102],[112,104]]⟩],[],[]⟩,
 ⟨[103,101,110],false,[⟨[118,120],true,[[115,101,116,118,97,114],[120]]⟩,⟨[119,112,104],true,[[119,102,102],[112,104]]⟩,⟨[103,101,110,46,49],false,[[124,45],[112,104]]⟩],[⟨[112,104],[120]⟩],[[124,45],[65,46],[120],[112,104]],[⟨[118,121],true,[[115,101,116,118,97,114],[121]]⟩],[⟨[112,104],[120]⟩],[]⟩]⟩
def rsA : List Rl := [⟨[118,120],[115,101,116,118,97,114],[⟨[120],[],0⟩],true⟩,
 ⟨[118,121],[115,101,116,118,97,114],[⟨[121],[],0⟩],true⟩,
 ⟨[119,112,104],[119,102,102],[⟨[112,104],[],0⟩],true⟩,
 ⟨[119,101,113],[119,102,102],[⟨[],[115,101,116,118,97,114],0⟩,⟨[61],[],0⟩,⟨[],[115,101,116,118,97,114],1⟩],false⟩,
 ⟨[119,97,108],[119,102,102],[⟨[65,46],[],0⟩,⟨[],[115,101,116,118,97,114],0⟩,⟨[],[119,102,102],1⟩],false⟩,
 ⟨[119,105],[119,102,102],[⟨[40],[],0⟩,⟨[45,62],[],0⟩,⟨[],[119,102,102],0⟩,⟨[41],[],0⟩],false⟩]
def gA : Gr := ⟨[[115,101,116,118,97,114],[119,102,102]],rsA⟩
theorem Aqh {l : List Int} (h : l.Pairwise fun x y => decide (x <= y) = true) : Ds l = l := List.mergeSort_of_pairwise h
theorem vA : ∀ r ∈ rsA,Gj gA r = true := by
 intro r hr
 have hp : (Dg r).Pairwise fun x y => decide (x <= y) = true := by revert r; decide +kernel
 unfold Gj;rw [Aqh hp];clear hp
 revert r
 decide +kernel
theorem Aia {g : Gr} : ∀ {l : List Rl} {m : SM Bool},(∀ r ∈ l,Gj g r = true) -> (l.foldr (fun r (k : SM Bool -> Bool) m => !m.has r.label && k (m.put r.label true)) (fun _ => true)) m = true -> N7 g l m = false
 | [],_,_,_ => rfl
 | r :: l,m,h,h2 => by
  simp only [List.foldr_cons,ae_,bl_] at h2;unfold N7
  rw [h r (by simp),h2.1,Aia (fun x hx => h x (am_ _ hx)) h2.2]; rfl
theorem chkA : Gk gA = 0 := by
 unfold Gk
 rw [if_neg (by decide +kernel),if_neg (by decide +kernel),show N7 gA gA.rules [] = false from Aia vA (by decide +kernel)]; rfl
theorem Ar3 : Dv dA = 0 := Kr
theorem varsA : N8 (Hq (Bf dA) []) dA.vars zG = some ⟨[[115,101,116,118,97,114],[119,102,102]],rsA.take 3⟩ := Kr
theorem Ar4 : Ge dA.frames ⟨[[115,101,116,118,97,114],[119,102,102]],rsA.take 3⟩ = some gA := Kr
theorem ofA : ofF dA = (gA,0) := by
 unfold ofF
 rw [if_neg (by rw [Ar3]; decide),varsA]
 simp only;rw [Ar4];simp only
 rw [if_neg (by rw [chkA]; decide)]
theorem Atr : Aag dA 15 60 = true := Kr
theorem grbA : GrB gA := ⟨by decide,by decide,by decide⟩
theorem dbA : DbB dA /\ dA.vars.length + dA.frames.length < 1000000 := Ah9 Atr
def s45 (args : List AV) (J : Sto) : Res := match fzL (wkA 12) args [dbV dA] with | true => some (.tup [grV gA,iV 0],J) | false => none
theorem f45s : A7 Ew 45 s45 := ec_ fun τ => by have := f45 dA τ dbA.1 dbA.2; rw [ofA] at this; exact this
def s63 (args : List AV) (J : Sto) : Res := match fzL (wkA 12) args [grV gA] with | true => some (iV 0,J) | false => none
theorem f63s : A7 Ew 63 s63 := ec_ fun τ => by have := f63 gA τ grbA; rw [chkA] at this; exact this
def sumB (f : Nat) : Option (List AV -> Sto -> Res) := match Nat.beq f 45 with
 | true => some s45
 | false => match Nat.beq f 63 with
  | true => some s63
  | false => none
def rgA (f : Nat) : Bool := Nat.beq f 31 || Nat.beq f 74 || Nat.beq f 82 || Nat.beq f 91 || Nat.beq f 96 || Nat.beq f 100 || Nat.beq f 125 || Nat.beq f 128 || Nat.beq f 161
noncomputable def EB : Env := { P := Tryz.prog,gl := glW,sum := sumB,dsum := fun _ => none,byref := fun _ => false,rg := rgA }
theorem recB (lf n : Nat) : Ao EB (Dy EB lf n) :=
 Ft (E := EB) (show Tryz.prog.follows .mixedOrders = true from Cu) (fun l Rr h => Il Cu h) (fun f fn h => L7 f fn h) (fun f s h => by
  have h : sumB f = some s := h;unfold sumB at h
  split at h
  ·rename_i hb
   cases h;have := aa_ hb;subst this;exact f45s.env rfl rfl rfl rfl
  ·skip
   split at h
   ·rename_i hb
    cases h;have := aa_ hb;subst this;exact f63s.env rfl rfl rfl rfl
   ·skip
    cases h
  ) rfl (fun f d h => by cases h) lf n
end Go.AM
namespace Go.Proofs
open Go.Shelf
def Tryz.lays264_ren : Go.Shelf.Ren := ⟨fun | 264 => 57 | n => n,fun | 46 => 110 | 53 => 142 | n => n,fun | n => n⟩
theorem Tryz.lays264 : Go.Proofs.Lays.n264 Tryz.prog Tryz.lays264_ren := {
 mixed := Go.AM.Kr
 f264 := Tryz.func57.trans (congrArg some Go.AM.Kr)
 t46 := Tryz.underlying110
 a46 := Tryz.isAgg110
 z46 := Tryz.sizeOf110
 v46 := Tryz.zeroValue110
 t53 := Tryz.underlying142
 a53 := Tryz.isAgg142
 z53 := Tryz.sizeOf142
 v53 := Tryz.zeroValue142 }
theorem Tryz.bits_Mul64 (x y : Nat) (hx : x < 18446744073709551616) (hy : y < 18446744073709551616) (w : World) :
  Calls Tryz.prog 57 #[.int .u64 x,.int .u64 y] w fun e w' => e = .returned (.tuple #[.int .u64 ((x * y / 18446744073709551616 : Nat) : Int),.int .u64 ((x * y % 18446744073709551616 : Nat) : Int)]) /\ w' = w := Any.bits_Mul64 Tryz.lays264 x y hx hy w
end Go.Proofs
namespace Go.AM
open Go Go.Proofs
theorem f57 (n : Nat) (hn : n <= 3) (J : Sto) : Cv 57 [.int .u64 1,.int .u64 (.ofNat n)] J (.tup [.int .u64 0,.int .u64 (.ofNat n)]) := by
 refine Sr ⟨_,Tryz.func57,rfl,rfl⟩ fun C w vs ha => ?_
 obtain ⟨x,y,rfl,hx,hy⟩ := Ajq ha;unfold R at hx hy;subst hx hy
 have h := Tryz.bits_Mul64 1 n (by decide) Om w
 rw [show 1 * n / 18446744073709551616 = 0 by omega,show 1 * n % 18446744073709551616 = n by omega] at h
 refine ⟨_,h,?_⟩;unfold R;refine ⟨_,rfl,?_⟩
 show RL C (nx J) w _ [_,_]
 unfold RL
 refine ⟨by unfold R; rfl,?_⟩
 unfold RL
 exact ⟨by unfold R; rfl,by unfold RL; trivial⟩
def s57 (args : List AV) (J : Sto) : Res := match fzL (wkA 12) args [.int .u64 1,.int .u64 (.ofNat 1)] with
 | true => some (.tup [.int .u64 0,.int .u64 (.ofNat 1)],J)
 | false => match fzL (wkA 12) args [.int .u64 1,.int .u64 (.ofNat 2)] with
  | true => some (.tup [.int .u64 0,.int .u64 (.ofNat 2)],J)
  | false => match fzL (wkA 12) args [.int .u64 1,.int .u64 (.ofNat 3)] with
   | true => some (.tup [.int .u64 0,.int .u64 (.ofNat 3)],J)
   | false => none
theorem m57 : A7 Ew 57 s57 := fun C w J args vs v J' hs hg ha h => by
 unfold s57 at h
 split at h
 ·rename_i h1
  exact (ec_ fun τ => f57 1 (by decide) τ) C w J args vs v J' hs hg ha (by dsimp only; rw [h1]; exact h)
 ·split at h
  ·rename_i h1
   exact (ec_ fun τ => f57 2 (by decide) τ) C w J args vs v J' hs hg ha (by dsimp only; rw [h1]; exact h)
  ·split at h
   ·rename_i h1
    exact (ec_ fun τ => f57 3 (by decide) τ) C w J args vs v J' hs hg ha (by dsimp only; rw [h1]; exact h)
   ·cases h
def sumM (f : Nat) : Option (List AV -> Sto -> Res) := match Nat.beq f 57 with
 | true => some s57
 | false => none
noncomputable def EM : Env := { P := Tryz.prog,gl := glW,sum := sumM,dsum := fun _ => none,byref := fun _ => false }
theorem recM (lf n : Nat) : Ao EM (Dy EM lf n) :=
 Ft (E := EM) (show Tryz.prog.follows .mixedOrders = true from Cu) (fun l Rr h => Il Cu h) (fun f fn h => L7 f fn h) (fun f s h => by
  have h : sumM f = some s := h;unfold sumM at h
  split at h
  ·rename_i hb
   cases h;have := aa_ hb;subst this;exact m57.env rfl rfl rfl rfl
  ·cases h) rfl (fun f d h => by cases h) lf n
theorem Ats (x : Int) : Sg [0] (Dy EM 1000 100 (.fn 13) [.sv [.int .i64 x] 1 1 (some 1),.int .i64 1] ⟨.e,0⟩) = some (.sr 0 0 1 1 (some 1),[.cells [.int .i64 x]]) := Kr
theorem Att (x : Int) : Sg [0] (Dy EM 1000 100 (.fn 13) [.sv [.int .i64 x] 1 1 (some 1),.int .i64 2] ⟨.e,0⟩) = some (.sr 0 0 1 2 (some 2),[.cells [.int .i64 x,.int .i64 x]]) := Kr
theorem Atu (x : Int) : Sg [0] (Dy EM 1000 100 (.fn 13) [.sv [.int .i64 x] 1 1 (some 1),.int .i64 3] ⟨.e,0⟩) = some (.sr 0 0 1 3 (some 3),[.cells [.int .i64 x,.int .i64 x,.int .i64 x]]) := Kr
theorem Aj1 (x n : Int) : AV.beqs [.sv [.int .i64 x] 1 1 (some 1),.int .i64 n] [.sv [.int .i64 x] 1 1 (some 1),.int .i64 n] = true := by
 have e : ∀ k : Int,Ot k k = true := fun k => by cases k <;> simp [Ot]
 simp [AV.beqs,AV.beq,e]; decide
theorem f13 (x : Int) (n : Nat) (h1 : 1 <= n) (h3 : n <= 3) (J : Sto) : Aq Ew 13 [.sv [iV x] 1 1 (some 1),iV (.ofNat n)] J fun v J' => v = .sr (nx J) 0 1 n (some n) /\ J' = J.new (.cells ((List.replicate n x).flatMap eI)) := by
 have : n = 1 ∨ n = 2 ∨ n = 3 := by omega
 rcases this with rfl | rfl | rfl
 ·refine fh_ (E := Ew) (g := Fx _ _ _) ((Gd (recM 1000 100) (fun g cs h => Do g cs h) rfl rfl (by decide) (Ats x)).env rfl rfl rfl rfl) ?_
  unfold Fx; rw [show AV.beqs [AV.sv [iV x] 1 1 (some 1),iV (Int.ofNat 1)] [AV.sv [AV.int IntKind.i64 x] 1 1 (some 1),AV.int IntKind.i64 1] = true from Aj1 x 1]
  have e3 : AV.ren (List.range 1) (nx J) (.sr 0 0 1 1 (some 1)) = .sr (nx J) 0 1 1 (some 1) := by simp [AV.ren,List.range,List.range.loop,Pm,Ag]
  show some (AV.ren (List.range 1) (nx J) (.sr 0 0 1 1 (some 1)),Ff [.cells [AV.int IntKind.i64 x]] J) = _
  rw [e3]; rfl
 ·refine fh_ (E := Ew) (g := Fx _ _ _) ((Gd (recM 1000 100) (fun g cs h => Do g cs h) rfl rfl (by decide) (Att x)).env rfl rfl rfl rfl) ?_
  unfold Fx; rw [show AV.beqs [AV.sv [iV x] 1 1 (some 1),iV (Int.ofNat 2)] [AV.sv [AV.int IntKind.i64 x] 1 1 (some 1),AV.int IntKind.i64 2] = true from Aj1 x 2]
  have e3 : AV.ren (List.range 1) (nx J) (.sr 0 0 1 2 (some 2)) = .sr (nx J) 0 1 2 (some 2) := by simp [AV.ren,List.range,List.range.loop,Pm,Ag]
  show some (AV.ren (List.range 1) (nx J) (.sr 0 0 1 2 (some 2)),Ff [.cells [AV.int IntKind.i64 x,AV.int IntKind.i64 x]] J) = _
  rw [e3]; rfl
 ·refine fh_ (E := Ew) (g := Fx _ _ _) ((Gd (recM 1000 100) (fun g cs h => Do g cs h) rfl rfl (by decide) (Atu x)).env rfl rfl rfl rfl) ?_
  unfold Fx; rw [show AV.beqs [AV.sv [iV x] 1 1 (some 1),iV (Int.ofNat 3)] [AV.sv [AV.int IntKind.i64 x] 1 1 (some 1),AV.int IntKind.i64 3] = true from Aj1 x 3]
  have e3 : AV.ren (List.range 1) (nx J) (.sr 0 0 1 3 (some 3)) = .sr (nx J) 0 1 3 (some 3) := by simp [AV.ren,List.range,List.range.loop,Pm,Ag]
  show some (AV.ren (List.range 1) (nx J) (.sr 0 0 1 3 (some 3)),Ff [.cells [AV.int IntKind.i64 x,AV.int IntKind.i64 x,AV.int IntKind.i64 x]] J) = _
  rw [e3]; rfl
end Go.AM
