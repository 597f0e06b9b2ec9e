/- A part of the proof; shortened by program. -/
import Derived.Test.YtadnlmhnjfmleaaGreatDoorP22
set_option maxRecDepth 100000
set_option maxHeartbeats 4000000
set_option linter.unusedSimpArgs false
set_option linter.unusedVariables false
namespace Go.AM
open Go Go.Proofs
theorem Atm (t : As) : Be 1 false (eT t) = some (sV (Da t)) := by cases t; rw [Jr]; rfl
def Ab1 (g : Gr) (t : As) : Str := (Bm g.rules t).getD []
def Aar (g : Gr) (t : As) (c : Int) : Int := if (Bm g.rules t).isSome = true then 0 else c
theorem Arv {g : Gr} {t : As} (h : (Bm g.rules t).isSome = true) : (Gx g.rules (Da t)).sort = Ab1 g t := by
 have := Asq (g := g.rules) (k := t) (q := Ab1 g t);obtain ⟨q,hq⟩ := bp_.1 h
 have he : Ab1 g t = q := by unfold Ab1; rw [hq]; rfl
 rw [he,hq] at this
 simp at this
 rw [he]; exact this.2
theorem Ado {g : Gr} {t : As} (h : (Bm g.rules t).isSome = false) : Ab1 g t = [] := by
 unfold Ab1;cases hh : Bm g.rules t with
 | none => rfl
 | some q => rw [hh] at h; cases h
theorem f84 (g : Gr) (t : As) (J : Sto) (hG : GOk g) (hB : GrB g) (hc : Gk g = 0) (hb : Ch t <= 4000) (hh : hT t <= 100) : Cv 84 [grV g,Bp t] J (.tup [sV (Ab1 g t),iV (Aar g t 2)]) := by
 refine Ak Tryz.func84 rfl rfl fun hw hu0 => ?_
 refine G11 ?_;refine Bu rfl rfl rfl rfl (f114 g t _ hG hB hc hb hh) ?_;rintro _ τ ⟨p,rfl,bh,hq⟩;refine G12 ?_;refine Ab rfl ?_ ?_ <;> intro h1
 ·have hF : (Bm g.rules t).isSome = false := by
   cases hh : (Bm g.rules t).isSome with
   | false => rfl
   | true => rw [hh] at h1; exact absurd h1 (by simp)
  refine G7 ?_
  exact ⟨_,rfl,_,J,as_ hw bh,nl,.same rfl,by rw [Ado hF]; unfold Aar; rw [hF]; rfl,rfl⟩
 ·have hF : (Bm g.rules t).isSome = true := by
   cases hh : (Bm g.rules t).isSome with
   | true => rfl
   | false => rw [hh] at h1; exact absurd h1 (by simp)
  obtain ⟨q,rfl,hm⟩ := hq hF;refine G5 ?_;refine O1 (Ah (v := sV (Da t)) ldC rfl rfl (Atm t)) (Af rfl rfl rfl rfl (f115 g q (Da t) _ hG hm) ?_)
  iterate 14 refine G ?_
  exact ⟨_,rfl,_,J,as_ hw bh,nl,.same rfl,by rw [Arv hF]; unfold Aar; rw [hF]; rfl,rfl⟩
theorem f66 (g : Gr) (t : As) (J : Sto) (hG : GOk g) (hB : GrB g) (hc : Gk g = 0) (hb : Ch t <= 4000) (hh : hT t <= 100) : Cv 66 [grV g,Bp t] J (.tup [sV (Ab1 g t),iV (Aar g t 192)]) := by
 refine Ak Tryz.func66 rfl rfl fun hw hu0 => ?_
 refine G11 ?_;refine Af rfl rfl rfl rfl (f83 t _ hb hh) ?_;refine G7 ?_;refine Ab rfl ?_ ?_ <;> intro h1
 ·exact absurd h1 (by simp)
 ·skip
  refine G5 ?_;refine Af rfl rfl rfl rfl (f84 g t _ hG hB hc hb hh) ?_;refine G12 ?_;refine Ab rfl ?_ ?_ <;> intro h2
  ·have hF : (Bm g.rules t).isSome = false := by
    cases hh : (Bm g.rules t).isSome with
    | false => rfl
    | true => unfold Aar at h2; rw [hh] at h2; exact absurd h2 (by simp)
   refine G6 ?_;refine A2 hw rfl ?_;rw [Ado hF]; unfold Aar; rw [hF]; rfl
  ·have hF : (Bm g.rules t).isSome = true := by
    cases hh : (Bm g.rules t).isSome with
    | true => rfl
    | false => unfold Aar at h2; rw [hh] at h2; exact absurd h2 (by simp)
   refine G8 ?_;refine A2 hw rfl ?_;unfold Aar; rw [hF]; rfl
def P3 (d : Db) (t : As) : Int := if (ofF d).2 = 0 then Aar (ofF d).1 t 192 else (ofF d).2
def chkS (d : Db) (t : As) : Str := if (ofF d).2 = 0 then Ab1 (ofF d).1 t else []
theorem Ap1 {d : Db} : Gk (ofF d).1 = 0 := by
 rcases Ahw (d := d) with h | h
 ·rw [h]; decide
 ·exact h
theorem Ap2 (d : Db) : GrB (ofF d).1 := by
 have hG := Adn d;have hl := hG.len
 refine ⟨?_,by omega,fun r hr => by have := hG.prt r hr; omega⟩
 have h := Ap1 (d := d);unfold Gk at h
 split at h
 ·cases h
 ·rename_i h0
  simp only [bh_,decide_eq_true_eq,not_or,aj_] at h0;have := h0.1.1; omega
theorem Ahy {N : Nat} (g : Gr) (s : Str) (c : Int) : AV.und N (Tk [.agg [Aj g.sorts,slV eR 4 g.rules],sV s,iV c]) = true := by
 show ((AV.und N (Aj g.sorts) && (AV.und N (slV eR 4 g.rules) && true)) && (true && (true && true))) = true
 rw [show AV.und N (Aj g.sorts) = true from Cw Lf _,Cw Lg]; rfl
theorem f49 (d : Db) (t : As) (J : Sto) (hD : DbB d) (hvf : d.vars.length + d.frames.length < 1000000) (hb : Ch t <= 4000) (hh : hT t <= 100) : Cv 49 [dbV d,Bp t] J (.tup [grV (ofF d).1,sV (chkS d t),iV (P3 d t)]) := by
 refine Ak Tryz.func49 rfl rfl fun hw hu0 => ?_
 refine G4 ?_;refine O1 (B6 ziC) ?_;refine G6 ?_;refine Af rfl rfl rfl rfl (f45 d _ hD hvf) ?_;refine G12 ?_;refine Ab rfl ?_ ?_ <;> intro h1
 ·have h0 : ¬ (ofF d).2 = 0 := by simpa using h1
  refine G4 ?_
  refine O1 (F3 (a := nx J) (off := 0) (cs := [.nil (.slice none 0 0),.nil (.slice none 0 0)]) (cs' := [Aj (ofF d).1.sorts,slV eR 4 (ofF d).1.rules]) (by rw [ab_,if_pos rfl]) ldC rfl rfl rfl rfl) ?_
  refine G4 ?_
  exact ⟨[.agg [Aj (ofF d).1.sorts,slV eR 4 (ofF d).1.rules],sV [],iV (ofF d).2],Cy (ldC (t := 124)) rfl (by simp only [Sto.cells]; rw [a_,if_pos rfl]) rfl (En rfl (En rfl rfl)),_,J,as_ hw ⟨by rw [Ae,Ac]; omega,fun b hb => by rw [a_,if_neg Om,ab_,if_neg Om]⟩,nl,.same (Ahy _ _ _),by unfold chkS P3; rw [if_neg h0,if_neg h0]; rfl,rfl⟩
 ·have h0 : (ofF d).2 = 0 := by simpa using h1
  refine G5 ?_;refine Af rfl rfl rfl rfl (f66 (ofF d).1 t _ (Adn d) (Ap2 d) Ap1 hb hh) ?_;refine G11 ?_
  refine O1 (F3 (a := nx J) (off := 0) (cs := [.nil (.slice none 0 0),.nil (.slice none 0 0)]) (cs' := [Aj (ofF d).1.sorts,slV eR 4 (ofF d).1.rules]) (by rw [ab_,if_pos rfl]) ldC rfl rfl rfl rfl) ?_
  refine G4 ?_
  exact ⟨[.agg [Aj (ofF d).1.sorts,slV eR 4 (ofF d).1.rules],sV (Ab1 (ofF d).1 t),iV (Aar (ofF d).1 t 192)],Cy (ldC (t := 124)) rfl (by simp only [Sto.cells]; rw [a_,if_pos rfl]) rfl (En rfl (En rfl rfl)),_,J,as_ hw ⟨by rw [Ae,Ac]; omega,fun b hb => by rw [a_,if_neg Om,ab_,if_neg Om]⟩,nl,.same (Ahy _ _ _),by unfold chkS P3; rw [if_pos h0,if_pos h0]; rfl,rfl⟩
structure So where
 code : Str
 kind : Int
structure Sy where
 label : Str
 binds : Int
 vals : List Int
structure Stc where
 size : Int
 sorts : List So
 syms : List Sy
structure Mg where
 var : Str
 obj : Int
 vals : List Int
def zMg : Mg := ⟨[],0,[]⟩
def kd (km : SM Int) (s : Str) : Int := (km.get s).getD 0
def Ct (n k : Int) : Int := if k = 3 then 2 else n
theorem P4 {n k : Int} (h : 1 <= n) : 1 <= Ct n k := by unfold Ct; split <;> omega
theorem Afm {n k : Int} (h : n <= 3) : Ct n k <= 3 := by unfold Ct; split <;> omega
def Az (r : Rl) : List Str := r.parts.foldl (fun l p => if p.sort = [] then l else l.set p.arg.toNat p.sort) (List.replicate (Kw r) [])
theorem Kx : ∀ (ps : List Pt) (l : List Str),(ps.foldl (fun l p => if p.sort = [] then l else l.set p.arg.toNat p.sort) l).length = l.length
 | [],l => rfl
 | p :: ps,l => by
  rw [dk_,Kx ps]
  split
  ·rfl
  ·rw [dh_]
theorem Ip (r : Rl) : (Az r).length = Kw r := by unfold Az; rw [Kx,cg_]
theorem Aas {j : Nat} {q : Str} : ∀ (ps : List Pt) (l : List Str),(∀ p ∈ ps,p.sort ≠ [] -> p.arg.toNat = j -> p.sort = q) -> j < l.length -> (l[j]? = some q ∨ ∃ p ∈ ps,p.sort ≠ [] /\ p.arg.toNat = j) ->
  (ps.foldl (fun l p => if p.sort = [] then l else l.set p.arg.toNat p.sort) l)[j]? = some q
 | [],l,_,hj,h => by
  rcases h with h | ⟨p,hp,_⟩
  ·exact h
  ·cases hp
 | p :: ps,l,hq,hj,h => by
  rw [dk_]
  refine Aas ps _ (fun p' hp' => hq p' (by simp [hp'])) (by split; exact hj; rw [dh_]; exact hj) ?_
  by_cases hs : p.sort = []
  ·rw [if_pos hs]
   rcases h with h | ⟨p',hp',h1,h2⟩
   ·exact .inl h
   ·rcases ai_.1 hp' with rfl | hp'
    ·exact absurd hs h1
    ·exact .inr ⟨p',hp',h1,h2⟩
  ·rw [if_neg hs]
   by_cases ha : p.arg.toNat = j
   ·left
    rw [ha,List.getElem?_set_self hj,hq p (by simp) hs ha]
   ·rw [List.getElem?_set_ne ha]
    rcases h with h | ⟨p',hp',h1,h2⟩
    ·exact .inl h
    ·rcases ai_.1 hp' with rfl | hp'
     ·exact absurd h2 ha
     ·exact .inr ⟨p',hp',h1,h2⟩
theorem Gf {g : List Rl} (hg : Apm g) {s q : Str} {ks : List As} (h : Bm g (.node s ks) = some q) : ∃ r,Au g s = some r /\ r.sort = q /\ Kw r = ks.length /\ ∀ (j : Nat) (k : As),ks[j]? = some k -> ∃ a,(Az r)[j]? = some a /\ Bm g k = some a := by
 unfold Bm at h
 split at h
 ·rename_i r hr
  split at h
  ·rename_i hp
   simp only [ae_,decide_eq_true_eq] at hp
   refine ⟨r,hr,by simpa using h,hp.2,fun j k hk => ?_⟩
   have hlt := (ad_.1 hk).1;obtain ⟨p,h1,h2,h3⟩ := hg.cov r (Hf hr) j Om
   have bt : ∀ p ∈ r.parts,p.sort ≠ [] -> p.arg.toNat = j -> Bm g k = some p.sort := fun p hp1 hs ha => by
    have hps := br_.1 hp.1 p hp1;simp only [bh_,decide_eq_true_eq] at hps
    rcases hps with hps | hps
    ·exact absurd hps hs
    ·rw [ha,Vz,az_,hk] at hps
     simpa using hps
   have hpj : p.arg.toNat = j := by rw [h3]; rfl
   refine ⟨p.sort,?_,bt p h1 h2 hpj⟩;unfold Az
   refine Aas r.parts _ (fun p' hp' hs ha => ?_) (by rw [cg_]; omega) (.inr ⟨p,h1,h2,hpj⟩)
   have e1 := bt p' hp' hs ha;rw [bt p h1 h2 hpj] at e1;exact (ds_ e1).symm
  ·cases h
 ·cases h
def Fg (l : List (Int × Int)) (c : Int) : Int := l.foldl (fun c p => c * p.1 + p.2) c
def D9 (l : List (Int × Int)) : Int := l.foldl (fun c p => c * p.1) 1
theorem Aat : ∀ (l : List (Int × Int)) (c : Int),l.foldl (fun c p => c * p.1) c = c * D9 l
 | [],c => by simp [D9]
 | p :: l,c => by
  rw [dk_,Aat l,Int.mul_assoc]
  congr 1
  unfold D9;rw [dk_,Aat l (1 * p.1),Int.one_mul]; rfl
theorem Iq (p : Int × Int) (l : List (Int × Int)) : D9 (p :: l) = p.1 * D9 l := by
 show l.foldl _ (1 * p.1) = _
 rw [Aat,Int.one_mul]
theorem Q3 : ∀ (l m : List (Int × Int)),D9 (l ++ m) = D9 l * D9 m
 | [],m => by simp [D9]
 | p :: l,m => by rw [av_,Iq,Iq,Q3 l m,Int.mul_assoc]
theorem Ahz (l m : List (Int × Int)) (c : Int) : Fg (l ++ m) c = Fg m (Fg l c) := by unfold Fg; rw [dp_]
def Xc (l : List (Int × Int)) : Prop := ∀ p ∈ l,0 <= p.2 /\ p.2 < p.1
theorem Adp {l : List (Int × Int)} (h : Xc l) : 1 <= D9 l := by
 induction l with
 | nil => simp [D9]
 | cons p l ih =>
  rw [Iq]
  have h1 := h p (by simp)
  have h2 := ih fun q hq => h q (by simp [hq])
  have h3 : 1 * 1 <= p.1 * D9 l := Int.mul_le_mul Om h2 Om Om;omega
theorem Aau : ∀ {l : List (Int × Int)},Xc l -> ∀ c P : Int,0 <= c -> c < P -> 0 <= Fg l c /\ Fg l c < P * D9 l
 | [],_,c,P,h1,h2 => by simp [Fg,D9]; omega
 | p :: l,h,c,P,h1,h2 => by
  have hp := h p (by simp)
  have h3 : 0 <= c * p.1 := Int.mul_nonneg h1 Om;have h4 : (c + 1) * p.1 <= P * p.1 := Int.mul_le_mul_of_nonneg_right Om Om;rw [Int.add_mul,Int.one_mul] at h4;rw [Iq,← Int.mul_assoc]
  exact Aau (l := l) (fun q hq => h q (by simp [hq])) (c * p.1 + p.2) (P * p.1) Om Om
theorem Ah0 {l m : List (Int × Int)} (h : Xc (l ++ m)) : 0 <= Fg l 0 /\ Fg l 0 < D9 (l ++ m) := by
 have h1 : Xc l := fun p hp => h p (by simp [hp])
 have h2 := Adp (l := m) fun p hp => h p (by simp [hp])
 have h3 := Adp h1;obtain ⟨k1,k2⟩ := Aau h1 0 1 Om Om;rw [Int.one_mul] at k2;rw [Q3];have h4 : D9 l * 1 <= D9 l * D9 m := Int.mul_le_mul_of_nonneg_left h2 Om
 exact ⟨k1,by omega⟩
structure Wd where
 g : List Rl
 km : SM Int
 sm : SM Sy
 n : Int
structure Mn where
 of : Str -> Mg
 k : Nat
def Js (n : Int) (l : List Int) : Int := atF n l
def Lv (base : Int) (f : List Int -> Int) (at' : List Int) (obj m : Nat) : List (Int × Int) := (List.range m).map fun e => (base,f (at'.set obj (Int.ofNat e)))
theorem Wa {base : Int} {f : List Int -> Int} {at' : List Int} {obj m : Nat} : Lv base f at' obj (m + 1) = Lv base f at' obj m ++ [(base,f (at'.set obj (Int.ofNat m)))] := by unfold Lv; rw [List.range_succ,ci_]; rfl
def Sw (W : Wd) (b : Int) (obj : Nat) (at' : List Int) (i : Nat) (s : Str) (f : List Int -> Int) : List (Int × Int) :=
 if b < 0 then [(Ct W.n (kd W.km s),f at')] else if Int.ofNat i = b then [] else Lv (Ct W.n (kd W.km s)) f at' obj W.n.toNat
def A9 (W : Wd) (b : Int) (obj : Nat) (at' : List Int) : List Str -> List (List Int -> Int) -> Nat -> List (Int × Int)
 | s :: ss,f :: fs,i => Sw W b obj at' i s f ++ A9 W b obj at' ss fs (i + 1)
 | _,_,_ => []
theorem Q4 {W : Wd} {b : Int} {obj : Nat} {at' : List Int} : ∀ {ss : List Str} {fs : List (List Int -> Int)} {ss' : List Str} {fs' : List (List Int -> Int)} {i : Nat},ss.length = fs.length -> A9 W b obj at' (ss ++ ss') (fs ++ fs') i = A9 W b obj at' ss fs i ++ A9 W b obj at' ss' fs' (i + ss.length)
 | [],[],ss',fs',i,_ => by simp [A9]
 | s :: ss,f :: fs,ss',fs',i,h => by
  simp only [av_,A9,bu_,ap_]
  rw [Q4 (by simpa using h),show i + 1 + ss.length = i + (ss.length + 1) by omega]
theorem Aav {W : Wd} {b : Int} {obj : Nat} {at' : List Int} {ss : List Str} {fs : List (List Int -> Int)} {i : Nat} {s : Str} {f : List Int -> Int} (hs : ss[i]? = some s) (hf : fs[i]? = some f) : A9 W b obj at' (ss.take (i + 1)) (fs.take (i + 1)) 0 = A9 W b obj at' (ss.take i) (fs.take i) 0 ++ Sw W b obj at' i s f := by
 have h1 := (ad_.1 hs).1;have h2 := (ad_.1 hf).1
 rw [Bb hs,Bb hf,Q4 (by simp; omega),b_,dt_ Om,be_]
 simp [A9]
mutual
def evS (W : Wd) (M : Mn) : As -> List Int -> Int
 | .node s ks,at' => match Au W.g s with
  | none => 0
  | some r => if r.var = true then (if kd W.km r.sort = 1 then (at'[(M.of s).obj.toNat]?).getD 0 else ((M.of s).vals[(Js W.n (at'.take M.k)).toNat]?).getD 0)
   else match W.sm.get s with
    | none => 0
    | some y => (y.vals[(Fg (A9 W y.binds (M.of (((ks[y.binds.toNat]?).map Da).getD [])).obj.toNat at' (Az r) (Gg W M ks) 0) 0).toNat]?).getD 0
def Gg (W : Wd) (M : Mn) : List As -> List (List Int -> Int)
 | [] => []
 | t :: r => evS W M t :: Gg W M r
end
theorem Ky {W : Wd} {M : Mn} : ∀ l : List As,Gg W M l = l.map (evS W M)
 | [] => rfl
 | t :: r => by rw [Gg,Ky r]; rfl
def fac (W : Wd) (b : Int) (i : Nat) (s : Str) : Int := if b < 0 then Ct W.n (kd W.km s) else if Int.ofNat i = b then 1 else Ce (Ct W.n (kd W.km s)) 10000 W.n.toNat 1
def I3 (W : Wd) (b : Int) : List Str -> Nat -> Int -> Int
 | [],_,c => c
 | s :: l,i,c => if decide (10000 < c * fac W b i s) = true then 10001 else I3 W b l (i + 1) (c * fac W b i s)
theorem Adq {W : Wd} {b : Int} {obj : Nat} {at' : List Int} (hn : 1 <= W.n) : ∀ {ss : List Str} {fs : List (List Int -> Int)} {i : Nat} {c : Int},1 <= c -> ss.length = fs.length -> I3 W b ss i c <= 10000 -> I3 W b ss i c = c * D9 (A9 W b obj at' ss fs i)
 | [],[],i,c,_,_,_ => by simp [I3,A9,D9]
 | s :: ss,f :: fs,i,c,hc,hl,h => by
  unfold I3 at h ⊢
  split at h
  ·omega
  ·rename_i h1
   rw [if_neg h1];simp only [decide_eq_true_eq] at h1;have hv := P4 (k := kd W.km s) hn
   have hf : fac W b i s = D9 (Sw W b obj at' i s f) /\ 1 <= fac W b i s := by
    unfold fac Sw at *
    by_cases hb : b < 0
    ·rw [if_pos hb,if_pos hb,Iq]; simp [D9]; exact hv
    ·rw [if_neg hb,if_neg hb]
     by_cases hi : Int.ofNat i = b
     ·rw [if_pos hi,if_pos hi]; simp [D9]
     ·rw [if_neg hi,if_neg hi]
      have hle : Ce (Ct W.n (kd W.km s)) 10000 W.n.toNat 1 <= 10000 := by
       rw [if_neg hb,if_neg hi] at h1
       by_cases hx : Ce (Ct W.n (kd W.km s)) 10000 W.n.toNat 1 <= 10000
       ·exact hx
       ·have : 1 * Ce (Ct W.n (kd W.km s)) 10000 W.n.toNat 1 <= c * Ce (Ct W.n (kd W.km s)) 10000 W.n.toNat 1 := Int.mul_le_mul_of_nonneg_right hc Om;omega
      have hd : ∀ m : Nat,D9 (Lv (Ct W.n (kd W.km s)) f at' obj m) = Ct W.n (kd W.km s) ^ m := fun m => by
       induction m with
       | zero => simp [Lv,D9]
       | succ m ih => rw [Wa,Q3,ih,Iq,Int.pow_succ]; simp [D9]
      rw [hd,Adj hle,Int.one_mul];refine ⟨rfl,?_⟩
      have hp : ∀ m : Nat,1 <= Ct W.n (kd W.km s) ^ m := fun m => by
       induction m with
       | zero => simp
       | succ m ih =>
        rw [Int.pow_succ];have : 1 * 1 <= Ct W.n (kd W.km s) ^ m * Ct W.n (kd W.km s) := Int.mul_le_mul ih hv Om Om;omega
      exact hp _
   have hc2 : 1 <= c * fac W b i s := by
    have : 1 * 1 <= c * fac W b i s := Int.mul_le_mul hc hf.2 Om Om;omega
   rw [Adq hn (obj := obj) (at' := at') hc2 (by simpa using hl) h]
   rw [show A9 W b obj at' (s :: ss) (f :: fs) i = Sw W b obj at' i s f ++ A9 W b obj at' ss fs (i + 1) from rfl,Q3,← hf.1,Int.mul_assoc]
structure Afn (W : Wd) : Prop where
 n1 : 1 <= W.n
 n3 : W.n <= 3
 rs : Apm W.g
 sy : ∀ s y,W.sm.get s = some y -> ∃ r,Au W.g s = some r /\ r.var = false /\ kd W.km r.sort ≠ 1 /\ (y.binds = -1 ∨ ∃ j,y.binds = Int.ofNat j /\ ∃ q,(Az r)[j]? = some q /\ kd W.km q = 1) /\ Int.ofNat y.vals.length = I3 W y.binds (Az r) 0 1 /\ I3 W y.binds (Az r) 0 1 <= 10000 /\ ∀ v ∈ y.vals,0 <= v /\ v < Ct W.n (kd W.km r.sort)
 all : ∀ s r,Au W.g s = some r -> r.var = false -> ∃ y,W.sm.get s = some y
def MgOk (W : Wd) (k : Nat) (r : Rl) (x : Mg) : Prop :=
 (kd W.km r.sort = 1 -> 0 <= x.obj /\ x.obj < Int.ofNat k) /\ (kd W.km r.sort ≠ 1 -> Int.ofNat x.vals.length = W.n ^ k /\ ∀ v ∈ x.vals,0 <= v /\ v < Ct W.n (kd W.km r.sort))
def Jc (W : Wd) (M : Mn) (t : As) : Prop := ∀ s r,ocT s t = true -> Au W.g s = some r -> r.var = true -> MgOk W M.k r (M.of s)
def Mi (n : Int) (l : List Int) : Prop := l.length = 6 /\ ∀ v ∈ l,0 <= v /\ v < n
theorem Mi.set {n : Int} {l : List Int} {o e : Nat} (h : Mi n l) (he : Int.ofNat e < n) : Mi n (l.set o (Int.ofNat e)) := by
 refine ⟨by rw [dh_]; exact h.1,fun v hv => ?_⟩
 rcases List.mem_or_eq_of_mem_set hv with hv | rfl
 ·exact h.2 v hv
 ·exact ⟨by simp,he⟩
theorem Jc.kid {W : Wd} {M : Mn} {s : Str} {ks : List As} (h : Jc W M (.node s ks)) : ∀ k ∈ ks,Jc W M k := fun k hk s' r ho => h s' r (by
 unfold ocT;rw [show ocL s' ks = true from ?_]; simp
 clear h
 induction ks with
 | nil => cases hk
 | cons a l ih =>
  unfold ocL
  rcases ai_.1 hk with rfl | hk
  ·rw [ho]; rfl
  ·rw [ih hk]; simp)
theorem Adr {W : Wd} {M : Mn} (hW : Afn W) {s q : Str} {ks : List As} (h : Bm W.g (.node s ks) = some q) (hv : Jc W M (.node s ks)) {y : Sy} {r : Rl} (hr : Au W.g s = some r) {j : Nat} {a : Str} (hj : (Az r)[j]? = some a) (hk : kd W.km a = 1) : ∃ k,ks[j]? = some k /\ 0 <= (M.of (Da k)).obj /\ (M.of (Da k)).obj < Int.ofNat M.k := by
 obtain ⟨r',hr',_,hn,hks⟩ := Gf hW.rs h;rw [hr] at hr'; cases hr';have hjl := (ad_.1 hj).1;rw [Ip,hn] at hjl;obtain ⟨k,hkj⟩ := A3 hjl;obtain ⟨a',ha',hf⟩ := hks j k hkj;rw [hj] at ha'; cases ha';refine ⟨k,hkj,?_⟩;cases k with
 | node l ls =>
  obtain ⟨r2,h1,h2,_⟩ := Gf hW.rs hf
  have co : r2.var = true := by
   cases hb : r2.var with
   | true => rfl
   | false =>
    obtain ⟨y2,hy2⟩ := hW.all l r2 h1 hb;obtain ⟨r3,k1,_,k3,_⟩ := hW.sy l y2 hy2;rw [h1] at k1; cases k1;rw [h2] at k3; exact absurd hk k3
  exact (hv.kid _ (af_ hkj) l r2 (by unfold ocT; simp) h1 co).1 (by rw [h2]; exact hk)
theorem Alk {W : Wd} {b : Int} {obj : Nat} {at' : List Int} (hat : Mi W.n at') : ∀ {ss : List Str} {fs : List (List Int -> Int)} {i : Nat},(∀ (j : Nat) (a : Str) (f : List Int -> Int),ss[j]? = some a -> fs[j]? = some f -> ∀ at',Mi W.n at' -> 0 <= f at' /\ f at' < Ct W.n (kd W.km a)) -> Xc (A9 W b obj at' ss fs i)
 | [],fs,i,_ => by intro p hp; simp [A9] at hp
 | s :: ss,[],i,_ => by intro p hp; simp [A9] at hp
 | s :: ss,f :: fs,i,h => by
  intro p hp;rw [show A9 W b obj at' (s :: ss) (f :: fs) i = Sw W b obj at' i s f ++ A9 W b obj at' ss fs (i + 1) from rfl] at hp
  rcases bq_.1 hp with hp | hp
  ·unfold Sw at hp
   split at hp
   ·simp only [an_] at hp;subst hp;exact h 0 s f rfl rfl at' hat
   ·split at hp
    ·cases hp
    ·unfold Lv at hp;obtain ⟨e,he,rfl⟩ := cf_.1 hp
     exact h 0 s f rfl rfl _ (hat.set (by have := e_.1 he; simp only [aj_]; omega))
  ·exact Alk hat (ss := ss) (fs := fs) (i := i + 1) (fun j a f ha hf => h (j + 1) a f (by simpa using ha) (by simpa using hf)) p hp
theorem Ads {W : Wd} {k : Nat} {at' : List Int} (hn : 1 <= W.n) (hat : Mi W.n at') (hk : k <= 6) : 0 <= Js W.n (at'.take k) /\ Js W.n (at'.take k) < W.n ^ k := by
 have := Adg hn (at'.take k) fun v hv => hat.2 v (ct_ hv)
 rwa [b_,hat.1,dt_ hk] at this
theorem Ap3 {W : Wd} {M : Mn} (hW : Afn W) {s q : Str} {ks : List As} (h : Bm W.g (.node s ks) = some q) (ih : ∀ k ∈ ks,∀ q,Bm W.g k = some q -> ∀ at',Mi W.n at' -> 0 <= evS W M k at' /\ evS W M k at' < Ct W.n (kd W.km q)) {y : Sy} {r : Rl} (hr : Au W.g s = some r) (hy : W.sm.get s = some y) {at' : List Int} (hat : Mi W.n at') (obj : Nat) :
  Xc (A9 W y.binds obj at' (Az r) (Gg W M ks) 0) /\ D9 (A9 W y.binds obj at' (Az r) (Gg W M ks) 0) = Int.ofNat y.vals.length := by
 obtain ⟨r',hr',_,hn,hks⟩ := Gf hW.rs h;rw [hr] at hr'; cases hr';obtain ⟨r2,k1,_,_,_,k5,k6,_⟩ := hW.sy s y hy;rw [hr] at k1; cases k1;refine ⟨Alk hat fun j a f ha hf => ?_,?_⟩
 ·rw [Ky,az_] at hf;cases hk : ks[j]? with
  | none => rw [hk] at hf; cases hf
  | some k =>
   rw [hk] at hf;simp only [df_,ac_] at hf;subst hf;obtain ⟨a',ha',hfk⟩ := hks j k hk;rw [ha] at ha'; cases ha';exact ih k (af_ hk) a hfk
 ·rw [k5,Adq hW.n1 (obj := obj) (at' := at') (fs := Gg W M ks) Om (by rw [Ip,Ky,by_,hn]) k6,Int.one_mul]
theorem Wb {W : Wd} {M : Mn} (hW : Afn W) (hM : M.k <= 6) (t : As) : ∀ q,Bm W.g t = some q -> Jc W M t -> ∀ at',Mi W.n at' -> 0 <= evS W M t at' /\ evS W M t at' < Ct W.n (kd W.km q) := by
 refine As.ind' (P := fun t => ∀ q,Bm W.g t = some q -> Jc W M t -> ∀ at',Mi W.n at' -> 0 <= evS W M t at' /\ evS W M t at' < Ct W.n (kd W.km q)) ?_ t
 intro s ks ih q h hv at' hat;obtain ⟨r,hr,hq,hn,hks⟩ := Gf hW.rs h;have dt := P4 (k := kd W.km q) hW.n1;unfold evS;rw [hr];simp only
 by_cases co : r.var = true
 ·rw [if_pos co]
  have hm := hv s r (by unfold ocT; simp) hr co
  by_cases hk : kd W.km r.sort = 1
  ·rw [if_pos hk]
   have hvq : Ct W.n (kd W.km q) = W.n := by rw [← hq,hk]; rfl
   rw [hvq];have := hW.n1;cases hx : at'[(M.of s).obj.toNat]? with
   | none => simp; omega
   | some v => exact hat.2 v (af_ hx)
  ·rw [if_neg hk];cases hx : (M.of s).vals[(Js W.n (at'.take M.k)).toNat]? with
   | none => simp; omega
   | some v => rw [← hq]; exact (hm.2 hk).2 v (af_ hx)
 ·rw [if_neg co]
  obtain ⟨y,hy⟩ := hW.all s r hr (by simpa using co)
  rw [hy];simp only;obtain ⟨r2,k1,_,_,_,k5,k6,k7⟩ := hW.sy s y hy;rw [hr] at k1; cases k1;cases hx : y.vals[(Fg (A9 W y.binds (M.of (((ks[y.binds.toNat]?).map Da).getD [])).obj.toNat at' (Az r) (Gg W M ks) 0) 0).toNat]? with
  | none => simp; omega
  | some v => rw [← hq]; exact k7 v (af_ hx)
def rpl (n : Nat) (l : List Int) : List Int := l.flatMap (List.replicate n)
theorem Yb {n : Nat} : ∀ l : List Int,(rpl n l).length = l.length * n
 | [] => by simp [rpl]
 | x :: l => by
  have := Yb (n := n) l;unfold rpl at this ⊢;rw [ch_,aw_,this,cg_,ap_,ey_,Nat.one_mul,eb_]
theorem All {n j : Nat} (hj : j < n) : ∀ {l : List Int} {i : Nat},(rpl n l)[i * n + j]? = l[i]?
 | [],i => by simp [rpl]
 | x :: l,0 => by
  unfold rpl
  rw [ch_,em_,be_,bb_ (by simpa using hj)]
  simp [hj]
 | x :: l,i + 1 => by
  have := All hj (l := l) (i := i);unfold rpl at this ⊢
  rw [ch_,cb_ (by rw [cg_,ey_]; omega),cg_,show (i + 1) * n + j - n = i * n + j by rw [ey_]; omega,this]
  simp
theorem Arw {n : Nat} {l : List Int} {v : Int} (h : v ∈ rpl n l) : v ∈ l := by
 unfold rpl at h;obtain ⟨x,hx,hv⟩ := List.mem_flatMap.1 h;rw [List.eq_of_mem_replicate hv]; exact hx
def rpM (n : Nat) (x : Mg) : Mg := { x with vals := rpl n x.vals }
structure Rel (k : Nat) (x : Int) (a b : List Int) : Prop where
 la : a.length = 6
 lb : b.length = 6
 lo : ∀ o,o < k -> b[o]? = a[o]?
 at' : b[k]? = some x
theorem Rel.set {k o : Nat} {x e : Int} {a b : List Int} (h : Rel k x a b) (ho : o < k) : Rel k x (a.set o e) (b.set o e) := by
 refine ⟨by rw [dh_]; exact h.la,by rw [dh_]; exact h.lb,fun p hp => ?_,?_⟩
 ·rw [List.getElem?_set,List.getElem?_set,h.la,h.lb,h.lo p hp]
 ·rw [List.getElem?_set_ne Om]; exact h.at'
theorem Rel.idx {k : Nat} {x n : Int} {a b : List Int} (h : Rel k x a b) : Js n (b.take (k + 1)) = Js n (a.take k) * n + x := by
 have e : b.take k = a.take k := by
  refine List.ext_getElem? fun o => ?_
  rw [dm_,dm_]
  split
  ·rename_i ho; exact h.lo o ho
  ·rfl
 unfold Js;rw [Bb h.at',e,Afi]
theorem Aaw {W : Wd} {b : Int} {o : Nat} {a a' : List Int} : ∀ {ss : List Str} {fs fs' : List (List Int -> Int)} {i : Nat},fs.length = fs'.length -> (∀ (j : Nat) (f f' : List Int -> Int),fs[j]? = some f -> fs'[j]? = some f' -> f' a' = f a /\ (¬ b < 0 -> ∀ e : Nat,Int.ofNat e < W.n -> f' (a'.set o (Int.ofNat e)) = f (a.set o (Int.ofNat e)))) -> A9 W b o a' ss fs' i = A9 W b o a ss fs i
 | [],fs,fs',i,_,_ => by simp [A9]
 | s :: ss,[],[],i,_,_ => by simp [A9]
 | s :: ss,f :: fs,f' :: fs',i,hl,h => by
  obtain ⟨h1,h2⟩ := h 0 f f' rfl rfl;rw [show A9 W b o a' (s :: ss) (f' :: fs') i = Sw W b o a' i s f' ++ A9 W b o a' ss fs' (i + 1) from rfl,show A9 W b o a (s :: ss) (f :: fs) i = Sw W b o a i s f ++ A9 W b o a ss fs (i + 1) from rfl,
   Aaw (ss := ss) (fs := fs) (fs' := fs') (i := i + 1) (by simpa using hl) fun j g g' hg hg' => h (j + 1) g g' (by simpa using hg) (by simpa using hg')]
  congr 1
  unfold Sw
  split
  ·rw [h1]
  ·rename_i hb
   split
   ·rfl
   ·unfold Lv;refine List.map_congr_left fun e he => ?_
    rw [h2 hb e (by have := e_.1 he; simp only [aj_]; omega)]
theorem Arx {W : Wd} {M : Mn} (hW : Afn W) (hk : M.k <= 5) {x : Int} (hx : 0 <= x /\ x < W.n) (t : As) : ∀ q,Bm W.g t = some q -> Jc W M t -> ∀ a b,Mi W.n a -> Rel M.k x a b -> evS W ⟨fun s => rpM W.n.toNat (M.of s),M.k + 1⟩ t b = evS W M t a := by
 refine As.ind' (P := fun t => ∀ q,Bm W.g t = some q -> Jc W M t -> ∀ a b,Mi W.n a -> Rel M.k x a b -> evS W ⟨fun s => rpM W.n.toNat (M.of s),M.k + 1⟩ t b = evS W M t a) ?_ t
 intro s ks ih q h hv a b hat hr;obtain ⟨r,hrl,hq,hn,hks⟩ := Gf hW.rs h;have hn1 := hW.n1;unfold evS;rw [hrl];simp only
 by_cases co : r.var = true
 ·rw [if_pos co,if_pos co]
  have hm := hv s r (by unfold ocT; simp) hrl co
  by_cases hkd : kd W.km r.sort = 1
  ·rw [if_pos hkd,if_pos hkd];have := hm.1 hkd
   rw [show (rpM W.n.toNat (M.of s)).obj = (M.of s).obj from rfl,hr.lo _ (by simp only [aj_] at this; omega)]
  ·rw [if_neg hkd,if_neg hkd];obtain ⟨i1,i2⟩ := Ads (k := M.k) hn1 hat Om
   have e : (Js W.n (b.take (M.k + 1))).toNat = (Js W.n (a.take M.k)).toNat * W.n.toNat + x.toNat := by
    rw [hr.idx,Int.toNat_add (Int.mul_nonneg i1 Om) hx.1,Int.toNat_mul i1 Om]
   rw [e,show (rpM W.n.toNat (M.of s)).vals = rpl W.n.toNat (M.of s).vals from rfl,All Om]
 ·rw [if_neg co,if_neg co]
  obtain ⟨y,hy⟩ := hW.all s r hrl (by simpa using co)
  rw [hy];simp only;obtain ⟨r2,k1,_,_,k4,_⟩ := hW.sy s y hy;rw [hrl] at k1; cases k1
  have ho : ¬ y.binds < 0 -> (M.of (((ks[y.binds.toNat]?).map Da).getD [])).obj.toNat < M.k := fun hb => by
   rcases k4 with k4 | ⟨j,k4,a',ha',hka⟩
   ·omega
   ·obtain ⟨k,hk1,hk2,hk3⟩ := Adr (M := M) (y := y) hW h hv hrl ha' hka;rw [k4,show (Int.ofNat j).toNat = j from rfl,hk1]
    simp only [df_,ef_];simp only [aj_] at hk3; omega
  rw [show (rpM W.n.toNat (M.of (((ks[y.binds.toNat]?).map Da).getD []))).obj = (M.of (((ks[y.binds.toNat]?).map Da).getD [])).obj from rfl]
  rw [Aaw (fs := Gg W M ks) (fs' := Gg W ⟨fun s => rpM W.n.toNat (M.of s),M.k + 1⟩ ks) (a := a) (by simp [Ky]) fun j f f' hf hf' => ?_]
  rw [Ky,az_] at hf hf';cases hkj : ks[j]? with
  | none => rw [hkj] at hf; cases hf
  | some k =>
   rw [hkj] at hf hf';simp only [df_,ac_] at hf hf';subst hf; subst hf';obtain ⟨a',_,hfk⟩ := hks j k hkj;have cd := af_ hkj;exact ⟨ih k cd a' hfk (hv.kid k cd) a b hat hr,fun hb e he => ih k cd a' hfk (hv.kid k cd) _ _ (hat.set he) (hr.set (ho hb))⟩
def badK (gs : List Str) (km : SM Int) (x : So) : Bool := ((((!(gs.any fun y => decide (x.code = y))) || !decide (kd km x.code = 0)) || decide (x.kind < 1)) || decide (3 < x.kind)) || (decide (x.code = [119,102,102]) && !decide (x.kind = 3))
def Aax (gs : List Str) : List So -> SM Int -> Int × SM Int
 | [],km => (0,km)
 | x :: r,km => if badK gs km x = true then (380,km) else Aax gs r (km.put x.code x.kind)
def Wc (n k : Int) (l : List Int) : Bool := !(l.any fun v => decide (v < 0) || decide (Ct n k <= v))
theorem Alm {n k : Int} {l : List Int} (h : Wc n k l = true) : ∀ v ∈ l,0 <= v /\ v < Ct n k := fun v hv => by
 unfold Wc at h;simp only [bl_,dq_,bh_,decide_eq_true_eq,not_or] at h;have := h v hv; omega
def I4 (W : Wd) (y : Sy) : Int := match Au W.g y.label with
 | none => 381
 | some r => if ((r.var || (W.sm.get y.label).isSome) || decide (kd W.km r.sort = 1)) = true then 381
  else if (!decide (y.binds = -1) && ((decide (y.binds < 0) || decide (Int.ofNat (Az r).length <= y.binds)) || !decide (kd W.km (((Az r)[y.binds.toNat]?).getD []) = 1))) = true then 381
  else if decide (10000 < I3 W y.binds (Az r) 0 1) = true then 4
  else if (!decide (Int.ofNat y.vals.length = I3 W y.binds (Az r) 0 1) || !Wc W.n (kd W.km r.sort) y.vals) = true then 381 else 0
def Lh (W : Wd) : List Sy -> SM Sy -> Int × SM Sy
 | [],sm => (0,sm)
 | y :: r,sm => if I4 { W with sm := sm } y = 0 then Lh W r (sm.put y.label y) else (I4 { W with sm := sm } y,sm)
def Us (gr : Gr) (s : Stc) : Int × SM Int := Aax gr.sorts s.sorts []
def Ci (gr : Gr) (s : Stc) : Wd := ⟨gr.rules,(Us gr s).2,(Lh ⟨gr.rules,(Us gr s).2,[],s.size⟩ s.syms []).2,s.size⟩
def Jd (gr : Gr × Int) (s : Stc) : Int :=
 if gr.2 = 0 then
  if (decide (s.size < 1) || decide (3 < s.size)) = true then 3
  else if (Us gr.1 s).1 = 0 then
   if decide (Int.ofNat (Us gr.1 s).2.length < Int.ofNat gr.1.sorts.length) = true then 380
   else if (Lh ⟨gr.1.rules,(Us gr.1 s).2,[],s.size⟩ s.syms []).1 = 0 then
    if decide (Int.ofNat (Ci gr.1 s).sm.length < Int.ofNat (axR gr.1.rules).length) = true then 381 else 0
   else (Lh ⟨gr.1.rules,(Us gr.1 s).2,[],s.size⟩ s.syms []).1
  else (Us gr.1 s).1
 else gr.2
theorem Yc {W : Wd} {sm : SM Sy} {b : Int} : ∀ {l : List Str} {i : Nat} {c : Int},I3 { W with sm := sm } b l i c = I3 W b l i c
 | [],i,c => rfl
 | s :: l,i,c => by unfold I3; rw [Yc (l := l)]; rfl
theorem Aay {g : List Rl} {s : Str} {r : Rl} (h : Au g s = some r) : r.label = s := by
 unfold Au at h;have := List.find?_some h;exact of_decide_eq_true this
def SyOk (W : Wd) (s : Str) (y : Sy) : Prop := ∃ r,Au W.g s = some r /\ r.var = false /\ kd W.km r.sort ≠ 1 /\ (y.binds = -1 ∨ ∃ j,y.binds = Int.ofNat j /\ ∃ q,(Az r)[j]? = some q /\ kd W.km q = 1) /\ Int.ofNat y.vals.length = I3 W y.binds (Az r) 0 1 /\ I3 W y.binds (Az r) 0 1 <= 10000 /\ ∀ v ∈ y.vals,0 <= v /\ v < Ct W.n (kd W.km r.sort)
theorem Ary {W : Wd} {sm : SM Sy} {y : Sy} (h : I4 { W with sm := sm } y = 0) : SyOk W y.label y /\ sm.get y.label = none := by
 unfold I4 at h;simp only [Yc] at h
 split at h
 ·cases h
 ·rename_i r hr
  split at h
  ·cases h
  ·rename_i h1
   split at h
   ·cases h
   ·rename_i h2
    split at h
    ·cases h
    ·rename_i h3
     split at h
     ·cases h
     ·rename_i h4
      simp only [bh_,not_or,Bool.not_eq_true,decide_eq_true_eq,bl_,decide_eq_false_iff_not,Decidable.not_not,Option.isSome_eq_false_iff,Option.isNone_iff_eq_none,ae_,not_and] at h1 h2 h3 h4
      refine ⟨⟨r,hr,h1.1.1,h1.2,?_,h4.1,by omega,Alm (by simpa using h4.2)⟩,h1.1.2⟩
      by_cases hb : y.binds = -1
      ·exact .inl hb
      ·have h5 := h2 hb
       refine .inr ⟨y.binds.toNat,by have := h5.1.1; simp only [aj_]; omega,?_⟩
       have h6 : y.binds.toNat < (Az r).length := by have := h5.1; simp only [aj_] at this; omega
       obtain ⟨q,hq⟩ := A3 h6
       exact ⟨q,hq,by have := h5.2; rw [hq] at this; exact this⟩
theorem Xd {α : Type} {p q : α -> Bool} : ∀ {l : List α},(∀ a ∈ l,p a = true -> q a = true) -> (∃ a ∈ l,p a = false /\ q a = true) -> (l.filter p).length + 1 <= (l.filter q).length
 | [],_,⟨a,ha,_⟩ => by cases ha
 | x :: l,h,⟨a,ha,h1,h2⟩ => by
  have hle : (l.filter p).length <= (l.filter q).length := by
   clear ha h1 h2;have hh := fun b hb => h b (am_ x hb)
   clear h
   induction l with
   | nil => simp
   | cons b l ih =>
    have i1 := ih fun c hc => hh c (am_ b hc)
    have i2 := hh b (by simp)
    cases hp : p b with
    | true => rw [List.filter_cons_of_pos hp,List.filter_cons_of_pos (i2 hp)]; simp; omega
    | false =>
     rw [List.filter_cons_of_neg (by rw [hp]; simp)]
     cases hq : q b with
     | true => rw [List.filter_cons_of_pos hq]; simp; omega
     | false => rw [List.filter_cons_of_neg (by rw [hq]; simp)]; exact i1
  rcases ai_.1 ha with rfl | ha
  ·rw [List.filter_cons_of_neg (by rw [h1]; simp),List.filter_cons_of_pos h2]; simp; omega
  ·have i1 := Xd (l := l) (p := p) (q := q) (fun b hb => h b (am_ x hb)) ⟨a,ha,h1,h2⟩
   have i2 := h x (by simp)
   cases hp : p x with
   | true => rw [List.filter_cons_of_pos hp,List.filter_cons_of_pos (i2 hp)]; simp; omega
   | false =>
    rw [List.filter_cons_of_neg (by rw [hp]; simp)]
    cases hq : q x with
    | true => rw [List.filter_cons_of_pos hq]; simp; omega
    | false => rw [List.filter_cons_of_neg (by rw [hq]; simp)]; exact i1
def Ap4 (g : List Rl) (sm : SM Sy) : Nat := ((axR g).filter fun r => (sm.get r.label).isSome).length
theorem Ah1 {W : Wd} : ∀ {l : List Sy} {sm : SM Sy},(∀ s y,sm.get s = some y -> SyOk W s y) -> sm.length <= Ap4 W.g sm -> (Lh W l sm).1 = 0 ->
  (∀ s y,(Lh W l sm).2.get s = some y -> SyOk W s y) /\ (Lh W l sm).2.length <= Ap4 W.g (Lh W l sm).2
 | [],sm,h1,h2,_ => ⟨h1,h2⟩
 | y :: l,sm,h1,h2,h => by
  unfold Lh at h ⊢
  by_cases hs : I4 { W with sm := sm } y = 0
  ·rw [if_pos hs] at h ⊢;obtain ⟨k1,k2⟩ := Ary hs;refine Ah1 (fun s z hz => ?_) ?_ h
   ·rw [cc_] at hz
    split at hz
    ·rename_i he
     cases hz; subst he; exact k1
    ·exact h1 s z hz
   ·rw [SM.len_put,k2]
    have hk : ∀ r : Rl,(((sm.put y.label y).get r.label).isSome : Bool) = (decide (r.label = y.label) || (sm.get r.label).isSome) := fun r => by
     rw [cc_]; by_cases he : r.label = y.label <;> simp [he]
    obtain ⟨r,hr,hv,_⟩ := k1;have hrl : r.label = y.label := Aay hr
    have := Xd (l := axR W.g) (p := fun r => (sm.get r.label).isSome) (q := fun r => ((sm.put y.label y).get r.label).isSome) (fun a _ ha => by rw [hk,ha]; simp) ⟨r,by unfold axR; rw [cx_]; exact ⟨Hf hr,by rw [hv]; rfl⟩,by rw [hrl,k2]; rfl,by rw [hk,hrl]; simp⟩
    simp only [Option.isSome_none,bf_,if_false];unfold Ap4 at h2 ⊢;omega
  ·rw [if_neg hs] at h;exact absurd h hs
theorem Xe {α : Type} {p : α -> Bool} : ∀ {l : List α},l.length <= (l.filter p).length -> ∀ a ∈ l,p a = true
 | [],_,a,ha => by cases ha
 | x :: l,h,a,ha => by
  have hle := co_ p l;cases hp : p x with
  | false => rw [List.filter_cons_of_neg (by rw [hp]; simp)] at h; simp at h; omega
  | true =>
   rw [List.filter_cons_of_pos hp] at h
   rcases ai_.1 ha with rfl | ha
   ·exact hp
   ·exact Xe (by simp at h; omega) a ha
theorem Ajz {d : Db} {s : Stc} (h : Jd (ofF d) s = 0) : Afn (Ci (ofF d).1 s) := by
 have hG := Adn d;unfold Jd at h
 split at h
 ·split at h
  ·cases h
  ·rename_i h1 h2
   simp only [bh_,decide_eq_true_eq,not_or] at h2
   split at h
   ·split at h
    ·cases h
    ·split at h
     ·rename_i h5
      split at h
      ·cases h
      ·rename_i h6
       obtain ⟨k1,k2⟩ := Ah1 (W := ⟨(ofF d).1.rules,(Us (ofF d).1 s).2,[],s.size⟩) (fun s y hy => by cases hy) (by simp) h5
       refine ⟨by show 1 <= s.size; omega,by show s.size <= 3; omega,hG.rs,fun l y hy => ?_,fun l r hr hv => ?_⟩
       ·obtain ⟨r,q1,q2,q3,q4,q5,q6,q7⟩ := k1 l y hy
        exact ⟨r,q1,q2,q3,q4,by rw [q5]; exact (Yc (W := ⟨(ofF d).1.rules,(Us (ofF d).1 s).2,[],s.size⟩)).symm,by rw [show I3 (Ci (ofF d).1 s) y.binds (Az r) 0 1 = _ from Yc (W := ⟨(ofF d).1.rules,(Us (ofF d).1 s).2,[],s.size⟩)]; exact q6,q7⟩
       ·simp only [decide_eq_true_eq,aj_] at h6
        have := Xe (l := axR (ofF d).1.rules) (p := fun r => ((Ci (ofF d).1 s).sm.get r.label).isSome) (by have : (Ci (ofF d).1 s).sm.length <= Ap4 (ofF d).1.rules (Ci (ofF d).1 s).sm := k2; unfold Ap4 at this; omega) r (by unfold axR; rw [cx_]; exact ⟨Hf hr,by rw [hv]; rfl⟩)
        have hrl : r.label = l := Aay hr;rw [hrl] at this;exact bp_.1 this
     ·rename_i h5; exact absurd h h5
   ·rename_i h3; exact absurd h h3
 ·rename_i h1; exact absurd h h1
def P5 (l : List Mg) (s : Str) : Option Mg := l.find? fun x => decide (x.var = s)
def Sx (W : Wd) (k : Nat) (kind : Int) (x : Mg) : Int :=
 if (decide (kind = 1) && (decide (x.obj < 0) || decide (Int.ofNat k <= x.obj))) = true then 3
 else if (!decide (kind = 1) && !decide (Int.ofNat x.vals.length = Ce W.n 10000 k 1)) = true then 4
 else if (!decide (kind = 1) && !Wc W.n kind x.vals) = true then 3 else 0
def Xx (W : Wd) (l : List Mg) (k : Nat) : List Str -> Int
 | [] => 0
 | s :: r => match P5 l s with
  | none => 5
  | some x => if Sx W k (kd W.km (Gx W.g s).sort) x = 0 then Xx W l k r else Sx W k (kd W.km (Gx W.g s).sort) x
def byG (vs : List Str) (l : List Mg) (s : Str) : Mg := if s ∈ vs then (P5 l s).getD zMg else zMg
def Afo (n : Int) (l : List Int) : Bool := l.any fun e => decide (e < 0) || decide (n <= e)
def atL (els : List Int) : List Int := els ++ List.replicate (6 - els.length) 0
def soE (d : Db) (s : Stc) (t : As) (l : List Mg) (els : List Int) : Int :=
 if Jd (ofF d) s = 0 then
  if decide (6 < Int.ofNat els.length) = true then 4
  else if Afo s.size els = true then 3
  else if P3 d t = 0 then Xx (Ci (ofF d).1 s) l els.length (C9 (ofF d).1.rules t [])
  else P3 d t
 else Jd (ofF d) s
def soV (d : Db) (s : Stc) (t : As) (l : List Mg) (els : List Int) : Int :=
 if soE d s t l els = 0 then evS (Ci (ofF d).1 s) ⟨byG (C9 (ofF d).1.rules t []) l,els.length⟩ t (atL els) else 0
theorem Ut {W : Wd} {l : List Mg} {k : Nat} : ∀ {vs : List Str},Xx W l k vs = 0 ↔ ∀ s ∈ vs,∃ x,P5 l s = some x /\ Sx W k (kd W.km (Gx W.g s).sort) x = 0
 | [] => by simp [Xx]
 | s :: r => by
  unfold Xx;cases h : P5 l s with
  | none => simp [h]
  | some x =>
   simp only [ai_,forall_eq_or_imp,h,ac_,exists_eq_left']
   by_cases hb : Sx W k (kd W.km (Gx W.g s).sort) x = 0
   ·rw [if_pos hb,Ut (vs := r)]; simp [hb]
   ·rw [if_neg hb]; simp [hb]
theorem pow3 {n : Int} (h1 : 1 <= n) (h3 : n <= 3) : ∀ k : Nat,1 <= n ^ k /\ n ^ k <= 3 ^ k
 | 0 => by simp
 | k + 1 => by
  obtain ⟨a,b⟩ := pow3 h1 h3 k;rw [Int.pow_succ,Int.pow_succ];have h5 : 1 * 1 <= n ^ k * n := Int.mul_le_mul a h1 Om Om;have h6 : n ^ k * n <= 3 ^ k * 3 := Int.mul_le_mul b h3 Om Om;omega
theorem Aaz {n m : Int} (h1 : 1 <= n) : ∀ (k : Nat) (c : Int),1 <= c -> c * n ^ k <= m -> Ce n m k c = c * n ^ k
 | 0,c,_,_ => by simp [Ce]
 | k + 1,c,hc,h => by
  have hp : ∀ j : Nat,1 <= n ^ j := fun j => by
   induction j with
   | zero => simp
   | succ j ih => rw [Int.pow_succ]; have : 1 * 1 <= n ^ j * n := Int.mul_le_mul ih h1 Om Om; omega
  have hcn : 1 * 1 <= c * n := Int.mul_le_mul hc h1 Om Om
  have e : c * n ^ (k + 1) = c * n * n ^ k := by rw [Int.pow_succ,Int.mul_assoc,Int.mul_comm n]
  rw [e] at h ⊢;have h2 : c * n * 1 <= c * n * n ^ k := Int.mul_le_mul_of_nonneg_left (hp k) Om;unfold Ce
  rw [if_neg (by simp only [decide_eq_true_eq]; omega)]
  exact Aaz h1 k _ Om h
theorem powL {n : Int} (h1 : 1 <= n) (h3 : n <= 3) {k : Nat} (hk : k <= 6) : Ce n 10000 k 1 = n ^ k := by
  obtain ⟨a,b⟩ := pow3 h1 h3 k
  have h6 : (3 : Int) ^ k <= 3 ^ 6 := by
    have : k = 0 ∨ k = 1 ∨ k = 2 ∨ k = 3 ∨ k = 4 ∨ k = 5 ∨ k = 6 := by omega
    rcases this with rfl | rfl | rfl | rfl | rfl | rfl | rfl <;> decide
  rw [Aaz h1 k 1 Om (by rw [Int.one_mul]; have : (3 : Int) ^ 6 = 729 := (by decide); omega),Int.one_mul]
theorem Aln {W : Wd} {k : Nat} {r : Rl} {x : Mg} (h1 : 1 <= W.n) (h3 : W.n <= 3) (hk : k <= 6) : Sx W k (kd W.km r.sort) x = 0 -> MgOk W k r x := by
 intro h;unfold Sx at h
 split at h
 ·cases h
 ·rename_i g1
  split at h
  ·cases h
  ·rename_i g2
   split at h
   ·cases h
   ·rename_i g3
    simp only [ae_,bh_,decide_eq_true_eq,not_and,not_or,bl_,decide_eq_false_iff_not,Decidable.not_not,Bool.not_eq_false] at g1 g2 g3
    refine ⟨fun hb => ?_,fun hb => ⟨by rw [g2 hb,powL h1 h3 hk],Alm (g3 hb)⟩⟩
    have := g1 hb;omega
theorem Ap5 {d : Db} {s : Stc} {t : As} {l : List Mg} {els : List Int} (h : soE d s t l els = 0) : Jd (ofF d) s = 0 /\ els.length <= 6 /\ Afo s.size els = false /\ P3 d t = 0 /\ Xx (Ci (ofF d).1 s) l els.length (C9 (ofF d).1.rules t []) = 0 := by
 unfold soE at h
 split at h
 ·rename_i h1
  split at h
  ·cases h
  ·rename_i h2
   split at h
   ·cases h
   ·rename_i h3
    split at h
    ·rename_i h4
     exact ⟨h1,by simp at h2; omega,by simpa using h3,h4,h⟩
    ·rename_i h4; exact absurd h h4
 ·rename_i h1; exact absurd h h1
theorem Arz {n : Int} {l : List Int} (h : Afo n l = false) : ∀ v ∈ l,0 <= v /\ v < n := fun v hv => by
 unfold Afo at h;rw [dq_] at h;have := h v hv;simp only [bh_,decide_eq_true_eq,not_or] at this;omega
theorem Ap6 {n : Int} {l : List Int} (hn : 1 <= n) (hl : l.length <= 6) (h : Afo n l = false) : Mi n (atL l) := by
 refine ⟨by unfold atL; simp; omega,fun v hv => ?_⟩
 unfold atL at hv
 rcases bq_.1 hv with hv | hv
 ·exact Arz h v hv
 ·rw [List.eq_of_mem_replicate hv]; omega
theorem Ah2 {d : Db} {t : As} (h : P3 d t = 0) : ∃ q,Bm (ofF d).1.rules t = some q := by
 unfold P3 at h
 split at h
 ·unfold Aar at h
  split at h
  ·rename_i h2; exact bp_.1 h2
  ·cases h
 ·rename_i h1; exact absurd h h1
theorem Alo {g : List Rl} {s : Str} {r : Rl} (h : Au g s = some r) : Gx g s = r := by unfold Gx; rw [h]; rfl
theorem Alp {W : Wd} {l : List Mg} {k : Nat} (hW : Afn W) (hk : k <= 6) {t : As} (h : Xx W l k (C9 W.g t []) = 0) : Jc W ⟨byG (C9 W.g t []) l,k⟩ t := fun s r ho hr hv => by
 have hm : s ∈ C9 W.g t [] := (Q0 t []).2 (.inr ⟨by unfold Abz; rw [hr]; exact hv,ho⟩)
 obtain ⟨x,h1,h2⟩ := Ut.1 h s hm
 have e : byG (C9 W.g t []) l s = x := by unfold byG; rw [if_pos hm,h1]; rfl
 show MgOk W k r (byG (C9 W.g t []) l s)
 rw [e];rw [Alo hr] at h2;exact Aln hW.n1 hW.n3 hk h2
theorem Ah3 {n : Nat} {l : List Mg} {s : Str} : P5 (l.map (rpM n)) s = (P5 l s).map (rpM n) := by
 unfold P5;rw [List.find?_map]; rfl
theorem Ar0 {d : Db} {s : Stc} {t : As} {l : List Mg} {els : List Int} {x : Int} (h : soE d s t l els = 0) (hl : els.length <= 5) (hx : 0 <= x /\ x < s.size) :
  soE d s t (l.map (rpM s.size.toNat)) (els ++ [x]) = 0 /\ soV d s t (l.map (rpM s.size.toNat)) (els ++ [x]) = soV d s t l els := by
 obtain ⟨h1,h2,h3,h4,h5⟩ := Ap5 h;have hW := Ajz h1;have hn1 : 1 <= s.size := hW.n1;have hn3 : s.size <= 3 := hW.n3;obtain ⟨q,hq⟩ := Ah2 h4
 have hm' : Xx (Ci (ofF d).1 s) (l.map (rpM s.size.toNat)) (els ++ [x]).length (C9 (ofF d).1.rules t []) = 0 := by
  refine Ut.2 fun v hv => ?_
  obtain ⟨y,hy1,hy2⟩ := Ut.1 h5 v hv
  refine ⟨rpM s.size.toNat y,by rw [Ah3,hy1]; rfl,?_⟩
  obtain ⟨m1,m2⟩ := Aln (r := Gx (Ci (ofF d).1 s).g v) hW.n1 hW.n3 Om hy2
  have bn : (els ++ [x]).length = els.length + 1 := by simp
  unfold Sx
  by_cases hk : kd (Ci (ofF d).1 s).km (Gx (Ci (ofF d).1 s).g v).sort = 1
  ·rw [decide_eq_true hk,if_neg,if_neg (by simp),if_neg (by simp)]
   have := m1 hk;simp only [Bool.true_and,bh_,decide_eq_true_eq,not_or,bn,show (rpM s.size.toNat y).obj = y.obj from rfl,aj_] at this ⊢
   omega
  ·obtain ⟨m3,m4⟩ := m2 hk
   have hp : Ce s.size 10000 (els ++ [x]).length 1 = s.size ^ (els.length + 1) := by rw [bn]; exact powL hn1 hn3 Om
   have hl2 : Int.ofNat (rpM s.size.toNat y).vals.length = Ce s.size 10000 (els ++ [x]).length 1 := by
    rw [hp,Int.pow_succ,show (rpM s.size.toNat y).vals = rpl s.size.toNat y.vals from rfl,Yb]
    have : (Ci (ofF d).1 s).n = s.size := rfl;rw [this] at m3;rw [← m3];simp only [aj_,fu_]
    congr 1; omega
   have ha : Wc s.size (kd (Ci (ofF d).1 s).km (Gx (Ci (ofF d).1 s).g v).sort) (rpM s.size.toNat y).vals = true := by
    unfold Wc;rw [bl_,dq_];intro w hw;have := m4 w (Arw hw);simp only [bh_,decide_eq_true_eq,not_or]
    exact ⟨by omega,by have h7 := this.2; rw [show (Ci (ofF d).1 s).n = s.size from rfl] at h7; omega⟩
   rw [decide_eq_false hk,if_neg (by simp),if_neg,if_neg]
   ·rw [show (Ci (ofF d).1 s).n = s.size from rfl,ha]; simp
   ·rw [show (Ci (ofF d).1 s).n = s.size from rfl,decide_eq_true hl2]; simp
 have hb' : Afo s.size (els ++ [x]) = false := by
  unfold Afo at h3 ⊢;rw [List.any_append,h3]
  simp; omega
 have hE : soE d s t (l.map (rpM s.size.toNat)) (els ++ [x]) = 0 := by
  unfold soE
  rw [if_pos h1,if_neg (by simp; omega),if_neg (by rw [hb']; simp),if_pos h4]
  exact hm'
 refine ⟨hE,?_⟩;unfold soV;rw [if_pos hE,if_pos h]
 have hby : byG (C9 (ofF d).1.rules t []) (l.map (rpM s.size.toNat)) = fun v => rpM s.size.toNat (byG (C9 (ofF d).1.rules t []) l v) := by
  funext v
  unfold byG
  split
  ·rw [Ah3];cases P5 l v <;> rfl
  ·rfl
 rw [hby,show (els ++ [x]).length = els.length + 1 by simp]
 refine Arx (M := ⟨byG (C9 (ofF d).1.rules t []) l,els.length⟩) hW hl hx t q hq (Alp hW Om h5) _ _ (Ap6 hn1 h2 h3) ⟨by unfold atL; simp; omega,by unfold atL; simp; omega,fun o ho => ?_,?_⟩
 ·unfold atL;have ho' : o < els.length := ho;rw [bu_,bb_ ho',bb_ ho']
 ·unfold atL
  simp
def eSo (s : So) : List AV := [sV s.code,iV s.kind]
def eSy (y : Sy) : List AV := [sV y.label,iV y.binds,slV eI 1 y.vals]
def eMg (m : Mg) : List AV := [sV m.var,iV m.obj,slV eI 1 m.vals]
def scC (s : Stc) : List AV := [iV s.size,slV eSo 2 s.sorts,slV eSy 3 s.syms]
def P6 (s : Stc) : AV := .agg (scC s)
theorem Afp (a : So) : (eSo a).length = 2 := rfl
theorem Q5 (a : Sy) : (eSy a).length = 3 := rfl
theorem Iu (a : Mg) : (eMg a).length = 3 := rfl
theorem Ah4 {N : Nat} (a : So) : AV.unds N (eSo a) = true := rfl
theorem Uu {N : Nat} (a : Sy) : AV.unds N (eSy a) = true := by show (true && (true && (AV.und N (slV eI 1 a.vals) && true))) = true; rw [Cw (fun _ => rfl)]; rfl
theorem Kz {N : Nat} (a : Mg) : AV.unds N (eMg a) = true := by show (true && (true && (AV.und N (slV eI 1 a.vals) && true))) = true; rw [Cw (fun _ => rfl)]; rfl
theorem Yd {N : Nat} (s : Stc) : AV.und N (P6 s) = true := by show (true && (AV.und N (slV eSo 2 s.sorts) && (AV.und N (slV eSy 3 s.syms) && true))) = true; rw [Cw Ah4,Cw Uu]; rfl
theorem f24 (p : Mg -> Bool) (l : List Mg) (k : Nat) (cap : List AV) (J : Sto) (hb : l.length < 4611686018427387904) (hk : ∀ a ∈ l,Aq Ew k ([.agg (eMg a)] ++ cap) J fun v J' => v = .bool (p a) /\ J' = J) :
  Cv 24 [slV eMg 3 l,.fn (.func k) [] cap] J (iV (Ap p l 0)) := by
 refine Ak Tryz.func24 rfl rfl fun hw hu => ?_
 refine G12 ?_;refine Bh l.length (fun i => [(0,slV eMg 3 l),(1,.fn (.func k) [] cap),(7,iV (.ofNat l.length)),(8,iV (.ofNat i))]) (fun i J' => J' = J /\ Ap p l 0 = Ap p (l.drop i) i) SL ⟨rfl,rfl⟩ ?_
 rintro i J' hi ⟨rfl,hf⟩;refine G5 ?_;refine Ab rfl ?_ ?_ <;> intro h
 ·have hlt : i < l.length := by simpa using h
  obtain ⟨a,ha⟩ : ∃ a,l[i]? = some a := ⟨_,ao_ hlt⟩
  have hd : l.drop i = a :: l.drop (i + 1) := by
   obtain ⟨h1,rfl⟩ := ad_.1 ha;exact ay_ h1
  iterate 14 refine G ?_
  refine O1 (Ah ldC rfl rfl (B4 ((fun _ => rfl : ∀ a,(eMg a).length = 3) a) _)) ?_
  refine Bu rfl rfl rfl rfl (hk a (af_ ha)) ?_;rintro _ _ ⟨rfl,rfl⟩;refine G ?_;refine Ab rfl (fun h' => ?_) (fun h' => ?_)
  ·refine G6 ?_;refine ⟨_,rfl,iV (.ofNat i),_,ag_ hw nl (fun _ _ => rfl),nl,.same rfl,?_,rfl⟩
   rw [hf,hd]; simp only [Ap,h',cond_true]
  ·refine G2 ?_;refine O1 (Ek (p := i) (q := 1) okC rfl rfl Om) ?_;refine G2 ?_;refine ⟨hlt,SL,rfl,?_⟩;rw [hf,hd]; simp only [Ap,h',cond_false]
 ·have hge : l.length <= i := by simpa using h
  refine G6 ?_;refine ⟨_,rfl,iV (-1),_,ag_ hw nl (fun _ _ => rfl),nl,.same rfl,?_,rfl⟩
  rw [hf,ah_ hge]; rfl
theorem f7 (p : Mg -> Bool) (l : List Mg) (k : Nat) (cap : List AV) (J : Sto) (hb : l.length < 4611686018427387904) (hk : ∀ a ∈ l,Aq Ew k ([.agg (eMg a)] ++ cap) J fun v J' => v = .bool (p a) /\ J' = J) :
  Cv 7 [slV eMg 3 l,.fn (.func k) [] cap] J (.bool (l.any p)) := by
 refine Ak Tryz.func7 rfl rfl fun hw _ => ?_
 refine G8 ?_;refine Bu rfl rfl rfl rfl (f24 p l k cap J hb hk) ?_;rintro _ _ ⟨rfl,rfl⟩;refine G4 ?_;refine A2 hw rfl ?_;exact congrArg AV.bool (D2 l)
theorem f41 (p : Sy -> Bool) (l : List Sy) (k : Nat) (cap : List AV) (J : Sto) (hb : l.length < 4611686018427387904) (hk : ∀ a ∈ l,Aq Ew k ([.agg (eSy a)] ++ cap) J fun v J' => v = .bool (p a) /\ J' = J) :
  Cv 41 [slV eSy 3 l,.fn (.func k) [] cap] J (iV (Ap p l 0)) := by
 refine Ak Tryz.func41 rfl rfl fun hw hu => ?_
 refine G12 ?_;refine Bh l.length (fun i => [(0,slV eSy 3 l),(1,.fn (.func k) [] cap),(7,iV (.ofNat l.length)),(8,iV (.ofNat i))]) (fun i J' => J' = J /\ Ap p l 0 = Ap p (l.drop i) i) SL ⟨rfl,rfl⟩ ?_
 rintro i J' hi ⟨rfl,hf⟩;refine G5 ?_;refine Ab rfl ?_ ?_ <;> intro h
 ·have hlt : i < l.length := by simpa using h
  obtain ⟨a,ha⟩ : ∃ a,l[i]? = some a := ⟨_,ao_ hlt⟩
  have hd : l.drop i = a :: l.drop (i + 1) := by
   obtain ⟨h1,rfl⟩ := ad_.1 ha;exact ay_ h1
  iterate 14 refine G ?_
  refine O1 (Ah ldC rfl rfl (B4 ((fun _ => rfl : ∀ a,(eSy a).length = 3) a) _)) ?_
  refine Bu rfl rfl rfl rfl (hk a (af_ ha)) ?_;rintro _ _ ⟨rfl,rfl⟩;refine G ?_;refine Ab rfl (fun h' => ?_) (fun h' => ?_)
  ·refine G6 ?_;refine ⟨_,rfl,iV (.ofNat i),_,ag_ hw nl (fun _ _ => rfl),nl,.same rfl,?_,rfl⟩
   rw [hf,hd]; simp only [Ap,h',cond_true]
  ·refine G2 ?_;refine O1 (Ek (p := i) (q := 1) okC rfl rfl Om) ?_;refine G2 ?_;refine ⟨hlt,SL,rfl,?_⟩;rw [hf,hd]; simp only [Ap,h',cond_false]
 ·have hge : l.length <= i := by simpa using h
  refine G6 ?_;refine ⟨_,rfl,iV (-1),_,ag_ hw nl (fun _ _ => rfl),nl,.same rfl,?_,rfl⟩
  rw [hf,ah_ hge]; rfl
theorem f21 (p : Sy -> Bool) (l : List Sy) (k : Nat) (cap : List AV) (J : Sto) (hb : l.length < 4611686018427387904) (hk : ∀ a ∈ l,Aq Ew k ([.agg (eSy a)] ++ cap) J fun v J' => v = .bool (p a) /\ J' = J) :
  Cv 21 [slV eSy 3 l,.fn (.func k) [] cap] J (.bool (l.any p)) := by
 refine Ak Tryz.func21 rfl rfl fun hw _ => ?_
 refine G8 ?_;refine Bu rfl rfl rfl rfl (f41 p l k cap J hb hk) ?_;rintro _ _ ⟨rfl,rfl⟩;refine G4 ?_;refine A2 hw rfl ?_;exact congrArg AV.bool (D2 l)
theorem f32 (p : Mg -> Bool) (l : List Mg) (k : Nat) (cap : List AV) (J : Sto) (hb : l.length < 4611686018427387904) (hk : ∀ a ∈ l,Aq Ew k ([.agg (eMg a)] ++ cap) J fun v J' => v = .bool (p a) /\ J' = J) :
  Cv 32 [slV eMg 3 l,.fn (.func k) [] cap] J (iV (Ap p l 0)) := by
 refine Ak Tryz.func32 rfl rfl fun hw hu => ?_
 refine G12 ?_;refine Bh l.length (fun i => [(0,slV eMg 3 l),(1,.fn (.func k) [] cap),(7,iV (.ofNat l.length)),(8,iV (.ofNat i))]) (fun i J' => J' = J /\ Ap p l 0 = Ap p (l.drop i) i) SL ⟨rfl,rfl⟩ ?_
 rintro i J' hi ⟨rfl,hf⟩;refine G5 ?_;refine Ab rfl ?_ ?_ <;> intro h
 ·have hlt : i < l.length := by simpa using h
  obtain ⟨a,ha⟩ : ∃ a,l[i]? = some a := ⟨_,ao_ hlt⟩
  have hd : l.drop i = a :: l.drop (i + 1) := by
   obtain ⟨h1,rfl⟩ := ad_.1 ha;exact ay_ h1
  iterate 14 refine G ?_
  refine O1 (Ah ldC rfl rfl (B4 ((fun _ => rfl : ∀ a,(eMg a).length = 3) a) _)) ?_
  refine Bu rfl rfl rfl rfl (hk a (af_ ha)) ?_;rintro _ _ ⟨rfl,rfl⟩;refine G ?_;refine Ab rfl (fun h' => ?_) (fun h' => ?_)
  ·refine G6 ?_;refine ⟨_,rfl,iV (.ofNat i),_,ag_ hw nl (fun _ _ => rfl),nl,.same rfl,?_,rfl⟩
   rw [hf,hd]; simp only [Ap,h',cond_true]
  ·refine G2 ?_;refine O1 (Ek (p := i) (q := 1) okC rfl rfl Om) ?_;refine G2 ?_;refine ⟨hlt,SL,rfl,?_⟩;rw [hf,hd]; simp only [Ap,h',cond_false]
 ·have hge : l.length <= i := by simpa using h
  refine G6 ?_;refine ⟨_,rfl,iV (-1),_,ag_ hw nl (fun _ _ => rfl),nl,.same rfl,?_,rfl⟩
  rw [hf,ah_ hge]; rfl
def Ap7 (m : Mg) : Bool := decide ((100 : Int) < Int.ofNat m.vals.length)
def bigY (y : Sy) : Bool := decide ((700 : Int) < Int.ofNat y.vals.length)
def fewS (s : Stc) : Bool := (decide (Int.ofNat s.sorts.length <= (20 : Int)) && decide (Int.ofNat s.syms.length <= (20 : Int))) && !s.syms.any bigY
theorem f8 (m : Mg) (J : Sto) : Cv 8 [.agg (eMg m)] J (.bool (Ap7 m)) := by
 refine Ak Tryz.func8 rfl rfl fun hw hu0 => ?_
 iterate 14 refine G ?_
 refine A2 hw rfl ?_
 rfl
theorem f22 (y : Sy) (J : Sto) : Cv 22 [.agg (eSy y)] J (.bool (bigY y)) := by
 refine Ak Tryz.func22 rfl rfl fun hw hu0 => ?_
 iterate 14 refine G ?_
 refine A2 hw rfl ?_
 rfl
theorem f5 (s : Stc) (J : Sto) : Cv 5 [P6 s] J (.bool (fewS s)) := by
 refine Ak Tryz.func5 rfl rfl fun hw hu0 => ?_
 refine G10 ?_;refine O1 (Rx (q := 20) okC rfl rfl) ?_;refine G ?_;refine TAn 4 ?_ (fun hg => ?_) ?_
 rotate_left
 ·iterate 3 refine Gn hg ?_
  refine On hg (Rx (q := 20) okC rfl rfl) ?_;exact Ez
 refine G ?_;refine TAn 4 ?_ (fun hg => ?_) ?_
 rotate_left
 ·iterate 2 refine Gn hg ?_
  refine Bg rfl rfl rfl (by rw [hg]; rfl) rfl rfl rfl rfl (f21 bigY s.syms 22 [] _ (by simp at hg; omega) (fun a _ => f22 a _)) ?_
  refine Gn hg ?_;exact Ez
 refine G3 ?_;refine A2 hw rfl ?_
 rfl
theorem f33 (x : Mg) (s : Str) (J : Sto) : Cv 33 [.agg (eMg x),.pv [sV s]] J (.bool (decide (x.var = s))) := by
 refine Ak Tryz.func33 rfl rfl fun hw hu0 => ?_
 iterate 14 refine G ?_
 refine A2 hw rfl ?_
 rfl
theorem f30 (a : Int) (s : Stc) (J : Sto) : Cv 30 [iV a,.pv (scC s)] J (.bool (decide (a < 0) || decide (s.size <= a))) := by
 refine Ak Tryz.func30 rfl rfl fun hw hu0 => ?_
 refine G9 ?_;refine TOr 4 ?_ (fun hg => ?_) ?_
 rotate_left
 ·iterate 4 refine Gn hg ?_
  exact Ez
 refine G3 ?_;refine A2 hw rfl ?_
 rfl
theorem f34 (n : Int) (k : Nat) (J : Sto) (g1 : 1 <= n) (h5 : n <= 3) (hk : k < 1000000) : Cv 34 [iV n,iV (.ofNat k)] J (iV (Ce n 10000 k 1)) := by
 refine Ak Tryz.func34 rfl rfl fun hw hu0 => ?_
 iterate 15 refine G ?_
 refine Bh k (fun i0 => [(0,iV n),(5,iV (n ^ i0)),(6,iV (.ofNat k)),(7,iV (.ofNat i0))]) (fun i0 J0 => J0 = J /\ n ^ i0 <= 10000 /\ Ce n 10000 k 1 = Ce n 10000 (k - i0) (n ^ i0)) ⟨rfl,congrArg (fun x => some (iV x)) (Int.pow_zero n).symm,rfl,rfl,trivial⟩ ⟨rfl,(by show n ^ 0 <= 10000; rw [Int.pow_zero]; omega),(by rw [Int.pow_zero]; rfl)⟩ ?_
 rintro i0 J0 hi0 ⟨rfl,hp0,hf0⟩;refine G5 ?_;refine Ab rfl ?_ ?_ <;> intro h1
 ·have bc : i0 < k := by simpa using h1
  have hn0 : 0 <= n ^ i0 := Int.pow_nonneg Om;have hm0 : n ^ i0 * n <= 10000 * 3 := Int.mul_le_mul hp0 h5 Om Om;have hm1 : 0 <= n ^ i0 * n := Int.mul_nonneg hn0 Om
  rw [show k - i0 = (k - (i0 + 1)) + 1 by omega,Ce] at hf0
  refine G7 ?_;refine O1 (Q2 okC rfl rfl Om Om) ?_;refine G7 ?_;refine Ab rfl ?_ ?_ <;> intro h2
  ·skip
   refine G5 ?_;refine A2 hw rfl ?_
   rw [hf0,if_pos (by simpa using h2)]; rfl
  ·skip
   refine G5 ?_
   refine ⟨bc,⟨rfl,congrArg (fun x => some (iV x)) (Int.pow_succ n i0).symm,rfl,rfl,trivial⟩,rfl,(by rw [Int.pow_succ]; simpa using h2),(by rw [hf0,if_neg (by simpa using h2),Int.pow_succ])⟩
 ·have bm : k <= i0 := by simpa using h1
  refine G7 ?_;refine A2 hw rfl ?_
  rw [hf0,show k - i0 = 0 by omega,Ce]; rfl
end Go.AM
