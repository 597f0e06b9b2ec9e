/- A part of the proof; shortened by program. -/
import Derived.ProofKit
import Derived.Carry
import Derived.Test.YtolkkkghemedjaaGreatDoorP13
set_option maxRecDepth 100000
set_option maxHeartbeats 4000000
set_option linter.unusedSimpArgs false
set_option linter.unusedVariables false
namespace Go.AM
open Go Go.Proofs Go.Proofs.YtolkkkghemedjaaGreatDoor Go.ChangeShapes Go.WideShapes Go.ChangeAt Go.WideMaps Go.WideElems Go.RowKit
section
variable {H : Type} {eh : TypeId × Value -> H} {w : World}
set_option maxRecDepth 1000000 in
theorem Aas {t k base : Nat} {fl : List (TypeId × Nat × Nat)} {v : Value} (hf : Iz t = some fl) (hk : Tryz.prog.cellsOf t = k) (hv : Value.okWide Tryz.prog w .any base t v) : ∃ cs : Array Value,v = .agg cs /\ cs.toList.length = k := by
 unfold Iz at hf
 split at hf
 ·rename_i fs ht
  unfold Value.okWide at hv;rw [ht] at hv;obtain ⟨cs,h1,h2,_⟩ := hv
  exact ⟨cs,h1,by rw [← hk,← h2]; simp⟩
 ·cases hf
theorem ct25 : Tryz.prog.cellsOf 25 = 3 := Kr
end
section
open Go Go.Proofs
structure Nd where
 lab : Str
 kids : List Nat
inductive Ch (par : List Nat) : Nat -> Nat -> Nat -> Prop
 | root {n k : Nat} : par[n]? = some n -> Ch par n n k
 | step {n p r k : Nat} : par[n]? = some p -> p ≠ n -> Ch par p r k -> Ch par n r (k + 1)
theorem Ch.mono {par : List Nat} {n r k : Nat} (h : Ch par n r k) : ∀ {k'},k <= k' -> Ch par n r k' := by
 induction h with
 | root h => intro k' _; exact .root h
 | step h1 h2 _ ih =>
  intro k' hk
  obtain ⟨j,rfl⟩ : ∃ j,k' = j + 1 := ⟨k' - 1,by omega⟩
  exact .step h1 h2 (ih Om)
theorem Ch.noCircle {par : List Nat} {n p r k : Nat} (hn : par[n]? = some p) (hp : par[p]? = some n) (hne : p ≠ n) (h : Ch par n r k) : False := by
 have key : ∀ m r k,Ch par m r k -> (m = n ∨ m = p) -> False := by
  intro m r k h
  induction h with
  | @root m k h9 =>
   rintro (rfl | rfl)
   ·rw [hn] at h9; cases h9; exact hne rfl
   ·rw [hp] at h9; cases h9; exact hne rfl
  | @step m p' r k h1 h2 _ ih =>
   rintro (rfl | rfl)
   ·rw [hn] at h1; cases h1; exact ih (.inr rfl)
   ·rw [hp] at h1; cases h1; exact ih (.inl rfl)
 exact key n r k h (.inl rfl)
theorem Ch.halve {par : List Nat} {n p q : Nat} (hn : par[n]? = some p) (hp : par[p]? = some q) (hne : p ≠ n) {m r k : Nat} (h : Ch par m r k) : Ch (par.set n q) m r k := by
 have hlt : n < par.length := (aa_.1 hn).1;have other : ∀ k,k ≠ n -> (par.set n q)[k]? = par[k]? := fun k hk => cx_ (fi_ hk)
 have self : (par.set n q)[n]? = some q := dg_ hlt
 induction h with
 | @root m k h =>
  by_cases hm : m = n
  ·subst hm; rw [hn] at h; cases h; exact absurd rfl hne
  ·exact .root ((other m hm).trans h)
 | @step m p' r k h1 h2 h3 ih =>
  by_cases hm : m = n
  ·subst hm;rw [hn] at h1; cases h1;have hp' : (par.set m q)[p]? = some q := (other p hne).trans hp
   by_cases hqp : q = p
   ·subst hqp; exact .step self h2 ih
   ·cases ih with
    | root h => rw [hp'] at h; cases h; exact absurd rfl hqp
    | step g1 g2 g3 =>
     rw [hp'] at g1; cases g1
     by_cases hqm : q = m
     ·subst hqm; exact (Ch.noCircle hn hp hne (.step hn h2 h3)).elim
     ·exact .step self hqm (g3.mono Om)
  ·exact .step ((other m hm).trans h1) h2 ih
theorem Ch.next {par : List Nat} {n p q r k : Nat} (hn : par[n]? = some p) (hp : par[p]? = some q) (hne : p ≠ n) (h : Ch par n r (k + 1)) : Ch (par.set n q) q r k := by
 cases h with
 | root h => rw [hn] at h; cases h; exact absurd rfl hne
 | step h1 h2 h3 =>
  rw [hn] at h1; cases h1;cases h3 with
  | root h => rw [hp] at h; cases h; exact (Ch.root hp).halve hn hp hne
  | step g1 g2 g3 => rw [hp] at g1; cases g1; exact (g3.mono Om).halve hn hp hne
structure UF (D : Nat -> Ah) (par : List Nat) : Prop where
 st : ∀ n p : Nat,par[n]? = some p -> p < par.length /\ D p = D n
 ch : ∀ n,n < par.length -> ∃ r k,Ch par n r k
theorem UF.halve {D : Nat -> Ah} {par : List Nat} (h : UF D par) {n p q : Nat} (hn : par[n]? = some p) (hp : par[p]? = some q) (hne : p ≠ n) : UF D (par.set n q) := by
 refine ⟨fun m p' hm => ?_,fun m hm => ?_⟩
 ·rw [bz_];have h1 := h.st n p hn;have h2 := h.st p q hp
  by_cases hmn : n = m
  ·subst hmn;rw [dg_ (aa_.1 hn).1] at hm; cases hm;exact ⟨h2.1,h2.2.trans h1.2⟩
  ·rw [cx_ hmn] at hm; exact h.st m p' hm
 ·rw [bz_] at hm;obtain ⟨r,k,hr⟩ := h.ch m hm;exact ⟨r,k,hr.halve hn hp hne⟩
theorem UF.join {D : Nat -> Ah} {par : List Nat} (h : UF D par) {a b : Nat} (ha : par[a]? = some a) (hb : par[b]? = some b) (hne : a ≠ b) (hD : D a = D b) : UF D (par.set b a) := by
 have hbl := (aa_.1 hb).1;have hal := (aa_.1 ha).1;have other : ∀ k,k ≠ b -> (par.set b a)[k]? = par[k]? := fun k hk => cx_ (fi_ hk)
 have self : (par.set b a)[b]? = some a := dg_ hbl;have hra : ∀ k,Ch (par.set b a) a a k := fun k => .root ((other a hne).trans ha)
 refine ⟨fun m p hm => ?_,fun m hm => ?_⟩
 ·rw [bz_]
  by_cases hmb : b = m
  ·subst hmb; rw [self] at hm; cases hm; exact ⟨hal,hD⟩
  ·rw [cx_ hmb] at hm; exact h.st m p hm
 ·rw [bz_] at hm;obtain ⟨r,k,hr⟩ := h.ch m hm;clear hm
  induction hr with
  | @root m k h1 =>
   by_cases hmb : m = b
   ·subst hmb; exact ⟨a,1,.step self hne (hra 0)⟩
   ·exact ⟨m,0,.root ((other m hmb).trans h1)⟩
  | @step m p r k h1 h2 _ ih =>
   obtain ⟨r',k',hr'⟩ := ih
   by_cases hmb : m = b
   ·subst hmb; rw [hb] at h1; cases h1; exact absurd rfl h2
   ·exact ⟨r',k' + 1,.step ((other m hmb).trans h1) h2 hr'⟩
theorem UF.add {D : Nat -> Ah} {par : List Nat} (h : UF D par) : UF D (par ++ [par.length]) := by
 have old : ∀ k p : Nat,par[k]? = some p -> (par ++ [par.length])[k]? = some p := fun k p hk => by
  rw [bk_ (aa_.1 hk).1]; exact hk
 have new : (par ++ [par.length])[par.length]? = some par.length := by simp
 have up : ∀ m r k,Ch par m r k -> Ch (par ++ [par.length]) m r k := by
  intro m r k hc
  induction hc with
  | root h1 => exact .root (old _ _ h1)
  | step h1 h2 _ ih => exact .step (old _ _ h1) h2 ih
 refine ⟨fun m p hm => ?_,fun m hm => ?_⟩
 ·rw [ao_]
  by_cases hl : m < par.length
  ·rw [bk_ hl] at hm;have := h.st m p hm
   exact ⟨by simp; omega,this.2⟩
  ·have hml := (aa_.1 hm).1;simp only [ao_,bv_] at hml
   have : m = par.length := by omega
   subst this;rw [new] at hm; cases hm
   exact ⟨by simp,rfl⟩
 ·by_cases hl : m < par.length
  ·obtain ⟨r,k,hr⟩ := h.ch m hl; exact ⟨r,k,up _ _ _ hr⟩
  ·simp only [ao_,bv_] at hm
   have : m = par.length := by omega
   subst this;exact ⟨_,0,.root new⟩
theorem UF.congr {D D' : Nat -> Ah} {par : List Nat} (h : UF D par) (hD : ∀ k,k < par.length -> D' k = D k) : UF D' par :=
 ⟨fun n p hn => by
  obtain ⟨h1,h2⟩ := h.st n p hn
  exact ⟨h1,by rw [hD p h1,hD n (aa_.1 hn).1,h2]⟩,h.ch⟩
end
section
open Go Go.Proofs
def Gz : Nat -> List Nat -> Nat -> Nat × List Nat
 | 0,par,n => (n,par)
 | k + 1,par,n => match par[n]? with
  | some p => if p = n then (n,par) else match par[p]? with
   | some q => Gz k (par.set n q) q
   | none => (n,par)
  | none => (n,par)
open Classical in
noncomputable def Am (par : List Nat) (n : Nat) : Nat × List Nat := if h : ∃ k r,Ch par n r k then Gz h.choose par n else (n,par)
theorem Aat {D : Nat -> Ah} : ∀ (k : Nat) (par : List Nat) (n r : Nat),UF D par -> Ch par n r k -> UF D (Gz k par n).2 /\ (Gz k par n).2.length = par.length /\ (Gz k par n).2[(Gz k par n).1]? = some (Gz k par n).1 /\ D (Gz k par n).1 = D n
 | 0,par,n,r,hU,h => by
  cases h with
  | root h => exact ⟨hU,rfl,h,rfl⟩
 | k + 1,par,n,r,hU,h => by
  cases hn : par[n]? with
  | none => cases h with
   | root h => rw [hn] at h; cases h
   | step h => rw [hn] at h; cases h
  | some p =>
   by_cases hp : p = n
   ·subst hp
    have e : Gz (k + 1) par p = (p,par) := by simp only [Gz,hn,if_pos]
    rw [e];exact ⟨hU,rfl,hn,rfl⟩
   ·obtain ⟨g1,g2⟩ := hU.st n p hn;obtain ⟨q,hq⟩ : ∃ q,par[p]? = some q := ⟨_,an_ g1⟩;have hs := Aat k (par.set n q) q r (hU.halve hn hq hp) (h.next hn hq hp);simp only [Gz,hn,if_neg hp,hq];rw [bz_] at hs
    exact ⟨hs.1,hs.2.1,hs.2.2.1,by rw [hs.2.2.2,(hU.st p q hq).2,g2]⟩
structure Rq (D : Nat -> Ah) (par : List Nat) (n : Nat) (o : Nat × List Nat) : Prop where
 uf : UF D o.2
 len : o.2.length = par.length
 rt : o.2[o.1]? = some o.1
 d : D o.1 = D n
theorem Rq.lt {D : Nat -> Ah} {par : List Nat} {n : Nat} {o : Nat × List Nat} (h : Rq D par n o) : o.1 < par.length := by
 rw [← h.len]; exact (aa_.1 h.rt).1
theorem Do {D : Nat -> Ah} {par : List Nat} {n : Nat} (hU : UF D par) (hn : n < par.length) : Rq D par n (Am par n) := by
 obtain ⟨r,k,h⟩ := hU.ch n hn;have he : ∃ k r,Ch par n r k := ⟨k,r,h⟩;unfold Am;rw [dif_pos he];obtain ⟨r',h'⟩ := he.choose_spec;obtain ⟨h1,h2,h3,h4⟩ := Aat _ par n r' hU h';exact ⟨h1,h2,h3,h4⟩
def lfW (x : Nd) : Bool := (Kg x.lab).isSome && x.kids.isEmpty
def No (s : List Sb) : Prop := ∀ y ∈ s,(Kg y.label).isSome = true
structure NI (s : List Sb) (D : Nat -> Ah) (nodes : List Nd) : Prop where
 kid : ∀ (n : Nat) (x : Nd),nodes[n]? = some x -> ∀ k ∈ x.kids,k < n
 val : ∀ (n : Nat) (x : Nd),nodes[n]? = some x -> D n = if x.kids = [] then apT s (.node x.lab []) else .node x.lab (x.kids.map D)
theorem Anf {s : List Sb} (hs : No s) {l : Str} (h : Kg l = none) : apT s (.node l []) = .node l [] := by
 rw [apT]
 have : Jh s l [] = none := by
  unfold Jh
  rw [if_pos (by simp)]
  cases hf : Dv s l with
  | none => rfl
  | some u =>
   have : ∃ y ∈ s,y.label = l := by
    clear hs h
    induction s with
    | nil => cases hf
    | cons a r ih =>
     unfold Dv at hf
     split at hf
     ·rename_i h1; exact ⟨a,ar_ ..,h1⟩
     ·obtain ⟨y,h2,h3⟩ := ih hf; exact ⟨y,ak_ _ h2,h3⟩
   obtain ⟨y,h2,h3⟩ := this;have := hs y h2;rw [h3,h] at this; cases this
 rw [this]; rfl
theorem Tw {s : List Sb} {l : Str} {ks : List Ah} (h : ks ≠ []) : apT s (.node l ks) = .node l (ks.map (apT s)) := by
 rw [apT]
 have : Jh s l ks = none := by
  unfold Jh;rw [if_neg];simp only [decide_eq_true_eq];intro hh;exact h (dm_.1 (di_ hh))
 rw [this]
 show Ah.node l (apL s ks) = _
 rw [Ts]
theorem NI.solid {s : List Sb} {D : Nat -> Ah} {nodes : List Nd} (h : NI s D nodes) (hs : No s) {n : Nat} {x : Nd} (hx : nodes[n]? = some x) (hw : lfW x = false) : D n = .node x.lab (x.kids.map D) := by
 rw [h.val n x hx]
 by_cases hk : x.kids = []
 ·rw [if_pos hk,hk];unfold lfW at hw;rw [hk] at hw;simp only [List.isEmpty_nil,Bool.and_true] at hw
  exact Anf hs (by cases hi : Kg x.lab with | none => rfl | some _ => rw [hi] at hw; cases hw)
 ·rw [if_neg hk]
theorem NI.leaf {s : List Sb} {D : Nat -> Ah} {nodes : List Nd} (h : NI s D nodes) {n : Nat} {x : Nd} (hx : nodes[n]? = some x) (hw : lfW x = true) : D n = apT s (.node x.lab []) := by
 rw [h.val n x hx,if_pos];unfold lfW at hw;simp only [af_,List.isEmpty_iff] at hw;exact hw.2
theorem Ae9 {l : Str} {ks : List Nat} {D : Nat -> Ah} {k : Nat} (h : k ∈ ks) : Av (D k) < Av (.node l (ks.map D)) := by
 have := F9 (dc_ (f := D) h)
 rw [show Av (.node l (ks.map D)) = 1 + By (ks.map D) by rw [Av]]; omega
abbrev Kc := Int × Int
structure KI (D : Nat -> Ah) (nodes : List Nd) (works : List Nat) (known : List Kc) : Prop where
 len : known.length = nodes.length
 sol : ∀ (i : Nat) (c : Kc),known[i]? = some c -> 0 <= c.1 -> ∃ (p : Nat) (x : Nd),c.1 = .ofNat p /\ nodes[p]? = some x /\ lfW x = false /\ D p = D i
 fst : ∀ (i : Nat) (c : Kc),known[i]? = some c -> 0 <= c.2 -> ∃ (j w : Nat) (x : Nd),c.2 = .ofNat j /\ works[j]? = some w /\ nodes[w]? = some x /\ lfW x = true /\ D w = D i
 one : ∀ (i : Nat) (c : Kc),known[i]? = some c -> 0 <= c.1 ∨ 0 <= c.2
def Mj (a b : Kc) : Kc := (if a.1 < 0 then b.1 else a.1,if (decide (a.2 < 0) || (decide (0 <= b.2) && decide (b.2 < a.2))) = true then b.2 else a.2)
theorem KI.join {D : Nat -> Ah} {nodes : List Nd} {works : List Nat} {known : List Kc} (h : KI D nodes works known) {a b : Nat} {ca cb : Kc} (ha : known[a]? = some ca) (hb : known[b]? = some cb) (hD : D a = D b) : KI D nodes works (known.set a (Mj ca cb)) := by
 have hal := (aa_.1 ha).1;have self : (known.set a (Mj ca cb))[a]? = some (Mj ca cb) := dg_ hal
 refine ⟨by rw [bz_]; exact h.len,fun i c hi h0 => ?_,fun i c hi h0 => ?_,fun i c hi => ?_⟩
 ·by_cases hia : a = i
  ·subst hia;rw [self] at hi; cases hi;unfold Mj at h0 ⊢
   by_cases h1 : ca.1 < 0
   ·simp only [if_pos h1] at h0 ⊢;obtain ⟨p,x,g1,g2,g3,g4⟩ := h.sol b cb hb h0;exact ⟨p,x,g1,g2,g3,g4.trans hD.symm⟩
   ·simp only [if_neg h1] at h0 ⊢;exact h.sol a ca ha h0
  ·rw [cx_ hia] at hi; exact h.sol i c hi h0
 ·by_cases hia : a = i
  ·subst hia;rw [self] at hi; cases hi
   by_cases h1 : (decide (ca.2 < 0) || (decide (0 <= cb.2) && decide (cb.2 < ca.2))) = true
   ·have e : (Mj ca cb).2 = cb.2 := if_pos h1;rw [e] at h0 ⊢;obtain ⟨j,w,x,g1,g2,g3,g4,g5⟩ := h.fst b cb hb h0;exact ⟨j,w,x,g1,g2,g3,g4,g5.trans hD.symm⟩
   ·have e : (Mj ca cb).2 = ca.2 := if_neg h1;rw [e] at h0 ⊢;exact h.fst a ca ha h0
  ·rw [cx_ hia] at hi; exact h.fst i c hi h0
 ·by_cases hia : a = i
  ·subst hia;rw [self] at hi; cases hi;have ka := h.one a ca ha;have kb := h.one b cb hb;unfold Mj;simp only [ce_,af_,decide_eq_true_eq]
   split <;> split <;> omega
  ·rw [cx_ hia] at hi; exact h.one i c hi
noncomputable def Hz (f : List Nat -> Nat -> Ah × List Nat) : List Nat -> List Nat -> List Ah × List Nat
 | [],par => ([],par)
 | k :: ks,par => ((f (Am par k).2 (Am par k).1).1 :: (Hz f ks (f (Am par k).2 (Am par k).1).2).1,(Hz f ks (f (Am par k).2 (Am par k).1).2).2)
def Adn (nodes : List Nd) (works : List Nat) (j : Int) : Str := match works[j.toNat]? with | some w => (match nodes[w]? with | some x => x.lab | none => []) | none => []
noncomputable def Rs (nodes : List Nd) (works : List Nat) (known : List Kc) : Nat -> List Nat -> Nat -> Ah × List Nat
 | 0,par,_ => (.node [] [],par)
 | k + 1,par,r => match known[r]? with
  | none => (.node [] [],par)
  | some c => if c.1 < 0 then (.node (Adn nodes works c.2) [],par) else match nodes[c.1.toNat]? with
   | none => (.node [] [],par)
   | some x => (.node x.lab (Hz (Rs nodes works known k) x.kids par).1,(Hz (Rs nodes works known k) x.kids par).2)
structure Ahm (s : List Sb) (D : Nat -> Ah) (par : List Nat) (r : Nat) (o : Ah × List Nat) : Prop where
 uf : UF D o.2
 len : o.2.length = par.length
 ap : apT s o.1 = D r
section
variable {s : List Sb} {D : Nat -> Ah} {nodes : List Nd} {works : List Nat} {known : List Kc}
theorem Aln {f : List Nat -> Nat -> Ah × List Nat} : ∀ (ks par : List Nat),UF D par -> (∀ k ∈ ks,k < par.length) -> (∀ k ∈ ks,∀ par' r,UF D par' -> par'.length = par.length -> r < par.length -> D r = D k -> Ahm s D par' r (f par' r)) -> UF D (Hz f ks par).2 /\ (Hz f ks par).2.length = par.length /\ (Hz f ks par).1.map (apT s) = ks.map D
 | [],par,hU,_,_ => ⟨hU,rfl,rfl⟩
 | k :: ks,par,hU,hk,hf => by
  have hr := Do hU (hk k (ar_ ..));have hv := hf k (ar_ ..) _ _ hr.uf hr.len hr.lt hr.d
  obtain ⟨g1,g2,g3⟩ := Aln ks (f (Am par k).2 (Am par k).1).2 hv.uf (fun j hj => by rw [hv.len,hr.len]; exact hk j (ak_ _ hj)) fun j hj par' r h1 h2 h3 h4 => by
   rw [hv.len,hr.len] at h2 h3;exact hf j (ak_ _ hj) par' r h1 h2 h3 h4
  unfold Hz
  refine ⟨g1,by rw [g2,hv.len,hr.len],?_⟩
  simp only [ck_,g3,hv.ap,hr.d]
theorem Ap1 (hs : No s) (hN : NI s D nodes) (hK : KI D nodes works known) : ∀ (k : Nat) (par : List Nat) (r : Nat),UF D par -> par.length = nodes.length -> r < par.length -> Av (D r) <= k -> Ahm s D par r (Rs nodes works known k par r)
 | 0,par,r,_,_,_,hc => by have := La (D r); omega
 | k + 1,par,r,hU,hl,hr,hc => by
  obtain ⟨c,hcr⟩ : ∃ c,known[r]? = some c := ⟨_,an_ (by rw [hK.len,← hl]; exact hr)⟩
  unfold Rs;simp only [hcr]
  by_cases h1 : c.1 < 0
  ·rw [if_pos h1]
   obtain ⟨j,w,x,g1,g2,g3,g4,g5⟩ := hK.fst r c hcr (by have := hK.one r c hcr; omega)
   refine ⟨hU,rfl,?_⟩
   have e : Adn nodes works c.2 = x.lab := by
    unfold Adn;rw [g1]
    show (match works[j]? with | some w => (match nodes[w]? with | some x => x.lab | none => []) | none => []) = _
    simp only [g2,g3]
   show apT s (.node (Adn nodes works c.2) []) = D r
   rw [e,← hN.leaf g3 g4,g5]
  ·rw [if_neg h1];obtain ⟨p,x,g1,g2,g3,g4⟩ := hK.sol r c hcr Om
   have e : c.1.toNat = p := by rw [g1]; rfl
   simp only [e,g2];have fg := hN.solid hs g2 g3;have hpl : p < nodes.length := (aa_.1 g2).1
   obtain ⟨q1,q2,q3⟩ := Aln (s := s) (f := Rs nodes works known k) x.kids par hU (fun j hj => by have := hN.kid p x g2 j hj; omega) fun j hj par' r' h1 h2 h3 h4 => by
    refine Ap1 hs hN hK k par' r' h1 (h2.trans hl) Om ?_;have := Ae9 (l := x.lab) (D := D) hj;rw [← fg,g4] at this;rw [h4]; omega
   refine ⟨q1,q2,?_⟩
   show apT s (.node x.lab (Hz (Rs nodes works known k) x.kids par).1) = D r
   rw [← g4,fg]
   by_cases hk : x.kids = []
   ·rw [hk]
    show apT s (.node x.lab []) = .node x.lab []
    have := hN.val p x g2;rw [if_pos hk,fg,hk] at this;exact this.symm
   ·rw [Tw (fun h => hk ?_),q3]
    have := congrArg List.length q3;rw [h] at this;simp only [dq_,cs_,bs_] at this;exact dm_.1 this.symm
mutual
theorem Ap2 (s : List Sb) : ∀ t : Ah,Av t <= Av (apT s t)
 | .node l ks => by
  by_cases h : ks = []
  ·subst h;have := La (apT s (.node l []))
   rw [show Av (.node l []) = 1 by rw [Av,By]]; omega
  ·rw [Tw h,Av,Av,← Ts];have := Alo s ks;omega
theorem Alo (s : List Sb) : ∀ l : List Ah,By l <= By (apL s l)
 | [] => by rw [apL]; exact nl
 | t :: r => by rw [apL,By,By]; have := Ap2 s t; have := Alo s r; omega
end
end
end
section
open Go Go.Proofs
structure NS where
 M : GM Kk Nat
 W : GM Int Nat
 nodes : List Nd
 par : List Nat
 known : List Kc
 works : List Nat
def Fg (M : GM Kk Nat) (k : Kk) : Nat × GM Kk Nat := match M.get k with | some n => (n,M) | none => (M.length,M.put k M.length)
def Afa (S : NS) (at' : Nat) (x : Nd) : NS :=
 ⟨S.M,S.W.put (Int.ofNat at') S.nodes.length,S.nodes ++ [x],S.par ++ [S.par.length],S.known ++ [if lfW x = true then (-1,Int.ofNat S.works.length) else (Int.ofNat S.nodes.length,-1)],if lfW x = true then S.works ++ [S.nodes.length] else S.works⟩
def Abt (S : NS) (at' : Nat) (x : Nd) : Nat × NS := match S.W.get (Int.ofNat at') with | some n => (n,S) | none => (S.nodes.length,Afa S at' x)
mutual
def Dt : Ah -> NS -> Nat × NS
 | .node l ks,S => Abt (Ie ks { S with M := (Fg S.M (l,-1,-1)).2 } (Fg S.M (l,-1,-1)).1 []).2.2 (Ie ks { S with M := (Fg S.M (l,-1,-1)).2 } (Fg S.M (l,-1,-1)).1 []).1 ⟨l,(Ie ks { S with M := (Fg S.M (l,-1,-1)).2 } (Fg S.M (l,-1,-1)).1 []).2.1⟩
def Ie : List Ah -> NS -> Nat -> List Nat -> Nat × List Nat × NS
 | [],S,at',kids => (at',kids,S)
 | t :: r,S,at',kids => Ie r { (Dt t S).2 with M := (Fg (Dt t S).2.M ([],Int.ofNat at',Int.ofNat (Dt t S).1)).2 } (Fg (Dt t S).2.M ([],Int.ofNat at',Int.ofNat (Dt t S).1)).1 (kids ++ [(Dt t S).1])
end
abbrev Pth := Nat -> Str × List Nat
structure Ws (s : List Sb) (D : Nat -> Ah) (P : Pth) (S : NS) : Prop where
 ni : NI s D S.nodes
 ki : KI D S.nodes S.works S.known
 uf : UF D S.par
 pl : S.par.length = S.nodes.length
 m : ∀ k n,S.M.get k = some n -> n < S.M.length
 ma : ∀ l n,S.M.get (l,-1,-1) = some n -> P n = (l,[])
 mb : ∀ (b k n : Nat),S.M.get ([],Int.ofNat b,Int.ofNat k) = some n -> b < S.M.length /\ P n = ((P b).1,(P b).2 ++ [k])
 w : ∀ (a n : Nat),S.W.get (Int.ofNat a) = some n -> a < S.M.length /\ ∃ x,S.nodes[n]? = some x /\ P a = (x.lab,x.kids)
 bd : ∀ i,i < S.nodes.length -> Av (D i) <= 1000000
 wk : ∀ w ∈ S.works,∃ x,S.nodes[w]? = some x /\ lfW x = true
structure Grw (D D' : Nat -> Ah) (P P' : Pth) (S S' : NS) : Prop where
 d : ∀ k,k < S.nodes.length -> D' k = D k
 p : ∀ a,a < S.M.length -> P' a = P a
 n : S.nodes.length <= S'.nodes.length
 m : S.M.length <= S'.M.length
section
variable {s : List Sb} {D D' D'' : Nat -> Ah} {P P' P'' : Pth} {S S' S'' : NS}
theorem Grw.refl : Grw D D P P S S := ⟨fun _ _ => rfl,fun _ _ => rfl,nl,nl⟩
theorem Grw.trans (h : Grw D D' P P' S S') (g : Grw D' D'' P' P'' S' S'') : Grw D D'' P P'' S S'' :=
 ⟨fun k hk => (g.d k (al_ hk h.n)).trans (h.d k hk),fun a ha => (g.p a (al_ ha h.m)).trans (h.p a ha),ax_ h.n g.n,ax_ h.m g.m⟩
theorem Ap3 (h : Ws s D P S) (k : Kk) (q : Str × List Nat) (hq : (∃ l,k = (l,-1,-1) /\ q = (l,[])) ∨ (∃ b j : Nat,k = ([],Int.ofNat b,Int.ofNat j) /\ b < S.M.length /\ q = ((P b).1,(P b).2 ++ [j]))) :
  ∃ P',Ws s D P' { S with M := (Fg S.M k).2 } /\ Grw D D P P' S { S with M := (Fg S.M k).2 } /\ (Fg S.M k).1 < (Fg S.M k).2.length /\ P' (Fg S.M k).1 = q := by
 unfold Fg;cases hg : S.M.get k with
 | some n =>
  refine ⟨P,h,Grw.refl,h.m k n hg,?_⟩
  rcases hq with ⟨l,rfl,rfl⟩ | ⟨b,j,rfl,hb,rfl⟩
  ·exact h.ma l n hg
  ·exact (h.mb b j n hg).2
 | none =>
  have bv : (S.M.put k S.M.length).length = S.M.length + 1 := by rw [GM.len_put,hg]; rfl
  have get : ∀ k' n,(S.M.put k S.M.length).get k' = some n -> (k' = k /\ n = S.M.length) ∨ S.M.get k' = some n := fun k' n hk => by
   rw [fp_] at hk
   split at hk
   ·rename_i he; cases hk; exact .inl ⟨he,rfl⟩
   ·exact .inr hk
  have old : ∀ a,a < S.M.length -> (if a = S.M.length then q else P a) = P a := fun a ha => if_neg Om
  refine ⟨fun a => if a = S.M.length then q else P a,⟨h.ni,h.ki,h.uf,h.pl,?_,?_,?_,?_,h.bd,h.wk⟩,⟨fun _ _ => rfl,fun a ha => old a ha,nl,by show _ <= (S.M.put k S.M.length).length; omega⟩,by show S.M.length < (S.M.put k S.M.length).length; omega,if_pos rfl⟩
  ·intro k' n hk
   show n < (S.M.put k S.M.length).length
   rcases get k' n hk with ⟨_,rfl⟩ | hk
   ·omega
   ·have := h.m k' n hk; omega
  ·intro l n hk
   rcases get _ n hk with ⟨he,rfl⟩ | hk
   ·simp only [if_pos]
    rcases hq with ⟨l',rfl,rfl⟩ | ⟨b,j,rfl,hb,rfl⟩
    ·cases he; rfl
    ·simp at he
   ·show (if n = S.M.length then q else P n) = _
    rw [old n (h.m _ n hk)]; exact h.ma l n hk
  ·intro b j n hk
   show b < (S.M.put k S.M.length).length /\ _
   rcases get _ n hk with ⟨he,rfl⟩ | hk
   ·rcases hq with ⟨l',rfl,rfl⟩ | ⟨b',j',rfl,hb,rfl⟩
    ·simp at he
    ·have hb' : b = b' /\ j = j' := by
      simp only [bc_] at he;exact ⟨di_ he.2.1,di_ he.2.2⟩
     obtain ⟨rfl,rfl⟩ := hb'
     refine ⟨by omega,?_⟩
     show (if S.M.length = S.M.length then _ else _) = _
     rw [if_pos rfl,old b hb]
   ·obtain ⟨h1,h2⟩ := h.mb b j n hk
    refine ⟨by omega,?_⟩
    show (if n = S.M.length then q else P n) = ((if b = S.M.length then q else P b).1,(if b = S.M.length then q else P b).2 ++ [j])
    rw [old n (h.m _ n hk),old b h1]; exact h2
  ·intro a n hk;obtain ⟨h1,x,h2,h3⟩ := h.w a n hk
   refine ⟨by show a < (S.M.put k S.M.length).length; omega,x,h2,?_⟩
   show (if a = S.M.length then q else P a) = _
   rw [old a h1]; exact h3
theorem Ee {α : Type} {l : List α} {a b : α} {i : Nat} (h : (l ++ [a])[i]? = some b) : l[i]? = some b ∨ (i = l.length /\ a = b) := by
 by_cases hl : i < l.length
 ·rw [bk_ hl] at h; exact .inl h
 ·have hi := (aa_.1 h).1;simp only [ao_,bv_] at hi
  have : i = l.length := by omega
  subst this;rw [ch_ nl] at h
  simp at h
  exact .inr ⟨rfl,h⟩
theorem D0 {α : Type} {l m : List α} {b : α} {i : Nat} (h : l[i]? = some b) : (l ++ m)[i]? = some b := by
 rw [bk_ (aa_.1 h).1]; exact h
theorem Atq (h : Ws s D P S) (a : Nat) (x : Nd) (ha : a < S.M.length) (hp : P a = (x.lab,x.kids)) (hk : ∀ k ∈ x.kids,k < S.nodes.length) (hW : S.W.get (Int.ofNat a) = none) (hbd : Av (if x.kids = [] then apT s (.node x.lab []) else .node x.lab (x.kids.map D)) <= 1000000) :
  Ws s (fun n => if n = S.nodes.length then (if x.kids = [] then apT s (.node x.lab []) else .node x.lab (x.kids.map D)) else D n) P (Afa S a x) := by
 obtain ⟨D',hD'⟩ : ∃ D',D' = fun n => if n = S.nodes.length then (if x.kids = [] then apT s (.node x.lab []) else .node x.lab (x.kids.map D)) else D n := ⟨_,rfl⟩
 rw [← hD']
 have old : ∀ n,n < S.nodes.length -> D' n = D n := fun n hn => by rw [hD']; exact if_neg Om
 have new : D' S.nodes.length = if x.kids = [] then apT s (.node x.lab []) else .node x.lab (x.kids.map D) := by rw [hD']; exact if_pos rfl
 have nj : ∀ (ks : List Nat),(∀ k ∈ ks,k < S.nodes.length) -> ks.map D' = ks.map D := fun ks hks => List.map_congr_left fun k hk => old k (hks k hk)
 have nl : (S.nodes ++ [x]).length = S.nodes.length + 1 := by simp
 refine ⟨⟨fun n y hy k hky => ?_,fun n y hy => ?_⟩,⟨?_,fun i c hc h0 => ?_,fun i c hc h0 => ?_,fun i c hc => ?_⟩,?_,?_,h.m,h.ma,h.mb,fun b n hb => ?_,fun i hi => ?_,fun w hw => ?_⟩
 ·rcases Ee hy with hy | ⟨rfl,rfl⟩
  ·exact h.ni.kid n y hy k hky
  ·exact hk k hky
 ·rcases Ee hy with hy | ⟨rfl,rfl⟩
  ·have hn := (aa_.1 hy).1;rw [old n hn,h.ni.val n y hy,nj y.kids (fun k hk => Nat.lt_trans (h.ni.kid n y hy k hk) hn)]
  ·rw [new,nj x.kids hk]
 ·show (S.known ++ [_]).length = (S.nodes ++ [x]).length
  simp [h.ki.len]
 ·have hc : (S.known ++ [if lfW x = true then (-1,Int.ofNat S.works.length) else (Int.ofNat S.nodes.length,-1)])[i]? = some c := hc
  rcases Ee hc with hc | ⟨rfl,rfl⟩
  ·obtain ⟨p,y,g1,g2,g3,g4⟩ := h.ki.sol i c hc h0;have hi := (aa_.1 hc).1;rw [h.ki.len] at hi
   exact ⟨p,y,g1,D0 g2,g3,by rw [old p (aa_.1 g2).1,old i hi,g4]⟩
  ·by_cases hl : lfW x = true
   ·rw [if_pos hl] at h0; exact absurd h0 (show ¬ (0 : Int) <= -1 by decide)
   ·rw [if_neg hl]
    refine ⟨S.nodes.length,x,rfl,?_,by simpa using hl,by rw [h.ki.len]⟩
    show (S.nodes ++ [x])[S.nodes.length]? = some x
    simp
 ·have hc : (S.known ++ [if lfW x = true then (-1,Int.ofNat S.works.length) else (Int.ofNat S.nodes.length,-1)])[i]? = some c := hc
  rcases Ee hc with hc | ⟨rfl,rfl⟩
  ·obtain ⟨j,w,y,g1,g2,g3,g4,g5⟩ := h.ki.fst i c hc h0;have hi := (aa_.1 hc).1;rw [h.ki.len] at hi
   refine ⟨j,w,y,g1,?_,D0 g3,g4,by rw [old w (aa_.1 g3).1,old i hi,g5]⟩
   show (if lfW x = true then S.works ++ [S.nodes.length] else S.works)[j]? = some w
   split
   ·exact D0 g2
   ·exact g2
  ·by_cases hl : lfW x = true
   ·rw [if_pos hl]
    refine ⟨S.works.length,S.nodes.length,x,rfl,?_,?_,hl,by rw [h.ki.len]⟩
    ·show (if lfW x = true then S.works ++ [S.nodes.length] else S.works)[S.works.length]? = some S.nodes.length
     rw [if_pos hl]; simp
    ·show (S.nodes ++ [x])[S.nodes.length]? = some x
     simp
   ·rw [if_neg hl] at h0; exact absurd h0 (show ¬ (0 : Int) <= -1 by decide)
 ·have hc : (S.known ++ [if lfW x = true then (-1,Int.ofNat S.works.length) else (Int.ofNat S.nodes.length,-1)])[i]? = some c := hc
  rcases Ee hc with hc | ⟨rfl,rfl⟩
  ·exact h.ki.one i c hc
  ·by_cases hl : lfW x = true
   ·rw [if_pos hl]; exact .inr (by simp)
   ·rw [if_neg hl]; exact .inl (by simp)
 ·show UF D' (S.par ++ [S.par.length])
  exact (h.uf.congr fun k hk => old k (by rw [← h.pl]; exact hk)).add
 ·show (S.par ++ [S.par.length]).length = (S.nodes ++ [x]).length
  simp [h.pl]
 ·have hb : (S.W.put (Int.ofNat a) S.nodes.length).get (Int.ofNat b) = some n := hb;rw [fp_] at hb
  split at hb
  ·rename_i he
   cases hb;have := di_ he; subst this
   exact ⟨ha,x,by show (S.nodes ++ [x])[S.nodes.length]? = some x; simp,hp⟩
  ·obtain ⟨h1,y,h2,h3⟩ := h.w b n hb;exact ⟨h1,y,D0 h2,h3⟩
 ·have hi : i < (S.nodes ++ [x]).length := hi;rw [nl] at hi
  by_cases hl : i < S.nodes.length
  ·rw [old i hl]; exact h.bd i hl
  ·have : i = S.nodes.length := by omega
   rw [this,new]; exact hbd
 ·have hw : w ∈ (if lfW x = true then S.works ++ [S.nodes.length] else S.works) := hw
  have hold : w ∈ S.works -> ∃ y,(S.nodes ++ [x])[w]? = some y /\ lfW y = true := fun hm => by
   obtain ⟨y,h1,h2⟩ := h.wk w hm;exact ⟨y,D0 h1,h2⟩
  split at hw
  ·rename_i hl
   rcases b_.1 hw with hm | hm
   ·exact hold hm
   ·rw [am_.1 hm]
    exact ⟨x,by show (S.nodes ++ [x])[S.nodes.length]? = some x; simp,hl⟩
  ·exact hold hw
structure Ask (s : List Sb) (D : Nat -> Ah) (P : Pth) (S : NS) (t : Ah) (n : Nat) (S' : NS) (D' : Nat -> Ah) (P' : Pth) : Prop where
 inv : Ws s D' P' S'
 grw : Grw D D' P P' S S'
 lt : n < S'.nodes.length
 d : D' n = apT s t
theorem Atr (hs : No s) (h : Ws s D P S) (a : Nat) (l : Str) (kids : List Nat) (ts : List Ah) (ha : a < S.M.length) (hp : P a = (l,kids)) (hk : ∀ k ∈ kids,k < S.nodes.length) (hd : kids.map D = ts.map (apT s)) (hc : Av (apT s (.node l ts)) <= 1000000) :
  ∃ D',Ask s D P S (.node l ts) (Abt S a ⟨l,kids⟩).1 (Abt S a ⟨l,kids⟩).2 D' P := by
 have val : (if kids = [] then apT s (.node l []) else Ah.node l (kids.map D)) = apT s (.node l ts) := by
  by_cases hks : kids = []
  ·rw [if_pos hks];rw [hks] at hd
   have : ts = [] := by
    have := congrArg List.length hd;simp only [dq_,cs_,bs_] at this;exact dm_.1 this.symm
   rw [this]
  ·rw [if_neg hks,hd,Tw];intro hh;rw [hh] at hd;have := congrArg List.length hd;simp only [dq_,cs_,bs_] at this;exact hks (dm_.1 this)
 unfold Abt;cases hW : S.W.get (Int.ofNat a) with
 | some n =>
  obtain ⟨_,x,h2,h3⟩ := h.w a n hW;rw [hp] at h3;simp only [bc_] at h3;refine ⟨D,h,Grw.refl,(aa_.1 h2).1,?_⟩;rw [h.ni.val n x h2,← h3.1,← h3.2]; exact val
 | none =>
  refine ⟨_,Atq h a ⟨l,kids⟩ ha hp hk hW (by show Av (if kids = [] then apT s (.node l []) else .node l (kids.map D)) <= _; rw [val]; exact hc),⟨fun k hk => if_neg Om,fun _ _ => rfl,?_,nl⟩,?_,?_⟩
  ·show _ <= (S.nodes ++ [_]).length; simp
  ·show _ < (S.nodes ++ [_]).length; simp
  ·show (if S.nodes.length = S.nodes.length then _ else _) = _
   rw [if_pos rfl]; exact val
mutual
theorem Aju (hs : No s) : ∀ (t : Ah) (D : Nat -> Ah) (P : Pth) (S : NS),Ws s D P S -> Av (apT s t) <= 1000000 -> ∃ D' P',Ask s D P S t (Dt t S).1 (Dt t S).2 D' P'
 | .node l ks,D,P,S,h,hc => by
  have hck : ∀ k ∈ ks,Av (apT s k) <= 1000000 := fun k hk => by
   have hne : ks ≠ [] := fun hh => by rw [hh] at hk; cases hk
   rw [Tw hne,Av] at hc;have := F9 (dc_ (f := apT s) hk);omega
  obtain ⟨P1,h1,g1,l1,p1⟩ := Ap3 h (l,-1,-1) (l,[]) (.inl ⟨l,rfl,rfl⟩)
  obtain ⟨D2,P2,h2,g2,l2,p2,k2,d2⟩ := Alp hs ks [] [] l D P1 _ (Fg S.M (l,-1,-1)).1 h1 l1 p1 (fun k hk => by cases hk) rfl hck
  obtain ⟨D3,h3⟩ := Atr hs h2 _ l _ ([] ++ ks) l2 p2 k2 d2 (by rw [bg_]; exact hc)
  rw [bg_] at h3;rw [Dt];exact ⟨D3,P2,h3.inv,(g1.trans g2).trans h3.grw,h3.lt,h3.d⟩
theorem Alp (hs : No s) : ∀ (ks ts : List Ah) (kids : List Nat) (l : Str) (D : Nat -> Ah) (P : Pth) (S : NS) (a : Nat),Ws s D P S -> a < S.M.length -> P a = (l,kids) -> (∀ k ∈ kids,k < S.nodes.length) -> kids.map D = ts.map (apT s) -> (∀ k ∈ ks,Av (apT s k) <= 1000000) ->
  ∃ D' P',Ws s D' P' (Ie ks S a kids).2.2 /\ Grw D D' P P' S (Ie ks S a kids).2.2 /\ (Ie ks S a kids).1 < (Ie ks S a kids).2.2.M.length /\ P' (Ie ks S a kids).1 = (l,(Ie ks S a kids).2.1) /\ (∀ k ∈ (Ie ks S a kids).2.1,k < (Ie ks S a kids).2.2.nodes.length) /\ (Ie ks S a kids).2.1.map D' = (ts ++ ks).map (apT s)
 | [],ts,kids,l,D,P,S,a,h,ha,hp,hk,hd,_ => by rw [Ie,bi_]; exact ⟨D,P,h,Grw.refl,ha,hp,hk,hd⟩
 | t :: r,ts,kids,l,D,P,S,a,h,ha,hp,hk,hd,hc => by
  obtain ⟨D1,P1,h1⟩ := Aju hs t D P S h (hc t (ar_ ..));have ha1 : a < (Dt t S).2.M.length := al_ ha h1.grw.m;have hp1 : P1 a = (l,kids) := (h1.grw.p a ha).trans hp
  obtain ⟨P2,h2,g2,l2,p2⟩ := Ap3 h1.inv ([],Int.ofNat a,Int.ofNat (Dt t S).1) (l,kids ++ [(Dt t S).1]) (.inr ⟨a,_,rfl,ha1,by rw [hp1]⟩)
  obtain ⟨D3,P3,h3,g3,q⟩ := Alp hs r (ts ++ [t]) (kids ++ [(Dt t S).1]) l D1 P2 _ _ h2 l2 p2 (fun k hk' => by
   show k < (Dt t S).2.nodes.length
   rcases b_.1 hk' with hk' | hk'
   ·exact al_ (hk k hk') h1.grw.n
   ·rw [am_.1 hk']; exact h1.lt) (by
   rw [cz_,cz_,← hd]
   congr 1
   ·exact List.map_congr_left fun k hk' => h1.grw.d k (hk k hk')
   ·simp only [ck_,dq_,h1.d]) (fun k hk' => hc k (ak_ _ hk'))
  rw [Ie];rw [cc_,List.singleton_append] at q;exact ⟨D3,P3,h3,(h1.grw.trans g2).trans g3,q⟩
end
end
end
section
open Go Go.Proofs
abbrev nV (n : Nat) : AV := iV (.ofNat n)
def eW (n : Nat) : List AV := [nV n]
def eNd (x : Nd) : List AV := [sV x.lab,slV eW 1 x.kids]
def eC (c : Kc) : List AV := [iV c.1,iV c.2]
theorem E4 (n : Nat) : (eW n).length = 1 := rfl
theorem Gl (x : Nd) : (eNd x).length = 2 := rfl
theorem Nj (c : Kc) : (eC c).length = 2 := rfl
theorem Ahn {N : Nat} (l : List Nat) : AV.unds N (l.flatMap eW) = true := Bi (fun _ => rfl) l
theorem und_C {N : Nat} (l : List Kc) : AV.unds N (l.flatMap eC) = true := Bi (fun _ => rfl) l
theorem Ats {N : Nat} (l : List Nd) : AV.unds N (l.flatMap eNd) = true := Bi (fun x => by show (true && ((AV.unds N (x.kids.flatMap eW)) && true)) = true; rw [Ahn]; rfl) l
theorem WFS.setC {U : Sto} (hw : WFS U) {a : Nat} {vs vs' : List AV} (ha : U.get a = some (.cells vs)) (hu : AV.unds (nx U) vs' = true) : WFS (U.set a (.cells vs')) := fun b O hb => by
 rw [a_] at hb;rw [Ac]
 split at hb
 ·rename_i he
  cases hb
  exact ⟨by rw [he]; exact (hw a _ ha).1,hu,trivial⟩
 ·obtain ⟨h1,h2,h3⟩ := hw b O hb;refine ⟨h1,h2,?_⟩;unfold Zg at h3 ⊢
  split at h3
  ·intro kt es hg;rw [a_] at hg;rw [Ac]
   split at hg
   ·cases hg
   ·exact h3 kt es hg
  ·trivial
structure Sd where
 A : Nat
 p : Nat
 c : Nat
 q0 : AV
 q1 : AV
 q2 : AV
 u4 : AV
 u5 : AV
 nodes : List Nd
 works : List Nat
 tp : List AV
 tc : List AV
def Sd.cells (X : Sd) (n : Nat) : List AV := [X.q0,X.q1,X.q2,slV eNd 2 X.nodes,X.u4,X.u5,.sr X.p 0 1 n none,.sr X.c 0 2 n none,slV eW 1 X.works]
def Sd.setP (X : Sd) (U : Sto) (par : List Nat) : Sto := U.set X.p (.cells (par.flatMap eW ++ X.tp))
def Sd.setC (X : Sd) (U : Sto) (known : List Kc) : Sto := U.set X.c (.cells (known.flatMap eC ++ X.tc))
structure Sx (X : Sd) (U : Sto) (par : List Nat) (known : List Kc) : Prop where
 c : U.get X.A = some (.cells (X.cells par.length))
 p : U.get X.p = some (.cells (par.flatMap eW ++ X.tp))
 k : U.get X.c = some (.cells (known.flatMap eC ++ X.tc))
 kl : known.length = par.length
 ap : X.A ≠ X.p
 ac : X.A ≠ X.c
 pc : X.p ≠ X.c
section
variable {X : Sd} {U τ : Sto} {par par' : List Nat} {known known' : List Kc}
theorem Sx.of_get (h : Sx X U par known) (h1 : τ.get X.A = U.get X.A) (h2 : τ.get X.p = U.get X.p) (h3 : τ.get X.c = U.get X.c) : Sx X τ par known :=
 ⟨h1.trans h.c,h2.trans h.p,h3.trans h.k,h.kl,h.ap,h.ac,h.pc⟩
theorem Bc {b : Nat} : (X.setP U par).get b = if b = X.p then some (.cells (par.flatMap eW ++ X.tp)) else U.get b := a_ ..
theorem Tx {b : Nat} : (X.setC U known).get b = if b = X.c then some (.cells (known.flatMap eC ++ X.tc)) else U.get b := a_ ..
theorem B2 : nx (X.setP U par) = nx U := Ac ..
theorem Alq : nx (X.setC U known) = nx U := Ac ..
theorem Sx.setP (h : Sx X U par known) (hl : par'.length = par.length) : Sx X (X.setP U par') par' known := by
 refine ⟨?_,?_,?_,h.kl.trans hl.symm,h.ap,h.ac,h.pc⟩
 ·rw [Bc,if_neg h.ap,hl]; exact h.c
 ·rw [Bc,if_pos rfl]
 ·rw [Bc,if_neg (fi_ h.pc)]; exact h.k
theorem Sx.setC (h : Sx X U par known) (hl : known'.length = known.length) : Sx X (X.setC U known') par known' := by
 refine ⟨?_,?_,?_,hl.trans h.kl,h.ap,h.ac,h.pc⟩
 ·rw [Tx,if_neg h.ac]; exact h.c
 ·rw [Tx,if_neg h.pc]; exact h.p
 ·rw [Tx,if_pos rfl]
theorem Sx.wfs (hw : WFS U) (h : Sx X U par known) (par' : List Nat) : WFS (X.setP U par') := by
 refine hw.setC h.p ?_;have := (hw X.p _ h.p).2.1;have : AV.unds (nx U) (par.flatMap eW ++ X.tp) = true := this;rw [Ht,af_] at this;rw [Ht,Ahn,this.2]; rfl
theorem endP (hw : WFS U) (h : Sx X U par known) (hl : par'.length = par.length) (hτ : Sx X τ par' known) (hn : nx U <= nx τ) (hg : ∀ b,b < nx U -> b ≠ X.p -> τ.get b = U.get b) : D5 τ (X.setP U par') /\ nx U <= nx (X.setP U par') := by
 refine ⟨ag_ (h.wfs hw par') (by rw [B2]; exact hn) fun b hb => ?_,by rw [B2]; exact nl⟩
 rw [B2] at hb;rw [Bc]
 split
 ·rename_i he; rw [he]; exact hτ.p
 ·rename_i he; exact hg b hb he
end
end
section
open Go Go.Proofs
theorem Ch.lt1 {par : List Nat} {n r k : Nat} (h : Ch par n r k) : n < par.length := by
 cases h with
 | root h => exact (aa_.1 h).1
 | step h => exact (aa_.1 h).1
theorem Aau {par : List Nat} {n : Nat} (h : par[n]? = some n) : ∀ {k : Nat},Gz k par n = (n,par)
 | 0 => rfl
 | k + 1 => by simp only [Gz,h,if_pos]
theorem f71P (X : Sd) (D : Nat -> Ah) (par : List Nat) (known : List Kc) (n r k : Nat) (U : Sto) (h : Sx X U par known) (hU : UF D par) (hc : Ch par n r k) : Ao Ew 71 [.pr X.A 6,nV n] U fun v U' => v = nV (Gz k par n).1 /\ U' = X.setP U (Gz k par n).2 := by
 refine An Tryz.func71 rfl rfl fun hw hu0 => ?_
 refine G6 ?_;refine B3 (fun q : Nat × Nat × List Nat => [(0,.pr X.A 6),(1,nV q.2.1)]) (fun q U0 => Sx X U0 q.2.2 known /\ nx U0 = nx U /\ (∀ b,b ≠ X.p -> U0.get b = U.get b) /\ q.2.2.length = par.length /\ UF D q.2.2 /\ (∃ r,Ch q.2.2 q.2.1 r q.1) /\ Gz q.1 q.2.2 q.2.1 = Gz k par n) (fun q => q.1) (k,n,par) SL ⟨h,rfl,fun _ _ => rfl,rfl,hU,⟨r,hc⟩,rfl⟩ ?_
 rintro ⟨j,m,pa⟩ U0 ⟨hS,hnx,hlo,bv,hU0,⟨r0,hc0⟩,hf⟩;have hml := hc0.lt1;obtain ⟨p0,hp0⟩ := A6 hml;obtain ⟨hp0l,_⟩ := hU0.st m p0 hp0;obtain ⟨q0,hq0⟩ := A6 hp0l;have hml2 : m < par.length := bv ▸ hml;have hlk : pa.length = pa.length := rfl;refine G6 ?_;refine O1 (A5 hS.c ldC rfl rfl) ?_;refine G ?_;refine O1 (Cj elC rfl rfl hml) (O1 (Jn E4 ldC rfl hS.p hp0 fun _ => rfl) ?_)
 refine G3 ?_;refine Ab rfl ?_ ?_ <;> intro h1
 ·have qb : ¬ (p0 : Int) = (m : Int) := by simpa using h1
  have hne : p0 ≠ m := by omega
  refine G3 ?_;refine XS (l := []) trivial ?_;refine G3 ?_;refine DF (A5 hS.c ldC rfl rfl) ?_;refine G4 ?_;refine DF (A5 hS.c ldC rfl rfl) ?_;refine G3 ?_;refine DF (A5 hS.c ldC rfl rfl) ?_;refine G ?_;refine DF (Cj elC rfl rfl hml) (DF (Jn E4 ldC rfl hS.p hp0 fun _ => rfl) ?_)
  refine DF (Cj elC rfl rfl hp0l) (DF (Jn E4 ldC rfl hS.p hq0 fun _ => rfl) ?_)
  refine DF (Cj elC rfl rfl hml) (DT (Rf (u := q0) E4 ldC rfl rfl rfl hS.p hml) ?_);refine G ?_;have hS1 : Sx X (X.setP U0 (pa.set m q0)) (pa.set m q0) known := hS.setP (bz_ ..);have hm1 : (pa.set m q0)[m]? = some q0 := dg_ hml;refine G4 ?_;refine O1 (A5 hS1.c ldC rfl rfl) ?_;refine G ?_
  refine O1 (Cj elC rfl rfl (by rw [bz_]; exact hml)) ?_
  refine O1 (Jn E4 ldC rfl hS1.p hm1 fun _ => rfl) ?_
  refine G2 ?_
  obtain ⟨j',rfl⟩ : ∃ j',j = j' + 1 := by
   cases hc0 with
   | root h9 => rw [hp0] at h9; cases h9; exact absurd rfl hne
   | step => exact ⟨_,rfl⟩
  refine ⟨(j',q0,pa.set m q0),bj_ _,SL,hS1,B2.trans hnx,fun b hb => by show (X.setP U0 (pa.set m q0)).get b = U.get b; rw [Bc,if_neg hb]; exact hlo b hb,by rw [bz_]; exact bv,hU0.halve hp0 hq0 hne,⟨r0,hc0.next hp0 hq0 hne⟩,?_⟩
  rw [← hf];simp only [Gz,hp0,if_neg hne,hq0]
 ·have heq9 : (p0 : Int) = (m : Int) := by simpa using h1
  have heq : p0 = m := by omega
  subst heq;have dk : Gz j pa p0 = (p0,pa) := Aau hp0;rw [dk] at hf;refine G7 ?_;rw [← hf]
  obtain ⟨z1,z2⟩ := endP hw h bv hS (by rw [hnx]; exact nl) fun b _ hb => hlo b hb
  exact ⟨_,rfl,_,_,z1,z2,.same rfl,rfl,rfl⟩
theorem f71 (X : Sd) (D : Nat -> Ah) {par : List Nat} {known : List Kc} (n : Nat) {U : Sto} (h : Sx X U par known) (hU : UF D par) (hn : n < par.length) : Ao Ew 71 [.pr X.A 6,nV n] U fun v U' => v = nV (Am par n).1 /\ U' = X.setP U (Am par n).2 := by
 obtain ⟨r,k,hc⟩ := hU.ch n hn;have he : ∃ k r,Ch par n r k := ⟨k,r,hc⟩;unfold Am;rw [dif_pos he];obtain ⟨r',h'⟩ := he.choose_spec;exact f71P X D par known n r' _ U h hU h'
theorem Aro {N : Nat} (x : Nd) : AV.unds N (eNd x) = true := by show (true && ((AV.unds N (x.kids.flatMap eW)) && true)) = true; rw [Ahn]; rfl
theorem Asl (X : Sd) {par : List Nat} {known : List Kc} (r : Nat) {U : Sto} (h : Sx X U par known) {c : Kc} (hr : known[r]? = some c) (qc : c.1 < 0) : Cv 109 [.pr X.A 0,nV r] U (.tup [.agg [.str [],.nil (.slice none 0 0)],.bool false]) := by
 have hil : r < par.length := h.kl ▸ (aa_.1 hr).1
 have hw0 : ∀ z,WFS U -> ((U.new (.cells z)).get X.A = U.get X.A /\ (U.new (.cells z)).get X.c = U.get X.c) := fun z hw => ⟨by rw [ab_,if_neg (by have := (hw _ _ h.c).1; omega)],by rw [ab_,if_neg (by have := (hw _ _ h.k).1; omega)]⟩
 refine An Tryz.func109 rfl rfl fun hw hu0 => ?_
 have hc := (hw0 [.str [],.nil (.slice none 0 0)] hw).1.trans h.c;have hk := (hw0 [.str [],.nil (.slice none 0 0)] hw).2.trans h.k;refine G2 ?_;refine O1 (Ct ziC) ?_;refine G8 ?_;refine O1 (A5 hc ldC rfl rfl) ?_;refine G ?_;refine O1 (Cj elC rfl rfl hil) ?_;refine G ?_;refine O1 (Gj (k := 0) Nj hk hr ldC rfl rfl fun _ => rfl) ?_
 refine G8 ?_;refine Ab rfl ?_ ?_ <;> intro h1
 ·skip
  refine G3 ?_
  refine O1 (E3 (cs := [.str [],.nil (.slice none 0 0)]) (cs' := [.str [],.nil (.slice none 0 0)]) (by rw [ab_,if_pos rfl]) ldC rfl rfl rfl rfl) ?_
  refine G3 ?_
  exact ⟨_,Bj (vs := [.str [],.nil (.slice none 0 0)]) (v := .agg [.str [],.nil (.slice none 0 0)]) (ldC (t := 139)) rfl (by simp only [Sto.cells]; rw [a_,if_pos rfl]) rfl rfl,_,U,as_ hw ⟨by rw [Ac,Af]; omega,fun b hb => by rw [a_,if_neg Om,ab_,if_neg Om]⟩,nl,.same rfl,rfl,rfl⟩
 ·exact absurd qc (by simpa using h1)
theorem Asm (X : Sd) {par : List Nat} {known : List Kc} (r : Nat) {U : Sto} (h : Sx X U par known) {c : Kc} {p : Nat} {x : Nd} (hr : known[r]? = some c) (hcp : c.1 = .ofNat p) (hp : X.nodes[p]? = some x) : Cv 109 [.pr X.A 0,nV r] U (.tup [.agg (eNd x),.bool true]) := by
 have hil : r < par.length := h.kl ▸ (aa_.1 hr).1
 have hw0 : ∀ z,WFS U -> ((U.new (.cells z)).get X.A = U.get X.A /\ (U.new (.cells z)).get X.c = U.get X.c) := fun z hw => ⟨by rw [ab_,if_neg (by have := (hw _ _ h.c).1; omega)],by rw [ab_,if_neg (by have := (hw _ _ h.k).1; omega)]⟩
 obtain ⟨c1,c2⟩ := c;have hcp : c1 = .ofNat p := hcp;subst hcp;refine An Tryz.func109 rfl rfl fun hw hu0 => ?_
 have hc := (hw0 [.str [],.nil (.slice none 0 0)] hw).1.trans h.c;have hk := (hw0 [.str [],.nil (.slice none 0 0)] hw).2.trans h.k;refine G2 ?_;refine O1 (Ct ziC) ?_;refine G8 ?_;refine O1 (A5 hc ldC rfl rfl) ?_;refine G ?_;refine O1 (Cj elC rfl rfl hil) ?_;refine G ?_;refine O1 (Gj (k := 0) Nj hk hr ldC rfl rfl fun _ => rfl) ?_
 refine G8 ?_;refine Ab rfl ?_ ?_ <;> intro h1
 ·exact absurd h1 (by simp)
 ·skip
  refine G6 ?_;refine O1 (A5 hc ldC rfl rfl) ?_;refine G ?_
  refine O1 (Ax elC Gl rfl rfl hp) (O1 (Ad ldC rfl rfl (Ba (Gl x) _)) (O1 (E3 (cs := [.str [],.nil (.slice none 0 0)]) (cs' := eNd x) (by rw [ab_,if_pos rfl]) ldC rfl rfl rfl rfl) ?_))
  refine G3 ?_
  exact ⟨_,Bj (vs := eNd x) (v := .agg (eNd x)) (ldC (t := 139)) rfl (by simp only [Sto.cells]; rw [a_,if_pos rfl]) rfl rfl,_,U,as_ hw ⟨by rw [Ac,Af]; omega,fun b hb => by rw [a_,if_neg Om,ab_,if_neg Om]⟩,nl,.same (by show (AV.unds _ (eNd x) && (true && true)) = true; rw [Aro]; rfl),rfl,rfl⟩
end
section
open Go Go.Proofs
structure MgS (U : Sto) (b : Kc) (x y : Int) (τ : Sto) : Prop where
 a : τ.get (nx U) = some (.cells [iV x,iV y])
 r : τ.get (nx U + 1) = some (.cells [iV 0,iV 0])
 lo : ∀ c,c < nx U -> τ.get c = U.get c
 n : nx τ = nx U + 2
def mgL (U : Sto) (b : Kc) : Ae := [(2,.pr (nx U) 0),(3,.pv (eC b)),(4,.pr (nx U + 1) 0)]
theorem MgS.set {U τ : Sto} {b : Kc} {x y : Int} (h : MgS U b x y τ) (x' y' : Int) : MgS U b x' y' (τ.set (nx U) (.cells [iV x',iV y'])) :=
 ⟨by rw [a_,if_pos rfl],by rw [a_,if_neg Om]; exact h.r,fun c hc => by rw [a_,if_neg Om]; exact h.lo c hc,by rw [Ac]; exact h.n⟩
theorem f108 (a b : Kc) (U : Sto) : Cv 108 [.agg (eC a),.agg (eC b)] U (.agg (eC (Mj a b))) := by
 refine An Tryz.func108 rfl rfl fun hw hu0 => ?_
 refine G2 ?_;refine O1 (Aie (cs := eC a) ldC rfl rfl) ?_;refine G ?_;refine O1 (Cn (n := nx U + 1) ziC (Af _ _)) ?_;refine G ?_
 have hM0 : MgS U b a.1 a.2 ((U.new (.cells (eC a))).new (.cells [.int .i64 0,.int .i64 0])) := ⟨by rw [ab_,if_neg (by rw [Af]; omega),ab_,if_pos rfl]; rfl,by rw [ab_,if_pos (by rw [Af])]; rfl,fun b hb => by rw [ab_,if_neg (by rw [Af]; omega),ab_,if_neg Om],by rw [Af,Af]⟩
 generalize hU1 : ((U.new (.cells (eC a))).new (.cells [.int .i64 0,.int .i64 0])) = U1 at *
 refine Re (fun L τ => MgS U b (if a.1 < 0 then b.1 else a.1) a.2 τ /\ L = mgL U b) ?_ ?_
 refine G3 ?_;refine O1 (A5 hM0.a ldC rfl rfl) ?_;refine G2 ?_;refine Ab rfl ?_ ?_ <;> intro h1
 ·skip
  refine G2 ?_;refine O1 (Ad  ldC rfl rfl rfl) ?_;refine G ?_;refine O1 (E3 hM0.a ldC rfl rfl rfl rfl) ?_;refine G ?_
  have h1 : a.1 < 0 := by simpa using h1
  exact ⟨mgL U b,SL,by rw [if_pos h1]; exact hM0.set _ _,rfl⟩
 ·refine G ?_
  have h1 : ¬ a.1 < 0 := by simpa using h1
  exact ⟨mgL U b,SL,by rw [if_neg h1]; exact hM0,rfl⟩
 rintro L U2 ⟨hM1,rfl⟩;refine Re (fun L τ => MgS U b (Mj a b).1 (Mj a b).2 τ /\ L = mgL U b) ?_ ?_
 refine G3 ?_;refine O1 (A5 hM1.a ldC rfl rfl) ?_;refine G2 ?_;refine TOr 10 ?_ (fun hg => ?_) ?_
 rotate_left
 ·refine Gn hg ?_;refine On hg (Ad  ldC rfl rfl rfl) ?_
  iterate 2 refine Gn hg ?_
  refine Lx 5 _ ?_ rfl rfl rfl rfl rfl (I6 rfl rfl rfl rfl (by rw [hg]; rfl)) (fun hg => ?_) (fun hg => ?_) ?_
  rotate_left
  ·refine Gn hg ?_;refine On hg (Ad  ldC rfl rfl rfl) ?_;refine Gn hg ?_;refine On hg (A5 hM1.a ldC rfl rfl) ?_;refine Gn hg ?_;refine G ?_;refine ⟨rfl,?_,?_⟩
   ·exact sb
   ·exact rfl
  ·iterate 5 refine Gn hg ?_
   refine G ?_;exact ⟨rfl,sb⟩
  exact Ez
 refine G ?_;refine Ab rfl ?_ ?_ <;> intro h2
 ·skip
  refine G2 ?_;refine O1 (Ad  ldC rfl rfl rfl) ?_;refine G ?_;refine O1 (E3 hM1.a ldC rfl rfl rfl rfl) ?_;refine G ?_
  exact ⟨mgL U b,SL,by rw [show (Mj a b).2 = b.2 from if_pos h2]; exact hM1.set _ _,rfl⟩
 ·refine G ?_
  exact ⟨mgL U b,SL,by rw [show (Mj a b).2 = a.2 from if_neg (by rw [h2]; simp)]; exact hM1,rfl⟩
 rintro L U3 ⟨hM2,rfl⟩;refine G2 ?_;refine O1 (A5 hM2.a ldC rfl rfl) (O1 (E3 (cs' := eC (Mj a b)) hM2.r ldC rfl rfl rfl rfl) ?_);refine G2 ?_
 exact ⟨_,Bj (vs := eC (Mj a b)) (v := .agg (eC (Mj a b))) (ldC (t := 136)) rfl (by simp only [Sto.cells]; rw [a_,if_pos rfl]) rfl rfl,_,U,as_ hw ⟨by rw [Ac,hM2.n]; omega,fun b hb => by rw [a_,if_neg Om]; exact hM2.lo b hb⟩,nl,.same rfl,rfl,rfl⟩
theorem Sx.wfsC {X : Sd} {U : Sto} {par : List Nat} {known : List Kc} (h : Sx X U par known) (hw : WFS U) (known' : List Kc) : WFS (X.setC U known') := by
 refine hw.setC h.k ?_;have := (hw X.c _ h.k).2.1;have : AV.unds (nx U) (known.flatMap eC ++ X.tc) = true := this;rw [Ht,af_] at this;rw [Ht,und_C,this.2]; rfl
theorem Vt {D : Nat -> Ah} {a : Nat} : ∀ (k : Nat) (par : List Nat) (n r : Nat),UF D par -> Ch par n r k -> par[a]? = some a -> (Gz k par n).2[a]? = some a
 | 0,par,n,r,_,_,ha => ha
 | k + 1,par,n,r,hU,h,ha => by
  obtain ⟨p,hn⟩ := A6 h.lt1
  by_cases hp : p = n
  ·subst hp;rw [Aau hn]; exact ha
  ·obtain ⟨g1,_⟩ := hU.st n p hn;obtain ⟨q,hq⟩ := A6 g1;simp only [Gz,hn,if_neg hp,hq];refine Vt k _ q r (hU.halve hn hq hp) (h.next hn hq hp) ?_;rw [cx_ (fun hh => hp ?_)]
   ·exact ha
   ·subst hh; rw [hn] at ha; cases ha; rfl
theorem Aho {D : Nat -> Ah} {par : List Nat} {n m : Nat} (h : Rq D par n (Am par n)) (hm : m < (Am par n).2.length) : (Am (Am par n).2 m).2[(Am par n).1]? = some (Am par n).1 := by
 obtain ⟨r,k,hc⟩ := h.uf.ch m hm;have he : ∃ k r,Ch (Am par n).2 m r k := ⟨k,r,hc⟩
 have key : ∀ pp : List Nat,(∃ k r,Ch pp m r k) -> UF D pp -> ∀ a : Nat,pp[a]? = some a -> (Am pp m).2[a]? = some a := by
  intro pp he hu a ha;unfold Am;rw [dif_pos he];obtain ⟨r',h'⟩ := he.choose_spec;exact Vt _ pp m r' hu h' ha
 exact key _ he h.uf _ h.rt
theorem f107 (X : Sd) (D : Nat -> Ah) {par : List Nat} {known : List Kc} (a b : Nat) {U : Sto} (h : Sx X U par known) (hU : UF D par) (hK : KI D X.nodes X.works known) (hal : a < par.length) (hbl : b < par.length) (hD : D a = D b) :
  Ao Ew 107 [.pr X.A 6,nV a,nV b,.fn (.func 108) [] []] U fun _ U' => ∃ par' known',Sx X U' par' known' /\ nx U' = nx U /\ (∀ c,c ≠ X.p -> c ≠ X.c -> U'.get c = U.get c) /\ UF D par' /\ KI D X.nodes X.works known' /\ par'.length = par.length := by
 refine An Tryz.func107 rfl rfl fun hw hu0 => ?_
 have hr1 := Do hU hal;have hS1 : Sx X (X.setP U (Am par a).2) (Am par a).2 known := h.setP hr1.len;have hr2 := Do hr1.uf (hr1.len.symm ▸ hbl);have hS2 : Sx X (X.setP (X.setP U (Am par a).2) (Am (Am par a).2 b).2) (Am (Am par a).2 b).2 known := hS1.setP hr2.len;refine G4 ?_;refine Ag rfl rfl rfl rfl (f71 X D a h hU hal) ?_;refine G2 ?_;refine Ag rfl rfl rfl rfl (f71 X D b hS1 hr1.uf (hr1.len.symm ▸ hbl)) ?_;refine G3 ?_;have hw2 := hS1.wfs (h.wfs hw (Am par a).2) (Am (Am par a).2 b).2
 have hn2 : nx (X.setP (X.setP U (Am par a).2) (Am (Am par a).2 b).2) = nx U := by rw [B2,B2]
 have nk : ∀ c,c ≠ X.p -> (X.setP (X.setP U (Am par a).2) (Am (Am par a).2 b).2).get c = U.get c := fun c hc => by rw [Bc,if_neg hc,Bc,if_neg hc]
 have hl2 := hr2.len.trans hr1.len;have hU2 := hr2.uf;have hrb := hr2.rt
 have hrD : D (Am par a).1 = D (Am (Am par a).2 b).1 := by rw [hr1.d,hr2.d,hD]
 have hr1l := hr1.lt;have hr2l := hr2.lt;have qd := Aho hr1 (hr1.len.symm ▸ hbl)
 generalize (X.setP (X.setP U (Am par a).2) (Am (Am par a).2 b).2) = U2 at *
 generalize (Am (Am par a).2 b).2 = p2 at *
 generalize (Am (Am par a).2 b).1 = rb at *
 generalize (Am par a).1 = ra at *
 have hr1l : ra < p2.length := hl2.symm ▸ hr1l;have hr2l : rb < p2.length := (aa_.1 hrb).1;have hkl := hS2.kl;obtain ⟨ca,hka⟩ := A6 (hkl.symm ▸ hr1l);obtain ⟨cb,hkb⟩ := A6 (hkl.symm ▸ hr2l);have hra : p2[ra]? = some ra := qd;have hDD := hrD;have hr1k : ra < known.length := hkl.symm ▸ hr1l;refine G6 ?_;refine Ab rfl ?_ ?_ <;> intro h1
 ·have qb : ¬ (ra : Int) = (rb : Int) := by simpa using h1
  have hne : ra ≠ rb := by omega
  refine G5 ?_;refine O1 (A5 hS2.c ldC rfl rfl) ?_;refine G2 ?_;refine O1 (Cj elC rfl rfl hr2l) (O1 (Rf (u := ra) E4 ldC rfl rfl rfl hS2.p hr2l) ?_);refine G ?_;have hS3 : Sx X (X.setP U2 (p2.set rb ra)) (p2.set rb ra) known := hS2.setP (bz_ ..);refine XX 1 (l := [(108,[.agg (eC ca),.agg (eC cb)],X.setP U2 (p2.set rb ra),.agg (eC (Mj ca cb)),X.setP U2 (p2.set rb ra))]) ⟨f108 ca cb _,trivial⟩ ?_;refine G3 ?_;refine DF (A5 hS3.c ldC rfl rfl) ?_;refine G5 ?_;refine DF (A5 hS3.c ldC rfl rfl) ?_;refine G ?_
  refine DF (Cj elC rfl rfl (by rw [bz_]; exact hr1l)) ?_
  refine DF (Jn Nj ldC rfl hS3.k hka fun _ => rfl) ?_
  refine G3 ?_;refine DF (A5 hS3.c ldC rfl rfl) ?_;refine G ?_
  refine DF (Cj elC rfl rfl (by rw [bz_]; exact hr2l)) ?_
  refine DF (Jn Nj ldC rfl hS3.k hkb fun _ => rfl) ?_
  refine G ?_
  refine DF (Cj elC rfl rfl (by rw [bz_]; exact hr1l)) ?_
  refine DT (Rf (u := Mj ca cb) Nj ldC rfl rfl rfl hS3.k hr1k) ?_;refine G ?_
  refine ⟨(by intro e he; simp at he; rcases he with rfl | rfl <;> exact .refl),?_⟩
  have hS4 : Sx X (X.setC (X.setP U2 (p2.set rb ra)) (known.set ra (Mj ca cb))) (p2.set rb ra) (known.set ra (Mj ca cb)) := hS3.setC (bz_ ..);have hw4 : WFS (X.setC (X.setP U2 (p2.set rb ra)) (known.set ra (Mj ca cb))) := hS3.wfsC (hS2.wfs hw2 _) _
  exact ⟨_,rfl,_,_,ag_ hw4 nl (fun _ _ => rfl),by rw [Alq,B2,hn2]; exact nl,.same rfl,⟨_,_,hS4,by rw [Alq,B2]; exact hn2,fun c h1 h2 => by rw [Tx,if_neg h2,Bc,if_neg h1]; exact nk c h1,hU2.join hra hrb hne hDD,hK.join hka hkb hDD,by rw [bz_]; exact hl2⟩⟩
 ·skip
  refine G ?_
  exact ⟨_,rfl,_,_,ag_ hw2 nl (fun _ _ => rfl),by rw [hn2]; exact nl,.same rfl,⟨_,_,hS2,hn2,fun c h1 h2 => nk c h1,hU2,hK,hl2⟩⟩
end
section
open Go Go.Proofs
theorem f72a (X : Sd) {par : List Nat} {known : List Kc} (r : Nat) {U : Sto} (h : Sx X U par known) {c : Kc} {j w : Nat} {x : Nd} (hcr : known[r]? = some c) (h1n : c.1 < 0) (hc2 : c.2 = .ofNat j) (hj : X.works[j]? = some w) (hx : X.nodes[w]? = some x) : Ao Ew 72 [.pr X.A 0,nV r] U fun v U' => v = Ap (.node x.lab []) /\ U' = X.setP U par := by
 obtain ⟨c1,c2⟩ := c;have hc2 : c2 = .ofNat j := hc2;subst hc2;have hrl : r < par.length := h.kl ▸ (aa_.1 hcr).1;refine An Tryz.func72 rfl rfl fun hw hu0 => ?_
 refine G2 ?_;refine O1 (Cn (n := nx U) ziC rfl) ?_;refine G ?_;have hAl := (hw _ _ h.c).1;have hPl := (hw _ _ h.p).1;have hCl := (hw _ _ h.k).1
 have hS1 : Sx X (U.new (.cells [.str [],.nil (.slice none 0 0)])) par known := h.of_get (by rw [ab_,if_neg Om]) (by rw [ab_,if_neg Om]) (by rw [ab_,if_neg Om])
 have h4 : (U.new (.cells [.str [],.nil (.slice none 0 0)])).get (nx U) = some (.cells [.str [],.nil (.slice none 0 0)]) := by rw [ab_,if_pos rfl]
 refine G4 ?_;refine Ag rfl rfl rfl rfl (Asl X r hS1 hcr h1n) ?_;refine G12 ?_;refine Ab rfl ?_ ?_ <;> intro h1
 ·skip
  refine G ?_;refine XS (l := []) trivial ?_;refine G3 ?_;refine DF (A5 hS1.c ldC rfl rfl) ?_;refine G3 ?_;refine DF (A5 hS1.c ldC rfl rfl) ?_;refine G4 ?_;refine DF (A5 hS1.c ldC rfl rfl) ?_;refine G ?_;refine DF (Cj elC rfl rfl hrl) ?_;refine G ?_;refine DF (Gj (k := 1) Nj hS1.k hcr ldC rfl rfl fun _ => rfl) ?_
  refine DF (Ax elC E4 rfl rfl hj) ?_;refine G ?_;refine DF (Ax elC Gl rfl rfl hx) ?_;refine G3 ?_;refine DT (E3 (cs' := [sV x.lab,.nil (.slice none 0 0)]) h4 ldC rfl rfl rfl rfl) ?_;refine G2 ?_
  obtain ⟨z1,z2⟩ := endP (τ := (U.new (.cells [.str [],.nil (.slice none 0 0)])).set (nx U) (.cells [sV x.lab,.nil (.slice none 0 0)])) hw h rfl (hS1.of_get (by rw [a_,if_neg Om]) (by rw [a_,if_neg Om]) (by rw [a_,if_neg Om])) (by rw [Ac,Af]; omega) fun b hb _ => by rw [a_,if_neg Om,ab_,if_neg Om]
  exact ⟨_,Bj (vs := [sV x.lab,.nil (.slice none 0 0)]) (v := .agg [sV x.lab,.nil (.slice none 0 0)]) (ldC (t := 28)) rfl (by simp only [Sto.cells]; rw [a_,if_pos rfl]) rfl rfl,.agg [sV x.lab,slV eT 2 []],_,z1,z2,.agg (.cons (.same rfl) (.cons (.nils (fun q hq => by cases hq)) .nil)),by rw [Ep],rfl⟩
 ·exact absurd h1 (by simp)
def VlS (X : Sd) (U : Sto) (par : List Nat) (known : List Kc) (lab : Str) (f : List Nat -> Nat -> Ah × List Nat) (ks : List Nat) (i : Nat) (U0 : Sto) (D : Nat -> Ah) : Prop :=
 ∃ ts vp pa,ts.length = i /\ U0.get (nx U + 1) = some (.cells [sV lab,vp]) /\ Own U0 (nx U + 2) eT 2 ts vp /\ U0.get (nx U) = some (.cells [.str [],.nil (.slice none 0 0)]) /\ Sx X U0 pa known /\ (∀ b,b < nx U -> b ≠ X.p -> U0.get b = U.get b) /\ nx U + 2 <= nx U0 /\ UF D pa /\ pa.length = par.length /\ (Hz f ks par).1 = ts ++ (Hz f (ks.drop i) pa).1 /\ (Hz f ks par).2 = (Hz f (ks.drop i) pa).2
theorem f72b (X : Sd) (D : Nat -> Ah) (s : List Sb) {par : List Nat} {known : List Kc} (r : Nat) {U : Sto} (h : Sx X U par known) (hU : UF D par) {c : Kc} {p : Nat} {x : Nd} (f : List Nat -> Nat -> Ah × List Nat) (hcr : known[r]? = some c) (hcp : c.1 = .ofNat p) (hx : X.nodes[p]? = some x) (hkl : ∀ k ∈ x.kids,k < par.length) (hkm : x.kids.length <= 1000000)
  (ih : ∀ k ∈ x.kids,∀ par' r' U',Sx X U' par' known -> UF D par' -> par'.length = par.length -> r' < par.length -> D r' = D k -> Ahm s D par' r' (f par' r') /\ Ao Ew 72 [.pr X.A 0,nV r'] U' fun v τ => v = Ap (f par' r').1 /\ τ = X.setP U' (f par' r').2) :
  Ao Ew 72 [.pr X.A 0,nV r] U fun v U' => v = Ap (.node x.lab (Hz f x.kids par).1) /\ U' = X.setP U (Hz f x.kids par).2 := by
 refine An Tryz.func72 rfl rfl fun hw hu0 => ?_
 refine G2 ?_;refine O1 (Cn (n := nx U) ziC rfl) ?_;refine G ?_;have hAl := (hw _ _ h.c).1;have hPl := (hw _ _ h.p).1;have hCl := (hw _ _ h.k).1
 have hS1 : Sx X (U.new (.cells [.str [],.nil (.slice none 0 0)])) par known := h.of_get (by rw [ab_,if_neg Om]) (by rw [ab_,if_neg Om]) (by rw [ab_,if_neg Om])
 have h4 : (U.new (.cells [.str [],.nil (.slice none 0 0)])).get (nx U) = some (.cells [.str [],.nil (.slice none 0 0)]) := by rw [ab_,if_pos rfl]
 refine G4 ?_;refine Ag rfl rfl rfl rfl (Asm X r hS1 hcr hcp hx) ?_;refine G12 ?_;refine Ab rfl ?_ ?_ <;> intro h1
 ·exact absurd h1 (by simp)
 ·skip
  refine G6 ?_
  refine O1 (Cn (n := nx U + 1) ziC (Af _ _)) (O1 (E3 (cs := [.str [],.nil (.slice none 0 0)]) (cs' := [sV x.lab,.nil (.slice none 0 0)]) (by rw [ab_,if_pos (by rw [Af])]) ldC rfl rfl rfl rfl) ?_)
  refine G10 ?_
  refine Bq x.kids.length (fun i0 => [(0,.pr X.A 0),(4,.pr (nx U) 0),(7,.pr (nx U + 1) 0),(45,slV eW 1 x.kids),(46,iV (.ofNat x.kids.length)),(47,iV (.ofNat i0))]) (fun i0 U0 => VlS X U par known x.lab f x.kids i0 U0 D) SL ⟨[],.nil (.slice none 0 0),par,rfl,by rw [a_,if_pos rfl],.nil,by rw [a_,if_neg Om,ab_,if_neg (by rw [Af]; omega)]; exact h4,h.of_get (by rw [a_,if_neg Om,ab_,if_neg (by rw [Af]; omega),ab_,if_neg Om]) (by rw [a_,if_neg Om,ab_,if_neg (by rw [Af]; omega),ab_,if_neg Om]) (by rw [a_,if_neg Om,ab_,if_neg (by rw [Af]; omega),ab_,if_neg Om]),fun b hb _ => by rw [a_,if_neg Om,ab_,if_neg (by rw [Af]; omega),ab_,if_neg Om],by rw [Ac,Af,Af]; exact nl,hU,rfl,by rw [du_,bg_],by rw [du_]⟩ ?_
  rintro i0 U0 hi0 ⟨ts,vp,pa,htl,h8,bp,h20,hS0,hg0,hn0,hU0,hl0,hf1,hf2⟩;refine G5 ?_;refine Ab rfl ?_ ?_ <;> intro h2
  ·have bc : i0 < x.kids.length := by simpa using h2
   obtain ⟨a0,ha0⟩ := A6 bc;have hd0 := Ay ha0;have ham := ae_ ha0;have hr0 := Do hU0 (hl0.symm ▸ hkl a0 ham);have hS0a : Sx X (X.setP U0 (Am pa a0).2) (Am pa a0).2 known := hS0.setP hr0.len;obtain ⟨hv,hcl⟩ := ih a0 ham (Am pa a0).2 (Am pa a0).1 (X.setP U0 (Am pa a0).2) hS0a hr0.uf (hr0.len.trans hl0) (hl0 ▸ hr0.lt) hr0.d;rw [hd0,Hz] at hf1 hf2;have c71 := f71 X D a0 hS0 hU0 (hl0.symm ▸ hkl a0 ham);have hp1l : (Am pa a0).2.length = par.length := hr0.len.trans hl0;clear hr0
   generalize (Am pa a0).1 = ra at *
   generalize (Am pa a0).2 = p1 at *
   have hS0b : Sx X (X.setP (X.setP U0 p1) (f p1 ra).2) (f p1 ra).2 known := hS0a.setP hv.len;have hvu := hv.uf;have hvl := hv.len;clear hv
   generalize (f p1 ra).1 = t1 at *
   generalize (f p1 ra).2 = p2 at *
   have im : nx U + 1 ≠ X.p := by omega
   have h8a : (X.setP U0 p1).get (nx U + 1) = some (.cells [sV x.lab,vp]) := by rw [Bc,if_neg im]; exact h8
   have h8b : (X.setP (X.setP U0 p1) p2).get (nx U + 1) = some (.cells [sV x.lab,vp]) := by rw [Bc,if_neg im]; exact h8a
   have nq : Own (X.setP (X.setP U0 p1) p2) (nx U + 2) eT 2 ts vp := bp.of_get (by rw [B2,B2]; exact nl) fun c hc => by rw [Bc,if_neg (by have := (bp.adr_lt hc).1; omega),Bc,if_neg (by have := (bp.adr_lt hc).1; omega)]
   have bz : (ts.length + 1) * (40 + 1) <= sizeLim := by rw [htl]; simp only [sizeLim]; omega
   have hn2 : nx (X.setP (X.setP U0 p1) p2) = nx U0 := by rw [B2,B2]
   have hgb : ∀ b,b < nx U -> b ≠ X.p -> (X.setP (X.setP U0 p1) p2).get b = U.get b := fun b hb hbp => by rw [Bc,if_neg hbp,Bc,if_neg hbp]; exact hg0 b hb hbp
   have h20b : (X.setP (X.setP U0 p1) p2).get (nx U) = some (.cells [.str [],.nil (.slice none 0 0)]) := by rw [Bc,if_neg Om,Bc,if_neg Om]; exact h20
   obtain ⟨τ3,hap,hn3,ho3,hg3⟩ := ff_ (by' := 40) eT_len (by rw [hn2]; exact hn0) nq t1 bz
   obtain ⟨la,ka,he⟩ := Ae2 t1
   have fj : ∀ b,b < nx U + 2 -> adr vp ≠ some b := fun b hb hh => by have := (bp.adr_lt hh).1; omega
   have h8t : τ3.get (nx U + 1) = some (.cells [sV x.lab,vp]) := (hg3 _ Om (fj _ Om)).trans h8b;refine G5 ?_;refine O1 (Ax elC E4 rfl rfl ha0) ?_;refine G3 ?_
   refine Rc (Rr := Dl [(71,[.pr X.A 6,nV a0],U0,nV ra,X.setP U0 p1),(72,[.pr X.A 0,nV ra],X.setP U0 p1,.agg [sV la,slV eT 2 ka],X.setP (X.setP U0 p1) p2)]) (anns := [⟨.pure,0,2⟩,⟨.read,0,2⟩,⟨.pure,0,1⟩,⟨.pure,0,0⟩,⟨.pure,0,0⟩,⟨.pure,0,0⟩,⟨.pure,0,0⟩,⟨.eff,0,1⟩,⟨.eff,1,2⟩,⟨.pure,2,2⟩,⟨.eff,2,3⟩,⟨.pure,3,3⟩,⟨.eff,3,4⟩]) E8 (Da ⟨c71,by rw [← he]; exact hcl,trivial⟩) Kr ?_
   refine G ?_;refine DF (A5 h8 ldC rfl rfl) ?_;refine G6 ?_
   refine DT (Bg rfl rfl (B5 (by decide) Bo)) ?_
   refine DF (As elC byW rfl rfl rfl) (DT (A3 elC rfl slC rfl rfl rfl (new := eT t1) (by rw [he]; rfl) hap) ?_)
   refine G ?_;refine DT (E3 (cs' := [sV x.lab,.sr (nx (X.setP (X.setP U0 p1) p2)) 0 2 (ts.length + 1) none]) h8t ldC rfl rfl rfl rfl) ?_;refine G ?_
   refine ⟨⟨trivial,(fun s hs => by simp at hs; rcases hs with rfl | rfl | rfl; exact ⟨_,A5 h8 (ldC (t := 26)) rfl rfl⟩; exact ⟨_,A5 h8a (ldC (t := 26)) rfl rfl⟩; exact ⟨_,A5 h8b (ldC (t := 26)) rfl rfl⟩),trivial,trivial,trivial,trivial,trivial,trivial,trivial,trivial,trivial,trivial,trivial,trivial⟩,?_⟩
   refine G4 ?_
   refine ⟨bc,SL,ts ++ [t1],.sr (nx (X.setP (X.setP U0 p1) p2)) 0 2 (ts.length + 1) none,p2,by rw [ao_,htl]; rfl,by rw [a_,if_pos rfl],ho3.of_get (by rw [Ac]; exact nl) (fun b hb => by rw [a_,if_neg (by have := (ho3.adr_lt hb).1; omega)]),by rw [a_,if_neg Om,hg3 _ Om (fj _ Om)]; exact h20b,hS0b.of_get (by rw [a_,if_neg Om]; exact hg3 _ Om (fj _ Om)) (by rw [a_,if_neg Om]; exact hg3 _ Om (fj _ Om)) (by rw [a_,if_neg Om]; exact hg3 _ Om (fj _ Om)),fun b hb hbp => by rw [a_,if_neg Om,hg3 _ Om (fj _ Om)]; exact hgb b hb hbp,by rw [Ac,hn3,hn2]; omega,hvu,hvl.trans hp1l,by rw [hf1,cc_]; rfl,hf2⟩
  ·have bk : x.kids.length <= i0 := by simpa using h2
   rw [ah_ bk] at hf1 hf2
   have hf1 : (Hz f x.kids par).1 = ts := by rw [hf1,Hz,bi_]
   have hf2 : (Hz f x.kids par).2 = pa := by rw [hf2,Hz]
   refine G3 ?_;refine O1 (A5 h8 ldC rfl rfl) (O1 (E3 (cs' := [sV x.lab,vp]) h20 ldC rfl rfl rfl rfl) ?_);refine G ?_
   obtain ⟨z1,z2⟩ := endP (τ := U0.set (nx U) (.cells [sV x.lab,vp])) hw h hl0 (hS0.of_get (by rw [a_,if_neg Om]) (by rw [a_,if_neg Om]) (by rw [a_,if_neg Om])) (by rw [Ac]; omega) fun b hb hbp => by rw [a_,if_neg Om]; exact hg0 b hb hbp
   rw [hf1,hf2];refine G ?_
   exact ⟨[.agg [sV x.lab,vp]],Bj (ldC (t := 28)) rfl (by simp only [Sto.cells]; rw [a_,if_pos rfl]) rfl rfl,.agg [sV x.lab,slV eT 2 ts],_,z1,z2,.agg (.cons (.same rfl) (.cons ((bp.of_get (by rw [Ac]; exact nl) (fun b hb => by rw [a_,if_neg (by have := (bp.adr_lt hb).1; omega)])).fzA eT_len (fun b hb => (h.wfs hw pa).none (by rw [B2]; have := (bp.adr_lt hb).1; omega)) (Bi Gh _)) .nil)),by rw [Ep],rfl⟩
theorem f72 (X : Sd) (D : Nat -> Ah) (s : List Sb) {known : List Kc} (hs : No s) (hN : NI s D X.nodes) (hK : KI D X.nodes X.works known) : ∀ (k : Nat) (par : List Nat) (r : Nat) (U : Sto),Sx X U par known -> UF D par -> par.length = X.nodes.length -> r < par.length -> Av (D r) <= k -> k <= 1000000 ->
  Ahm s D par r (Rs X.nodes X.works known k par r) /\ Ao Ew 72 [.pr X.A 0,nV r] U fun v U' => v = Ap (Rs X.nodes X.works known k par r).1 /\ U' = X.setP U (Rs X.nodes X.works known k par r).2
 | 0,par,r,U,_,_,_,_,hc,_ => by have := La (D r); omega
 | k + 1,par,r,U,h,hU,hl,hr,hc,hk => by
  refine ⟨Ap1 hs hN hK (k + 1) par r hU hl hr hc,?_⟩
  obtain ⟨c,hcr⟩ := A6 (show r < known.length by rw [hK.len,← hl]; exact hr)
  unfold Rs;simp only [hcr]
  by_cases h1 : c.1 < 0
  ·rw [if_pos h1]
   obtain ⟨j,w,x,g1,g2,g3,g4,g5⟩ := hK.fst r c hcr (by have := hK.one r c hcr; omega)
   have e : Adn X.nodes X.works c.2 = x.lab := by
    unfold Adn;rw [g1]
    show (match X.works[j]? with | some w => (match X.nodes[w]? with | some x => x.lab | none => []) | none => []) = _
    simp only [g2,g3]
   rw [e];exact f72a X r h hcr h1 g1 g2 g3
  ·rw [if_neg h1];obtain ⟨p,x,g1,g2,g3,g4⟩ := hK.sol r c hcr Om
   have e : c.1.toNat = p := by rw [g1]; rfl
   simp only [e,g2];have fg := hN.solid hs g2 g3;have hpl : p < X.nodes.length := (aa_.1 g2).1
   refine f72b X D s r h hU (Rs X.nodes X.works known k) hcr g1 g2 (fun j hj => by have := hN.kid p x g2 j hj; omega) ?_ fun j hj par' r' U' h1 h2 h3 h4 h5 => f72 X D s hs hN hK k par' r' U' h1 h2 (h3.trans hl) Om ?_ Om
   ·have h9 := Ed (x.kids.map D);rw [bs_] at h9;rw [← g4,fg,Av] at hc;omega
   ·have := Ae9 (l := x.lab) (D := D) hj;rw [← fg,g4] at this;rw [h5]; omega
end
section
open Go Go.Proofs
def eP2 (p : Nat × Nat) : List AV := [nV p.1,nV p.2]
theorem Ef (p : Nat × Nat) : (eP2 p).length = 2 := rfl
def Mk (U : Sto) {α : Type} (enc : α -> List AV) (sz : Nat) (l : List α) (v : AV) : Prop :=
 (l = [] /\ v = .nil (.slice none 0 0)) ∨ ∃ a off vs tl,a < nx U /\ v = .sr a off sz l.length none /\ U.get a = some (.cells vs) /\ vs.drop off = l.flatMap enc ++ tl
section
variable {E : Env} {J : Ae} {U U' : Sto} {Rr : Rec} {t ty a i k N off sz sz0 by' : Nat} {x y : Operand} {agg : Bool} {vs tl : List AV} {v w : AV} {α : Type} {enc : α -> List AV} {l : List α} {e : α}
theorem Own.toO (h : Own U N enc sz l v) (hne : l ≠ []) : Mk U enc sz l v := by
 rcases h with ⟨h,_⟩ | ⟨a,tl,h1,h2,h3,h4⟩
 ·exact absurd h hne
 ·exact .inr ⟨a,0,_,tl,h2,h3,h4,rfl⟩
theorem Mk.lenA (h : Mk U enc sz l v) : AM.lenA v = some l.length /\ Yb v = true := by
 rcases h with ⟨rfl,rfl⟩ | ⟨a,off,vs,tl,_,rfl,_⟩ <;> exact ⟨rfl,rfl⟩
theorem Mk.sr (h : Mk U enc sz l v) (hi : i < l.length) : ∃ a off vs tl,a < nx U /\ v = .sr a off sz l.length none /\ U.get a = some (.cells vs) /\ vs.drop off = l.flatMap enc ++ tl := by
 rcases h with ⟨rfl,_⟩ | h
 ·exact absurd hi (fe_ _)
 ·exact h
theorem Mk.of_get (h : Mk U enc sz l v) (hn : nx U <= nx U') (hg : ∀ a,adr v = some a -> U'.get a = U.get a) : Mk U' enc sz l v := by
 rcases h with h | ⟨a,off,vs,tl,h1,h2,h3,h4⟩
 ·exact .inl h
 ·exact .inr ⟨a,off,vs,tl,by omega,h2,(hg a (by rw [h2]; rfl)).trans h3,h4⟩
theorem Aav (he : ∀ a,(enc a).length = sz0) (hg : U.get a = some (.cells vs)) (hd : vs.drop off = l.flatMap enc ++ tl) (hu : l[i]? = some e) (hi : ldI E.P t = some (sz,agg)) (hx : Ak E J x = some (.pr a (off + i * sz0 + k))) (hk : Nat.ble k sz0 = true) (hv : ∀ r,Jc sz agg ((enc e).drop k ++ r) = some v) : A0 E Rr (.load t x) J U v U := by
 refine A5 hg hi hx ?_;have hil := (aa_.1 hu).1
 have h0 : i * sz0 <= (l.flatMap enc).length := by rw [Dd he]; exact dk_ _ (ef_ hil)
 have hk := aj_ hk
 rw [← dh_,← dh_,hd,cm_ h0,Xv he hu,cc_,cm_ (by rw [he]; exact hk)]
 exact hv _
theorem Att {zz : Option (List AV)} (hel : elI E.P t = some (sz,by',zz)) (hx : Ak E J x = some (.sr a off sz (k + 1) none)) :
  A0 E Rr (.slice t x (some (.const (.int .i64 1))) none none) J U (.sr a (off + 1 * sz) sz k none) U := fun tm h => by
 obtain ⟨ti,e,te,k1,k2,k3,k4,k5,k6⟩ := Od hel;subst k4
 have hbd : Ci (k + 1) none (some (.int .i64 (.ofNat 1))) none none = some (1,k + 1,none) := by
  have h2 : Nat.ble 1 (k + 1) = true := ap_ Om;have h3 : Nat.ble (k + 1) (k + 1) = true := ap_ nl;simp only [Ci,Ik,h2,Lf,h3,cond_true,cl_,Il]
 have e0 : opdO E tm none = none := rfl;have e1 : opdO E tm (some (.const (.int .i64 1))) = some (.int .i64 (.ofNat 1)) := rfl;simp only [opA,Az,k1,k2,k3,h.opd hx,e1,e0,Lu,bf_,hbd,Ai]
 rfl
theorem Mk.app (he : ∀ a,(enc a).length = sz) (h : Mk U enc sz l v) (b : α) (bz : (l.length + 1) * (by' + 1) <= sizeLim) :
  ∃ U',Bm U sz by' v 1 (enc b) = some (.sr (nx U) 0 sz (l.length + 1) none,U') /\ nx U' = nx U + 1 /\ Mk U' enc sz (l ++ [b]) (.sr (nx U) 0 sz (l.length + 1) none) /\ (∀ a,a < nx U -> adr v ≠ some a -> U'.get a = U.get a) := by
 have hb : Nat.ble ((l.length + 1) * (by' + 1)) sizeLim = true := ap_ bz
 rcases h with ⟨rfl,rfl⟩ | ⟨a,off,vs,tl,h1,rfl,h3,h4⟩
 ·have hb' : Nat.ble ((0 + 1) * (by' + 1)) sizeLim = true := hb
  refine ⟨U.new (.cells (enc b)),by simp only [Bm,Ja,hb',cond_true,Ai,bg_,cs_],Af _ _,.inr ⟨nx U,0,enc b,[],by rw [Af]; omega,rfl,by rw [ab_,if_pos rfl],by simp⟩,fun c hc _ => by rw [ab_,if_neg Om]⟩
 ·have c8 : U.cells a = some vs := by unfold Sto.cells; rw [h3]
  have ck : C7 (l.length * sz) (vs.drop off) = some (l.flatMap enc) := by
   have := Fk (l := l.flatMap enc) (r := tl)
   rwa [Dd he,← h4] at this
  refine ⟨(U.kill a).new (.cells (l.flatMap enc ++ enc b)),by simp only [Bm,bf_,cond_true,c8,ck,Ja,hb,Ai,Bn],by rw [Af,Bn],.inr ⟨nx U,0,_,[],by rw [Af,Bn]; omega,by simp,by rw [ab_,Bn,if_pos rfl],by simp⟩,fun c hc hne => ?_⟩
  rw [ab_,Bn,if_neg Om,cp_,if_neg (fun hh => hne (by rw [hh]; rfl))]
end
end
section
open Go Go.Proofs
def E7 (D : Nat -> Ah) : List (Nat × Nat) -> Nat
 | [] => 0
 | q :: r => Av (D q.1) + E7 D r
theorem Ahp (D : Nat -> Ah) : ∀ l m,E7 D (l ++ m) = E7 D l + E7 D m
 | [],m => by simp [E7]
 | q :: r,m => by simp only [az_,E7,Ahp D r m]; omega
theorem Ahq (D : Nat -> Ah) : ∀ l,l.length <= E7 D l
 | [] => nl
 | q :: r => by have := Ahq D r; have := La (D q.1); simp only [at_,E7]; omega
theorem Ahr (D : Nat -> Ah) : ∀ {l m : List Nat},l.length = m.length -> E7 D (l.zip m) = By (l.map D)
 | [],[],_ => by simp [E7,By]
 | a :: l,b :: m,h => by simp only [fx_,ck_,E7,By,Ahr D (l := l) (m := m) (by simpa using h)]
 | [],_ :: _,h => by cases h
 | _ :: _,[],h => by cases h
theorem Asn {D : Nat -> Ah} : ∀ {l m : List Nat},l.map D = m.map D -> ∀ q ∈ l.zip m,q.1 ∈ l /\ q.2 ∈ m /\ D q.1 = D q.2
 | [],_,_,q,hq => by simp at hq
 | a :: l,[],h,q,hq => by simp at hq
 | a :: l,b :: m,h,q,hq => by
  simp only [ck_,cq_] at h;simp only [fx_,aq_] at hq
  rcases hq with rfl | hq
  ·exact ⟨ar_ ..,ar_ ..,h.1⟩
  ·obtain ⟨h1,h2,h3⟩ := Asn h.2 q hq;exact ⟨ak_ _ h1,ak_ _ h2,h3⟩
theorem Ap4 : ∀ {l m : List Nat},l.flatMap eW = m.flatMap eW -> l = m
 | [],[],_ => rfl
 | [],_ :: _,h => by simp [eW] at h
 | _ :: _,[],h => by simp [eW] at h
 | a :: l,b :: m,h => by
  simp only [ca_,eW,az_,bg_,cq_,iV,AV.int.injEq,true_and] at h;rw [di_ h.1,Ap4 h.2]
theorem Ado {f f' : Nat} {a a' : List AV} {s s' t : Sto} {v : AV} {r : List (Nat × List AV × Sto × AV × Sto)} {o : Option (AV × Sto)} (h : (f' = f /\ a' = a /\ t = s) -> o = some (v,s')) (k : Dl r f' a' t = o) : Dl ((f,a,s,v,s') :: r) f' a' t = o := by
 simp only [Dl]
 split
 ·rename_i hh; exact (h hh).symm
 ·exact k
structure UnL (X : Sd) (U : Sto) (v : AV) (τ : Sto) (ps : List (Nat × Nat)) (v0 : AV) (pa : List Nat) (kn : List Kc) : Prop where
 s : Sx X τ pa kn
 n : nx U <= nx τ
 o : Mk τ eP2 2 ps v0
 a : adr v0 ≠ some X.A
 p : adr v0 ≠ some X.p
 c : adr v0 ≠ some X.c
 f : ∀ b,b < nx U -> b ≠ X.p -> b ≠ X.c -> adr v ≠ some b -> τ.get b = U.get b
 d : ∀ b,adr v0 = some b -> adr v = some b ∨ nx U <= b
structure UnS (X : Sd) (D : Nat -> Ah) (U : Sto) (v : AV) (par : List Nat) (τ : Sto) (ps : List (Nat × Nat)) (v0 : AV) (pa : List Nat) (kn : List Kc) : Prop where
 s : Sx X τ pa kn
 n : nx U <= nx τ
 o : Mk τ eP2 2 ps v0
 a : adr v0 ≠ some X.A
 p : adr v0 ≠ some X.p
 c : adr v0 ≠ some X.c
 f : ∀ b,b < nx U -> b ≠ X.p -> b ≠ X.c -> adr v ≠ some b -> τ.get b = U.get b
 d : ∀ b,adr v0 = some b -> adr v = some b ∨ nx U <= b
 uf : UF D pa
 ki : KI D X.nodes X.works kn
 l : pa.length = par.length
 q : ∀ q ∈ ps,q.1 < par.length /\ q.2 < par.length /\ D q.1 = D q.2
 z : E7 D ps <= 1000000
theorem f69 (X : Sd) (D : Nat -> Ah) (sq0 : List Sb) (hs : No sq0) (hN : NI sq0 D X.nodes) {par : List Nat} {known : List Kc} (ps : List (Nat × Nat)) (v : AV) {U : Sto} (h : Sx X U par known) (hU : UF D par) (hK : KI D X.nodes X.works known) (hl : par.length = X.nodes.length)
  (hv : Mk U eP2 2 ps v) (hvA : adr v ≠ some X.A) (hvp : adr v ≠ some X.p) (hvc : adr v ≠ some X.c) (hps : ∀ q ∈ ps,q.1 < par.length /\ q.2 < par.length /\ D q.1 = D q.2) (hsz : E7 D ps <= 1000000) :
  Ao Ew 69 [.pr X.A 0,v] U fun u U' => u = .bool true /\ ∃ par' known',Sx X U' par' known' /\ nx U <= nx U' /\ (∀ b,b < nx U -> b ≠ X.p -> b ≠ X.c -> adr v ≠ some b -> U'.get b = U.get b) /\ UF D par' /\ KI D X.nodes X.works known' /\ par'.length = par.length := by
 refine An Tryz.func69 rfl rfl fun hw hu0 => ?_
 have hAl := (hw _ _ h.c).1;have hPl := (hw _ _ h.p).1;have hCl := (hw _ _ h.k).1;refine G6 ?_;refine B3 (fun q : List (Nat × Nat) × AV × List Nat × List Kc => [(0,.pr X.A 0),(1,q.2.1)]) (fun q U0 => UnS X D U v par U0 q.1 q.2.1 q.2.2.1 q.2.2.2) (fun q => E7 D q.1) (ps,v,par,known) SL ⟨h,nl,hv,hvA,hvp,hvc,fun _ _ _ _ _ => rfl,fun b hb => .inl hb,hU,hK,rfl,hps,hsz⟩ ?_
 rintro ⟨ps0,v0,pa,kn⟩ U0 hI;obtain ⟨hS,hnx,hO,hA0,hp0,hc0,hfr,had,hU0,hK0,hl0,hq0,f7⟩ := hI;have hS : Sx X U0 pa kn := hS;have hO : Mk U0 eP2 2 ps0 v0 := hO;have hU0 : UF D pa := hU0;have hK0 : KI D X.nodes X.works kn := hK0;have hl0 : pa.length = par.length := hl0;have hA0 : adr v0 ≠ some X.A := hA0;have hp0 : adr v0 ≠ some X.p := hp0;have hc0 : adr v0 ≠ some X.c := hc0;have had : ∀ b,adr v0 = some b -> adr v = some b ∨ nx U <= b := had;have hq0 : ∀ q ∈ ps0,q.1 < par.length /\ q.2 < par.length /\ D q.1 = D q.2 := hq0;have f7 : E7 D ps0 <= 1000000 := f7;refine G4 ?_;refine O1 (B0 slC rfl hO.lenA.1 hO.lenA.2) ?_;refine G2 ?_;refine Ab rfl ?_ ?_ <;> intro h1
 ·have cv : 0 < ps0.length := by simpa using h1
  obtain ⟨⟨m,n⟩,r,rfl⟩ : ∃ q r,ps0 = q :: r := by
   cases ps0 with
   | nil => exact absurd cv (gl_ _)
   | cons q r => exact ⟨q,r,rfl⟩
  obtain ⟨pa',off,vs,tl,ha1,rfl,ha3,ha4⟩ := hO.sr cv;obtain ⟨hm,hn,hD⟩ := hq0 (m,n) (ar_ ..);have hr1 := Do hU0 (hl0.symm ▸ hm);have hS1 : Sx X (X.setP U0 (Am pa m).2) (Am pa m).2 kn := hS.setP hr1.len
  have hr2 := Do hr1.uf (show n < (Am pa m).2.length by rw [hr1.len,hl0]; exact hn)
  have hS2 : Sx X (X.setP (X.setP U0 (Am pa m).2) (Am (Am pa m).2 n).2) (Am (Am pa m).2 n).2 kn := hS1.setP hr2.len
  have hpp : pa' ≠ X.p := fun hh => hp0 (by rw [← hh]; rfl)
  have ha3b : (X.setP U0 (Am pa m).2).get pa' = some (.cells vs) := by rw [Bc,if_neg hpp]; exact ha3
  have c1 := f71 X D m hS hU0 (hl0.symm ▸ hm)
  have c2 := f71 X D n hS1 hr1.uf (show n < (Am pa m).2.length by rw [hr1.len,hl0]; exact hn)
  have ie : (71 = 71 /\ [AV.pr X.A 6,nV n] = [AV.pr X.A 6,nV m] /\ X.setP U0 (Am pa m).2 = U0) -> some (nV (Am (Am pa m).2 n).1,X.setP (X.setP U0 (Am pa m).2) (Am (Am pa m).2 n).2) = some (nV (Am pa m).1,X.setP U0 (Am pa m).2) := by
   rintro ⟨_,h8,h9⟩
   have hnm : n = m := by simp only [cq_,iV,AV.int.injEq,and_true,true_and] at h8; exact di_ h8
   have hpe : (Am pa m).2 = pa := by
    have e1 := Bc (X := X) (U := U0) (par := (Am pa m).2) (b := X.p);rw [if_pos rfl,h9,hS.p] at e1;have e2 := List.append_cancel_right (AO.cells.inj (cf_ e1));exact (Ap4 e2).symm
   rw [hnm,hpe];rw [hpe] at h9;rw [h9,hpe,h9]
  refine G3 ?_;refine Rc (Rr := Dl [(71,[.pr X.A 6,nV m],U0,nV (Am pa m).1,X.setP U0 (Am pa m).2),(71,[.pr X.A 6,nV n],X.setP U0 (Am pa m).2,nV (Am (Am pa m).2 n).1,X.setP (X.setP U0 (Am pa m).2) (Am (Am pa m).2 n).2)]) (anns := [⟨.pure,0,0⟩,⟨.pure,0,0⟩,⟨.pure,0,0⟩,⟨.pure,0,0⟩,⟨.pure,0,0⟩,⟨.pure,0,0⟩,⟨.read,0,0⟩,⟨.eff,0,1⟩,⟨.pure,0,1⟩,⟨.pure,0,1⟩,⟨.pure,0,1⟩,⟨.pure,0,1⟩,⟨.pure,0,1⟩,⟨.pure,0,1⟩,⟨.read,0,1⟩,⟨.eff,1,2⟩,⟨.pure,2,2⟩,⟨.pure,2,2⟩]) E8 (Da ⟨c1,c2,trivial⟩) Kr ?_;refine G4 ?_
  refine DF (S3 elC rfl rfl hO.lenA.1 rfl cv) (DF (Cl Jt rfl rfl (by decide) rfl) ?_)
  refine DF (Aav (i := 0) (k := 0) Ef ha3 ha4 rfl ldC rfl rfl fun _ => rfl) ?_
  refine G5 ?_
  refine DF (S3 elC rfl rfl hO.lenA.1 rfl cv) (DF (Cl Jt rfl rfl (by decide) rfl) ?_)
  refine DF (Aav (i := 0) (k := 1) Ef ha3b ha4 rfl ldC rfl rfl fun _ => rfl) ?_
  refine DT (Bg rfl rfl (Ado ie Bo)) ?_;refine G3 ?_
  refine ⟨⟨trivial,trivial,trivial,trivial,trivial,trivial,(fun s hs => by simp at hs; subst hs; exact ⟨_,Aav (i := 0) (k := 0) Ef ha3 ha4 rfl (ldC (t := 3)) rfl rfl fun _ => rfl⟩),trivial,trivial,trivial,trivial,trivial,trivial,trivial,(fun s hs => by simp at hs; rcases hs with rfl | rfl; exact ⟨_,Aav (i := 0) (k := 1) Ef ha3 ha4 rfl (ldC (t := 3)) rfl rfl fun _ => rfl⟩; exact ⟨_,Aav (i := 0) (k := 1) Ef ha3b ha4 rfl (ldC (t := 3)) rfl rfl fun _ => rfl⟩),trivial,trivial,trivial,trivial⟩,?_⟩
  have hU2 := hr2.uf;have hl2 : (Am (Am pa m).2 n).2.length = par.length := hr2.len.trans (hr1.len.trans hl0)
  have hDr : D (Am pa m).1 = D (Am (Am pa m).2 n).1 := by rw [hr1.d,hr2.d,hD]
  have hDm : D (Am pa m).1 = D m := hr1.d;have gn := hr1.lt;have fk := hr2.lt;have gn : (Am pa m).1 < par.length := hl0 ▸ gn
  have fk : (Am (Am pa m).2 n).1 < par.length := by rw [hr1.len,hl0] at fk; exact fk
  have nv : ∀ b,b ≠ X.p -> (X.setP (X.setP U0 (Am pa m).2) (Am (Am pa m).2 n).2).get b = U0.get b := fun b hb => by rw [Bc,if_neg hb,Bc,if_neg hb]
  have hn2 : nx (X.setP (X.setP U0 (Am pa m).2) (Am (Am pa m).2 n).2) = nx U0 := by rw [B2,B2]
  clear c1 c2 ie hr1 hr2 hS1 ha3b
  generalize (X.setP (X.setP U0 (Am pa m).2) (Am (Am pa m).2 n).2) = U2 at *
  generalize (Am (Am pa m).2 n).2 = p2 at *
  generalize (Am (Am pa m).2 n).1 = rb at *
  generalize (Am pa m).1 = ra at *
  have hO2 : Mk U2 eP2 2 r (.sr pa' (off + 1 * 2) 2 r.length none) := .inr ⟨pa',off + 1 * 2,vs,tl,by rw [hn2]; exact ha1,rfl,by rw [nv _ hpp]; exact ha3,by rw [← dh_,ha4]; rfl⟩
  have ii : ∀ b,b < nx U -> b ≠ X.p -> b ≠ X.c -> adr v ≠ some b -> U2.get b = U.get b := fun b h1 h2 h3 h4 => (nv b h2).trans (hfr b h1 h2 h3 h4)
  have hq2 : ∀ q ∈ r,q.1 < par.length /\ q.2 < par.length /\ D q.1 = D q.2 := fun q hq => hq0 q (ak_ _ hq)
  have hs2 : E7 D ((m,n) :: r) = Av (D m) + E7 D r := rfl;have hcm := La (D m)
  have nz : E7 D r <= 1000000 := by omega
  refine G3 ?_;refine O1 (Att elC rfl) ?_;refine G9 ?_;refine Ab rfl ?_ ?_ <;> intro h2
  ·skip
   refine G ?_
   exact ⟨(r,_,p2,kn),by show E7 D r < E7 D ((m,n) :: r); omega,SL,⟨hS2,by rw [hn2]; exact hnx,hO2,hA0,hp0,hc0,ii,had,hU2,hK0,hl2,hq2,nz⟩⟩
  ·have hkl := hS2.kl
   obtain ⟨⟨ca1,ca2⟩,hka⟩ := A6 (show ra < kn.length by rw [hkl,hl2]; exact gn)
   obtain ⟨⟨cb1,cb2⟩,hkb⟩ := A6 (show rb < kn.length by rw [hkl,hl2]; exact fk)
   refine G2 ?_;refine X0 ?_;refine G4 ?_;refine DF (A5 hS2.c ldC rfl rfl) ?_;refine G ?_;refine DF (Cj elC rfl rfl (hl2.symm ▸ gn)) ?_;refine G ?_;refine DF (Gj (k := 0) Nj hS2.k hka ldC rfl rfl fun _ => rfl) ?_
   refine G4 ?_;refine DF (A5 hS2.c ldC rfl rfl) ?_;refine G ?_;refine DF (Cj elC rfl rfl (hl2.symm ▸ fk)) ?_;refine G ?_;refine DF (Gj (k := 0) Nj hS2.k hkb ldC rfl rfl fun _ => rfl) ?_
   refine G3 ?_;refine ⟨rfl,rfl,?_⟩;refine G7 ?_;refine Bw rfl rfl rfl rfl (f107 X D ra rb hS2 hU2 hK0 (hl2.symm ▸ gn) (hl2.symm ▸ fk) hDr) ?_;rintro u9 U3 ⟨p3,kn3,hS3,hn3,hg3,hU3,hK3,hl3⟩;have hl3 : p3.length = par.length := hl3.trans hl2;have ny : ∀ b,b < nx U -> b ≠ X.p -> b ≠ X.c -> adr v ≠ some b -> U3.get b = U.get b := fun b h1 h2 h3 h4 => (hg3 b h2 h3).trans (ii b h1 h2 h3 h4)
   have hO3 : Mk U3 eP2 2 r (.sr pa' (off + 1 * 2) 2 r.length none) := hO2.of_get (by rw [hn3]; exact nl) fun b hb => hg3 b (fun hh => hp0 (by rw [← hh]; exact hb)) (fun hh => hc0 (by rw [← hh]; exact hb))
   refine G7 ?_;refine TOr 2 ?_ (fun hg => ?_) ?_
   rotate_left
   ·iterate 2 refine Gn hg ?_
    exact Ez
   refine G ?_;refine Ab rfl ?_ ?_ <;> intro h3
   ·skip
    refine G ?_
    exact ⟨(r,_,p3,kn3),by show E7 D r < E7 D ((m,n) :: r); omega,SL,⟨hS3,by rw [hn3,hn2]; exact hnx,hO3,hA0,hp0,hc0,ny,had,hU3,hK3,hl3,hq2,nz⟩⟩
   ·simp only [bt_,decide_eq_false_iff_not] at h3
    obtain ⟨pn,x,g1,g2,g3,g4⟩ := hK0.sol ra _ hka (by show 0 <= ca1; omega)
    obtain ⟨qn,y,k1,k2,k3,k4⟩ := hK0.sol rb _ hkb (by show 0 <= cb1; omega)
    have g1 : ca1 = .ofNat pn := g1;have k1 : cb1 = .ofNat qn := k1;subst g1 k1;have hDx := hN.solid hs g2 g3;have hDy := hN.solid hs k2 k3
    have hxy : Ah.node x.lab (x.kids.map D) = .node y.lab (y.kids.map D) := by rw [← hDx,← hDy,g4,k4,hDr]
    simp only [Ah.node.injEq] at hxy;obtain ⟨ju,io⟩ := hxy
    have bv : x.kids.length = y.kids.length := by simpa using congrArg List.length io
    have er : (!decide (x.lab = y.lab)) = false := by rw [ju]; simp
    have hcx : Av (D m) = 1 + By (x.kids.map D) := by rw [← hDm,← g4,hDx,Av]
    refine G2 ?_;refine Gg [(102,.bool (!decide (Int.ofNat x.kids.length = Int.ofNat y.kids.length)))] ?_ ?_
    ·refine X0 ?_;refine G3 ?_;refine DF (A5 hS3.c ldC rfl rfl) ?_;refine G ?_;refine DF (Ax elC Gl rfl rfl g2) ?_;refine G5 ?_;refine DF (A5 hS3.c ldC rfl rfl) ?_;refine G ?_;refine DF (Ax elC Gl rfl rfl k2) ?_;refine G2 ?_;refine DF (Ey okC rfl rfl) ?_;refine G4 ?_;refine Xn (A5 hS3.c ldC rfl rfl) ?_;refine G ?_;refine Xn (Ax elC Gl rfl rfl g2) ?_;refine G6 ?_;refine Xn (A5 hS3.c ldC rfl rfl) ?_;refine G ?_
     refine Wn (w := by simp [er]) (Ax elC Gl rfl rfl k2) ?_
     refine Wn (w := by simp [er]) (Aj fdC rfl rfl) ?_
     refine Wn (w := by simp [er]) (Ad ldC rfl rfl rfl) ?_
     refine Wn (w := by simp [er]) (Jm slC rfl) ?_
     refine Wn (w := by simp [er]) (Aig okC rfl rfl) ?_
     refine DF (A7 rfl (by simp [er]) rfl) ?_
     refine Dq ?_
     exact ⟨rfl,rfl,⟨⟨congrArg (fun b => some (AV.bool b)) (by simp [er]),trivial⟩,sb,rfl⟩⟩
    refine Ab rfl ?_ ?_ <;> intro h4
    ·exact absurd h4 (by rw [bv]; simp)
    ·skip
     refine G6 ?_;refine O1 (A5 hS3.c ldC rfl rfl) ?_;refine G ?_;refine O1 (Ax elC Gl rfl rfl g2) ?_;refine G6 ?_
     refine B3 (fun q : Nat × AV => [(0,.pr X.A 0),(1,q.2),(8,nV qn),(110,slV eW 1 x.kids),(111,iV (.ofNat x.kids.length)),(112,nV q.1)]) (fun q τ => q.1 <= x.kids.length /\ UnL X U v τ (r ++ (x.kids.zip y.kids).take q.1) q.2 p3 kn3) (fun q => x.kids.length - q.1) (0,.sr pa' (off + 1 * 2) 2 r.length none) SL ⟨bh_ _,hS3,by rw [hn3,hn2]; exact hnx,by rw [gx_,bi_]; exact hO3,hA0,hp0,hc0,ny,had⟩ ?_
     rintro ⟨i2,v2⟩ τ ⟨hi2,hI2⟩;obtain ⟨hT,hnT,hOT,hAT,hpT,hcT,hfT,hdT⟩ := hI2;have hT : Sx X τ p3 kn3 := hT;have hOT : Mk τ eP2 2 (r ++ (x.kids.zip y.kids).take i2) v2 := hOT;have hi2 : i2 <= x.kids.length := hi2;have hfT : ∀ b,b < nx U -> b ≠ X.p -> b ≠ X.c -> adr v ≠ some b -> τ.get b = U.get b := hfT;have hAT : adr v2 ≠ some X.A := hAT;have hpT : adr v2 ≠ some X.p := hpT;have hcT : adr v2 ≠ some X.c := hcT;have hdT : ∀ b,adr v2 = some b -> adr v = some b ∨ nx U <= b := hdT;have hl9 := Ed (x.kids.map D);rw [bs_] at hl9;have hlr := Ahq D r;refine G5 ?_;refine Ab rfl ?_ ?_ <;> intro h5
     ·have bw : i2 < x.kids.length := by simpa using h5
      obtain ⟨a2,ha2⟩ := A6 bw
      obtain ⟨b2,hb2⟩ := A6 (show i2 < y.kids.length by omega)
      have hz2 : (x.kids.zip y.kids)[i2]? = some (a2,b2) := by rw [List.getElem?_zip_eq_some]; exact ⟨ha2,hb2⟩
      have hAl : X.A < nx τ /\ X.p < nx τ /\ X.c < nx τ := ⟨by omega,by omega,by omega⟩
      have nr : ((r ++ (x.kids.zip y.kids).take i2).length + 1) * (16 + 1) <= sizeLim := by
       simp only [ao_,bn_,List.length_zip,sizeLim]; omega
      obtain ⟨τ4,qf,hn4,hO4,hg4⟩ := Mk.app (by' := 16) Ef hOT (a2,b2) nr
      refine G6 ?_;refine O1 (Ax elC E4 rfl rfl ha2) ?_;refine G10 ?_;refine O1 (A5 hT.c ldC rfl rfl) ?_;refine G ?_;refine O1 (Ax elC Gl rfl rfl k2) ?_;refine G3 ?_;refine O1 (Ax elC E4 rfl rfl hb2) ?_;refine G ?_;refine O1 (Jd (z := [.int .i64 0,.int .i64 0]) Kr Jt rfl rfl) ?_;refine C1 (As elC byW rfl rfl rfl) (D6 (len := 1)) rfl rfl (O1 (A3 elC rfl slC rfl rfl rfl (new := eP2 (a2,b2)) rfl qf) ?_);refine G6 ?_
      refine ⟨(i2 + 1,_),by show x.kids.length - (i2 + 1) < x.kids.length - i2; omega,SL,bw,?_⟩
      refine ⟨hT.of_get (hg4 _ hAl.1 hAT) (hg4 _ hAl.2.1 hpT) (hg4 _ hAl.2.2 hcT),by rw [hn4]; omega,?_,fun hh => by have := cf_ hh; omega,fun hh => by have := cf_ hh; omega,fun hh => by have := cf_ hh; omega,fun b h1 h2 h3 h4 => ?_,fun b hb => by cases hb; exact .inr hnT⟩
      ·rw [B7 hz2,← cc_]; exact hO4
      ·refine (hg4 b Om fun hh => ?_).trans (hfT b h1 h2 h3 h4)
       rcases hdT b hh with hh | hh
       ·exact h4 hh
       ·omega
     ·have b6 : x.kids.length <= i2 := by simpa using h5
      rw [av_ (by rw [List.length_zip]; omega)] at hOT
      refine G ?_
      have ff : E7 D (r ++ x.kids.zip y.kids) = E7 D r + By (x.kids.map D) := by rw [Ahp,Ahr D bv]
      refine ⟨(r ++ x.kids.zip y.kids,v2,p3,kn3),by show E7 D (r ++ x.kids.zip y.kids) < E7 D ((m,n) :: r); omega,SL,⟨hT,hnT,hOT,hAT,hpT,hcT,hfT,hdT,hU3,hK3,hl3,fun q hq => ?_,by rw [ff]; omega⟩⟩
      rcases b_.1 hq with hq | hq
      ·exact hq2 q hq
      ·obtain ⟨z1,z2,z3⟩ := Asn io q hq;have w1 := hN.kid pn x g2 _ z1;have w2 := hN.kid qn y k2 _ z2;have w3 := (aa_.1 g2).1;have w4 := (aa_.1 k2).1
       exact ⟨by omega,by omega,z3⟩
 ·skip
  refine G5 ?_;refine C3 fun hw9 => ?_
  refine G ?_;exact ⟨_,rfl,_,U0,ag_ hw9 nl (fun _ _ => rfl),hnx,.same rfl,rfl,pa,kn,hS,hnx,hfr,hU0,hK0,hl0⟩
end
section
open Go Go.Proofs
abbrev Ms := Int × Int
def eM (p : Ms) : AV := .agg [iV p.1,iV p.2]
theorem Vu (o : Option Ms) : ((o.map eM).getD (.agg [.int .i64 0,.int .i64 0])) = eM (o.getD (0,0)) := by cases o <;> rfl
theorem gm_bV (o : Option Bool) : ((o.map bV).getD (.bool false)) = .bool (o.getD false) := by cases o <;> rfl
def phF (D : Nat -> Ah) (f : Nat × Nat) : Nat := 1 + 2 * By ((Vr (D f.1)).drop f.2)
def Ji (D : Nat -> Ah) : List (Nat × Nat) -> Nat
 | [] => 0
 | f :: r => phF D f + Ji D r
theorem E5 (D : Nat -> Ah) : ∀ l m,Ji D (l ++ m) = Ji D l + Ji D m
 | [],m => by simp [Ji]
 | q :: r,m => by simp only [az_,Ji,E5 D r m]; omega
theorem Ahs (D : Nat -> Ah) : ∀ l,l.length <= Ji D l
 | [] => nl
 | q :: r => by have := Ahs D r; simp only [at_,Ji,phF]; omega
theorem Alr (D : Nat -> Ah) (r : Nat) : phF D (r,0) + 1 = 2 * Av (D r) := by
 unfold phF;cases h : D r with
 | node l ks => simp only [Vr,du_]; rw [Av]; omega
theorem Aht {D : Nat -> Ah} {rt j k : Nat} {l : Str} {ks : List Nat} (h : D rt = .node l (ks.map D)) (hk : ks[j]? = some k) : phF D (rt,j) = 2 * Av (D k) + phF D (rt,j + 1) := by
 unfold phF;simp only [h,Vr]
 have : (ks.map D)[j]? = some (D k) := by rw [bp_,hk]; rfl
 rw [Ay this,By]; omega
structure MsI (X : Sd) (D : Nat -> Ah) (U : Sto) (par : List Nat) (known : List Kc) (τ : Sto) (pa : List Nat) (m : GM Int Ms) (q : GM Int Bool) : Prop where
 s : Sx X τ pa known
 n : nx U + 2 <= nx τ
 f : ∀ b,b < nx U -> b ≠ X.p -> τ.get b = U.get b
 uf : UF D pa
 l : pa.length = par.length
 gm : GAt 3 eM τ (nx U) m
 gq : GAt 3 bV τ (nx U + 1) q
 nd : GM.Nd q
 mb : ∀ k v,m.get k = some v -> 0 <= v.1 /\ v.1 <= 4001 /\ 0 <= v.2 /\ v.2 <= 101
structure StI (D : Nat -> Ah) (U : Sto) (par : List Nat) (τ : Sto) (st : List (Nat × Nat)) (v : AV) (m : GM Int Ms) (q : GM Int Bool) : Prop where
 o : Own τ (nx U + 2) eP2 2 st v
 lt : ∀ f ∈ st,f.1 < par.length
 pw : st.Pairwise fun f g => Av (D g.1) < Av (D f.1)
 op : ∀ k,q.get k = some true -> (∃ f ∈ st,k = .ofNat f.1) /\ m.get k = none
 z : Ji D st <= 2000000
section
variable {X : Sd} {D : Nat -> Ah} {U τ τ' : Sto} {par pa : List Nat} {known : List Kc} {m : GM Int Ms} {q : GM Int Bool}
theorem MsI.of_get (h : MsI X D U par known τ pa m q) (hA : X.A < nx U) (hP : X.p < nx U) (hC : X.c < nx U) (hn : nx τ <= nx τ') (hg : ∀ b,b < nx U + 2 -> τ'.get b = τ.get b) : MsI X D U par known τ' pa m q :=
 ⟨h.s.of_get (hg _ Om) (hg _ Om) (hg _ Om),ax_ h.n hn,fun b h1 h2 => (hg b Om).trans (h.f b h1 h2),h.uf,h.l,h.gm.of_get (hg _ Om),h.gq.of_get (hg _ Om),h.nd,h.mb⟩
theorem MsI.root (h : MsI X D U par known τ pa m q) (hP : X.p < nx U) {r : Nat × List Nat} {n : Nat} (hr : Rq D pa n r) : MsI X D U par known (X.setP τ r.2) r.2 m q :=
 ⟨h.s.setP hr.len,by rw [B2]; exact h.n,fun b h1 h2 => by rw [Bc,if_neg h2]; exact h.f b h1 h2,hr.uf,hr.len.trans h.l,h.gm.of_get (by rw [Bc,if_neg Om]),h.gq.of_get (by rw [Bc,if_neg Om]),h.nd,h.mb⟩
theorem StI.of_get {st : List (Nat × Nat)} {v : AV} (h : StI D U par τ st v m q) (hn : nx τ <= nx τ') (hg : ∀ b,nx U + 2 <= b -> adr v = some b -> τ'.get b = τ.get b) : StI D U par τ' st v m q :=
 ⟨h.o.of_get hn fun a ha => hg a (h.o.adr_lt ha).1 ha,h.lt,h.pw,h.op,h.z⟩
theorem Ang {l tl : List AV} {a b c : AV} : setAt (l ++ [a,b] ++ tl) (l.length + 1) [c] = some (l ++ [a,c] ++ tl) := by
 have := Py (p := l ++ [a]) (q := [b]) (u := [c]) (v := tl) rfl;simp only [ao_,bv_,cc_,az_,bg_] at this ⊢;exact this
theorem f109u (X : Sd) (D : Nat -> Ah) {sq0 : List Sb} (hs : No sq0) (hN : NI sq0 D X.nodes) (hK : KI D X.nodes X.works known) {U : Sto} (h : Sx X U pa known) (hl : pa.length = X.nodes.length) {r : Nat} (hr : r < pa.length) :
  ∃ (x : Nd) (ok : Bool),(Cv 109 [.pr X.A 0,nV r] U (.tup [.agg [sV x.lab,slV eW 1 x.kids],.bool ok])) /\ (∀ k ∈ x.kids,k < pa.length) /\ (x.kids = [] ∨ D r = .node x.lab (x.kids.map D)) := by
 obtain ⟨c,hcr⟩ := A6 (show r < known.length by rw [h.kl]; exact hr)
 by_cases h1 : c.1 < 0
 ·refine ⟨⟨[],[]⟩,false,(Asl X r h hcr h1).wkr ?_,(fun k hk => by cases hk),.inl rfl⟩
  exact Asy (.cons (Asx (.cons .rfl' (.cons Ue .nil))) (.cons .rfl' .nil))
 ·obtain ⟨p,x,g1,g2,g3,g4⟩ := hK.sol r c hcr Om;have hpl : p < X.nodes.length := (aa_.1 g2).1
  exact ⟨x,true,Asm X r h hcr g1 g2,fun k hk => by have := hN.kid p x g2 k hk; omega,.inr (by rw [← g4]; exact hN.solid hs g2 g3)⟩
end
end
section
open Go Go.Proofs
theorem isI3 : (match A4 Ew.P 3 with | some ti => (match ti.desc with | .int .i64 => true | _ => false) | none => false) = true := Kr
theorem Aaw (n : Int) : Er Ew.P 3 (iV n) = some (KE.k n) := by
 have h := isI3
 split at h
 ·rename_i ti hti
  split at h
  ·rename_i hd
   unfold Er;simp only [hti,hd]
   rfl
  ·cases h
 ·cases h
theorem Arp (ini : List (Nat × Nat)) (tl : List AV) (rt j j' : Nat) : setAt ((ini ++ [(rt,j)]).flatMap eP2 ++ tl) (ini.length * 2 + 1) [nV j'] = some ((ini ++ [(rt,j')]).flatMap eP2 ++ tl) := by
 have h := Ang (l := ini.flatMap eP2) (tl := tl) (a := nV rt) (b := nV j) (c := nV j');rw [Dd Ef] at h;simp only [ct_,ca_,gq_,bi_];exact h
theorem Ap5 (D : Nat -> Ah) (rt : Nat) : ∀ {i j : Nat},i <= j -> phF D (rt,j) <= phF D (rt,i) := by
 intro i j h;unfold phF
 have : By ((Vr (D rt)).drop i) = By (((Vr (D rt)).drop i).take (j - i)) + By ((Vr (D rt)).drop j) := by
  rw [← Mg]
  congr 1
  rw [show (Vr (D rt)).drop j = ((Vr (D rt)).drop i).drop (j - i) by rw [dh_]; congr 1; omega,c_]
 simp only;omega
theorem Own.cut {U : Sto} {N : Nat} {ini : List (Nat × Nat)} {f : Nat × Nat} {a n : Nat} (h : Own U N eP2 2 (ini ++ [f]) (.sr a 0 2 n none)) (hn : n = ini.length + 1) : Own U N eP2 2 ini (.sr a 0 2 ini.length (Il none 0)) := by
 rcases h with ⟨h,_⟩ | ⟨b,tl,h1,h2,h3,h4⟩
 ·simp at h
 ·cases h3;refine .inr ⟨a,eP2 f ++ tl,h1,h2,rfl,?_⟩;rw [h4,ct_]
  simp
section
variable {X : Sd} {D : Nat -> Ah} {U τ τ' : Sto} {par pa : List Nat} {known : List Kc} {m : GM Int Ms} {q : GM Int Bool}
theorem MsI.openQ (h : MsI X D U par known τ pa m q) (hA : X.A < nx U) (hP : X.p < nx U) (hC : X.c < nx U) {vq : Nat} (_ : τ.get (nx U + 1) = some (.map 3 (Cz bV q) vq)) (k : Int) : MsI X D U par known (τ.set (nx U + 1) (.map 3 (Cz bV (q.put k true)) (vq + 1))) pa m (q.put k true) :=
 ⟨h.s.of_get (by rw [a_,if_neg Om]) (by rw [a_,if_neg Om]) (by rw [a_,if_neg Om]),by rw [Ac]; exact h.n,fun b h1 h2 => by rw [a_,if_neg Om]; exact h.f b h1 h2,h.uf,h.l,h.gm.of_get (by rw [a_,if_neg Om]),GAt.put,GM.nd_put h.nd,h.mb⟩
theorem MsI.closeQ (h : MsI X D U par known τ pa m q) (hA : X.A < nx U) (hP : X.p < nx U) (hC : X.c < nx U) {vq : Nat} (_ : τ.get (nx U + 1) = some (.map 3 (Cz bV q) vq)) (k : Int) : MsI X D U par known (τ.set (nx U + 1) (.map 3 (Cz bV (q.del k)) (vq + 1))) pa m (q.del k) :=
 ⟨h.s.of_get (by rw [a_,if_neg Om]) (by rw [a_,if_neg Om]) (by rw [a_,if_neg Om]),by rw [Ac]; exact h.n,fun b h1 h2 => by rw [a_,if_neg Om]; exact h.f b h1 h2,h.uf,h.l,h.gm.of_get (by rw [a_,if_neg Om]),GAt.put,GM.nd_del h.nd,h.mb⟩
theorem MsI.outM (h : MsI X D U par known τ pa m q) (hA : X.A < nx U) (hP : X.p < nx U) (hC : X.c < nx U) {vm : Nat} (_ : τ.get (nx U) = some (.map 3 (Cz eM m) vm)) (k : Int) (v : Ms) (hv : 0 <= v.1 /\ v.1 <= 4001 /\ 0 <= v.2 /\ v.2 <= 101) : MsI X D U par known (τ.set (nx U) (.map 3 (Cz eM (m.put k v)) (vm + 1))) pa (m.put k v) q :=
 ⟨h.s.of_get (by rw [a_,if_neg Om]) (by rw [a_,if_neg Om]) (by rw [a_,if_neg Om]),by rw [Ac]; exact h.n,fun b h1 h2 => by rw [a_,if_neg Om]; exact h.f b h1 h2,h.uf,h.l,GAt.put,h.gq.of_get (by rw [a_,if_neg Om]),h.nd,fun k' v' hk => by
  rw [fp_] at hk
  split at hk
  ·cases hk; exact hv
  ·exact h.mb k' v' hk⟩
variable {ini : List (Nat × Nat)} {rt nxt a n : Nat} {tl : List AV}
theorem StI.openQ {v : AV} (h : StI D U par τ (ini ++ [(rt,nxt)]) v m q) (hm : m.get (.ofNat rt) = none) {vq : Nat} : StI D U par (τ.set (nx U + 1) (.map 3 (Cz bV (q.put (.ofNat rt) true)) (vq + 1))) (ini ++ [(rt,nxt)]) v m (q.put (.ofNat rt) true) :=
 ⟨h.o.of_get (by rw [Ac]; exact nl) (fun b hb => by rw [a_,if_neg (by have := (h.o.adr_lt hb).1; omega)]),h.lt,h.pw,fun k hk => by
  rw [fp_] at hk
  split at hk
  ·rename_i he; rw [he]; exact ⟨⟨(rt,nxt),by simp,rfl⟩,hm⟩
  ·exact h.op k hk,h.z⟩
theorem StI.pop (h : StI D U par τ (ini ++ [(rt,nxt)]) (.sr a 0 2 (ini ++ [(rt,nxt)]).length none) m q) (_ : (ini ++ [(rt,nxt)])[ini.length]? = some (rt,nxt)) (_ : nx U + 2 <= a) (_ : a < nx τ) (_ : τ.get a = some (.cells ((ini ++ [(rt,nxt)]).flatMap eP2 ++ tl))) (hk : ∀ k,q.get k = some true -> k ≠ .ofNat rt) : StI D U par τ ini (.sr a 0 2 ini.length (Il none 0)) m q := by
 have hz := h.z;rw [E5] at hz
 refine ⟨Own.cut h.o (by simp),fun f hf => h.lt f (cd_ _ hf),(df_.1 h.pw).1,fun k hq => ?_,by omega⟩
 obtain ⟨⟨f,hf,e⟩,hm⟩ := h.op k hq;refine ⟨⟨f,?_,e⟩,hm⟩
 rcases b_.1 hf with hf | hf
 ·exact hf
 ·rw [am_.1 hf] at e; exact absurd e (hk k hq)
theorem StI.next {j j' : Nat} (h : StI D U par τ (ini ++ [(rt,j)]) (.sr a 0 2 n none) m q) (ha : nx U + 2 <= a) (hn : a < nx τ') (hg : τ'.get a = some (.cells ((ini ++ [(rt,j')]).flatMap eP2 ++ tl))) (hph : phF D (rt,j') <= phF D (rt,j)) : StI D U par τ' (ini ++ [(rt,j')]) (.sr a 0 2 n none) m q := by
 have hz := h.z;have hpw := h.pw;rw [E5] at hz;simp only [Ji] at hz;rw [df_] at hpw;have hl := h.o.lenA.1
 have hl : n = (ini ++ [(rt,j)]).length := by simpa [lenA] using hl
 refine ⟨.inr ⟨a,tl,ha,hn,by rw [hl]; simp,hg⟩,fun f hf => ?_,?_,fun k hk => ?_,by rw [E5]; simp only [Ji]; omega⟩
 ·rcases b_.1 hf with hf | hf
  ·exact h.lt f (cd_ _ hf)
  ·rw [am_.1 hf]; exact h.lt (rt,j) (by simp)
 ·rw [df_];refine ⟨hpw.1,dz_ ..,fun f hf g hg => ?_⟩
  rw [am_.1 hg]
  exact hpw.2.2 f hf (rt,j) (by simp)
 ·obtain ⟨⟨f,hf,e⟩,hm⟩ := h.op k hk;refine ⟨?_,hm⟩
  rcases b_.1 hf with hf | hf
  ·exact ⟨f,cd_ _ hf,e⟩
  ·rw [am_.1 hf] at e; exact ⟨(rt,j'),by simp,e⟩
theorem StI.fresh {v : AV} {j r : Nat} (h : StI D U par τ (ini ++ [(rt,j)]) v m q) (hd : Av (D r) < Av (D rt)) : q.get (.ofNat r) ≠ some true := fun hk => by
 obtain ⟨⟨f,hf,e⟩,_⟩ := h.op _ hk;have e := di_ e
 rcases b_.1 hf with hf | hf
 ·have := (df_.1 h.pw).2.2 f hf (rt,j) (by simp)
  rw [← e] at this;simp only at this;omega
 ·rw [am_.1 hf] at e; rw [e] at hd; exact absurd hd (gl_ _)
theorem StI.push_lt {v : AV} {j r : Nat} (h : StI D U par τ (ini ++ [(rt,j)]) v m q) (hr : r < par.length) : ∀ f ∈ ini ++ [(rt,j)] ++ [(r,0)],f.1 < par.length := fun f hf => by
 rcases b_.1 hf with hf | hf
 ·exact h.lt f hf
 ·rw [am_.1 hf]; exact hr
theorem StI.push_pw {v : AV} {j r : Nat} (h : StI D U par τ (ini ++ [(rt,j)]) v m q) (hd : Av (D r) < Av (D rt)) : (ini ++ [(rt,j)] ++ [(r,0)]).Pairwise fun (f g : Nat × Nat) => Av (D g.1) < Av (D f.1) := by
 rw [df_];refine ⟨h.pw,dz_ ..,fun f hf g hg => ?_⟩
 rw [am_.1 hg]
 rcases b_.1 hf with hf | hf
 ·have := (df_.1 h.pw).2.2 f hf (rt,j) (by simp)
  simp only at this ⊢;omega
 ·rw [am_.1 hf]; exact hd
end
theorem f70 (X : Sd) (D : Nat -> Ah) (sq0 : List Sb) (hs : No sq0) (hN : NI sq0 D X.nodes) {par : List Nat} {known : List Kc} {U : Sto} (h : Sx X U par known) (hU : UF D par) (hK : KI D X.nodes X.works known) (hl : par.length = X.nodes.length) (hnl : X.nodes.length <= 1000000) (hcb : ∀ i,i < par.length -> Av (D i) <= 1000000) :
  Ao Ew 70 [.pr X.A 0] U fun u U' => ∃ mo par' m,u = .tup [.mp mo,.bool true] /\ GAt 3 eM U' mo (m : GM Int Ms) /\ nx U <= mo /\ mo < nx U' /\ Sx X U' par' known /\ nx U <= nx U' /\ (∀ b,b < nx U -> b ≠ X.p -> U'.get b = U.get b) /\ UF D par' /\ par'.length = par.length := by
 refine An Tryz.func70 rfl rfl fun hw hu0 => ?_
 have hAl := (hw _ _ h.c).1;have hPl := (hw _ _ h.p).1;have hCl := (hw _ _ h.k).1;refine G7 ?_;refine O1 (Bp (n := nx U) Z3 rfl) ?_;refine G4 ?_;refine O1 (Bp (n := nx U + 1) Ak0 (Af _ _)) ?_;refine G2 ?_
 have hM0 : MsI X D U par known ((U.new (.map 3 [] 0)).new (.map 3 [] 0)) par [] [] := ⟨h.of_get (by rw [ab_,if_neg (by rw [Af]; omega),ab_,if_neg Om]) (by rw [ab_,if_neg (by rw [Af]; omega),ab_,if_neg Om]) (by rw [ab_,if_neg (by rw [Af]; omega),ab_,if_neg Om]),by rw [Af,Af]; exact nl,fun b h1 h2 => by rw [ab_,if_neg (by rw [Af]; omega),ab_,if_neg Om],hU,rfl,⟨0,by rw [ab_,if_neg (by rw [Af]; omega),ab_,if_pos rfl]; rfl⟩,⟨0,by rw [ab_,if_pos (by rw [Af])]; rfl⟩,trivial,fun k v hk => by cases hk⟩
 generalize ((U.new (.map 3 [] 0)).new (.map 3 [] 0)) = U1 at *
 refine G6 ?_;refine O1 (A5 hM0.s.c ldC rfl rfl) ?_;refine G4 ?_
 refine Bq X.nodes.length (fun i0 => [(0,.pr X.A 0),(4,.mp (nx U)),(5,.mp (nx U + 1)),(26,iV (.ofNat X.nodes.length)),(27,iV (.ofNat i0))]) (fun i0 U0 => ∃ pa m q,MsI X D U par known U0 pa m q /\ ∀ k,q.get k ≠ some true) SL ⟨par,[],[],hM0,fun k hk => by cases hk⟩ ?_
 rintro i0 U0 hi0 ⟨pa0,m0,q0,hI0,hq0⟩;refine G5 ?_;refine Ab rfl ?_ ?_ <;> intro h1
 ·have bc : i0 < X.nodes.length := by simpa using h1
  have hr0 := Do hI0.uf (show i0 < pa0.length by rw [hI0.l,hl]; exact bc)
  refine G8 ?_;refine Aki ?_;refine G6 ?_
  refine Ag rfl rfl rfl rfl (f71 X D i0 hI0.s hI0.uf (by rw [hI0.l,hl]; exact bc)) ?_
  refine G ?_;refine Ai6 (cs := eP2 ((Am pa0 i0).1,0)) elC rfl rfl rfl rfl ?_;refine G2 ?_;have hI1 := hI0.root hPl hr0;have hr0l : (Am pa0 i0).1 < par.length := hI0.l ▸ hr0.lt
  generalize (Am pa0 i0).1 = r1 at *
  generalize (Am pa0 i0).2 = p1 at *
  clear hr0
  generalize hτ1 : X.setP U0 p1 = τ1 at *
  have hI2 : MsI X D U par known (τ1.new (.cells (eP2 (r1,0)))) p1 m0 q0 := hI1.of_get hAl hPl hCl (by rw [Af]; omega) fun b hb => by rw [ab_,if_neg (by have := hI1.n; omega)]
  have hSt : StI D U par (τ1.new (.cells (eP2 (r1,0)))) [(r1,0)] (.sr (nx τ1) 0 2 1 none) m0 q0 := ⟨.inr ⟨nx τ1,[],hI1.n,by rw [Af]; omega,rfl,by rw [ab_,if_pos rfl]; rfl⟩,fun f hf => by rw [am_.1 hf]; exact hr0l,dz_ ..,fun k hk => absurd hk (hq0 k),by have := Alr D r1; have := hcb r1 hr0l; simp only [Ji]; omega⟩
  generalize (τ1.new (.cells (eP2 (r1,0)))) = τ2 at *
  generalize (AV.sr (nx τ1) 0 2 1 none) = vs1 at *
  refine G ?_;refine Akg ?_;refine G ?_;refine B3 (fun z : List (Nat × Nat) × AV => [(0,.pr X.A 0),(4,.mp (nx U)),(5,.mp (nx U + 1)),(7,z.2),(26,iV (.ofNat X.nodes.length)),(27,iV (.ofNat i0))]) (fun z τ => ∃ pa m q,MsI X D U par known τ pa m q /\ StI D U par τ z.1 z.2 m q) (fun z => Ji D z.1) ([(r1,0)],vs1) SL ⟨_,_,_,hI2,hSt⟩ ?_
  rintro ⟨st,vs⟩ U2 ⟨pa,m,q,hI,hT⟩;have hT : StI D U par U2 st vs m q := hT;refine G4 ?_;refine O1 (B0 slC rfl hT.o.lenA.1 hT.o.lenA.2) ?_;refine G2 ?_;refine Ab rfl ?_ ?_ <;> intro h2
  ·have cv : 0 < st.length := by simpa using h2
   obtain ⟨ini,⟨rt,nxt⟩,rfl⟩ : ∃ ini f,st = ini ++ [f] := ⟨st.dropLast,st.getLast (List.ne_nil_of_length_pos cv),(List.dropLast_concat_getLast _).symm⟩;obtain ⟨a,tl,ha1,ha2,rfl,ha3⟩ := hT.o.sr cv
   have hlen1 : (ini ++ [(rt,nxt)]).length = ini.length + 1 := by simp
   have fc : (ini ++ [(rt,nxt)])[ini.length]? = some (rt,nxt) := by simp
   have hnA := hI.n;have hslen := Ahs D (ini ++ [(rt,nxt)]);have hsz := hT.z
   have ns : rt < par.length := hT.lt (rt,nxt) (by simp)
   refine G6 ?_;refine O1 (B0 slC rfl hT.o.lenA.1 hT.o.lenA.2) (O1 (Ly (q := 1) okC rfl rfl Om Om) ?_)
   refine O1 (Cj (i := ini.length) elC rfl (by rw [show ini.length = (ini ++ [(rt,nxt)]).length - 1 by omega]; rfl) Om) ?_
   refine G9 ?_;refine O1 (Gj (i := ini.length) (k := 0) Ef ha3 fc ldC rfl rfl fun _ => rfl) ?_
   refine O1 (Oz (k := Int.ofNat rt) Z3 rfl hI.gm rfl (Aaw _)) ?_;refine G3 ?_;refine Dh (v := eM ((m.get (.ofNat rt)).getD (0,0))) ziC ldC rfl (fun _ => congrArg some (Vu _)) (congrArg some (Vu _)) rfl rfl rfl ?_
   refine G6 ?_;refine Ab rfl ?_ ?_ <;> intro h3
   ·skip
    refine G4 ?_;refine O1 (B0 slC rfl hT.o.lenA.1 hT.o.lenA.2) (O1 (Ly (q := 1) okC rfl rfl Om Om) ?_)
    refine O1 (Me (b := ini.length) elC rfl (by rw [show ini.length = (ini ++ [(rt,nxt)]).length - 1 by omega]; rfl) Om) ?_
    refine G3 ?_
    refine ⟨(ini,_),by show Ji D ini < Ji D (ini ++ [(rt,nxt)]); rw [E5]; simp only [Ji,phF]; omega,SL,pa,m,q,hI,hT.pop fc ha1 ha2 ha3 (fun k hk => ?_)⟩
    have h3 : (m.get (.ofNat rt)).isSome = true := h3;intro hh;rw [← hh,(hT.op _ hk).2] at h3;cases h3
   ·have h3 : (m.get (.ofNat rt)).isSome = false := h3
    have hmn : m.get (.ofNat rt) = none := by simpa using h3
    obtain ⟨vq,hvq⟩ := id hI.gq;refine G7 ?_;refine O1 (Gj (i := ini.length) (k := 0) Ef ha3 fc ldC rfl rfl fun _ => rfl) ?_
    refine O1 (X1 (enc := bV) (k := Int.ofNat rt) (v := true) Ak0 rfl hvq rfl (Aaw _) rfl (fun te k1 k2 => Gt k1 k2)) ?_
    refine G ?_;have hI3 := hI.openQ hAl hPl hCl hvq (.ofNat rt)
    have nu := (show ((U2.set (nx U + 1) (.map 3 (Cz bV (q.put (.ofNat rt) true)) (vq + 1))).get a = U2.get a) by rw [a_,if_neg Om]).trans ha3
    have hT3 := hT.openQ (vq := vq) hmn;clear hvq hT hI
    generalize (U2.set (nx U + 1) (.map 3 (Cz bV (q.put (.ofNat rt) true)) (vq + 1))) = U3 at *
    have qg : a < nx U3 := by have := hT3.o.adr_lt rfl; omega
    obtain ⟨x,ok,c109,hxl,hxD⟩ := f109u X D hs hN hK hI3.s (hI3.l.trans hl) (show rt < pa.length by rw [hI3.l]; exact ns)
    refine G6 ?_;refine O1 (Gj (i := ini.length) (k := 0) Ef nu fc ldC rfl rfl fun _ => rfl) ?_
    refine Ag rfl rfl rfl rfl c109 ?_;refine G6 ?_
    have hkb : x.kids.length <= 1000000 := by
     rcases hxD with h9 | h9
     ·rw [h9]; exact bh_ _
     ·have h8 := Ed (x.kids.map D);have h7 := hcb rt ns;rw [h9,Av] at h7;rw [bs_] at h8;omega
    refine G2 ?_;refine B3 (fun j : Nat => [(0,.pr X.A 0),(4,.mp (nx U)),(5,.mp (nx U + 1)),(7,.sr a 0 2 (ini ++ [(rt,nxt)]).length none),(8,.pr a (ini.length * 2)),(11,.pv (eNd x)),(26,iV (.ofNat X.nodes.length)),(27,iV (.ofNat i0))]) (fun j τ => nxt <= j /\ ∃ pa,MsI X D U par known τ pa m (q.put (.ofNat rt) true) /\ StI D U par τ (ini ++ [(rt,j)]) (.sr a 0 2 (ini ++ [(rt,nxt)]).length none) m (q.put (.ofNat rt) true) /\ τ.get a = some (.cells ((ini ++ [(rt,j)]).flatMap eP2 ++ tl)) /\ a < nx τ) (fun j => x.kids.length - j) nxt SL ⟨nl,pa,hI3,hT3,nu,qg⟩ ?_
    rintro j U4 ⟨hj,p4,hI4,hT4,ha4,ha4n⟩
    have gr : (ini ++ [(rt,j)])[ini.length]? = some (rt,j) := by simp
    have hlen4 : (ini ++ [(rt,nxt)]).length = (ini ++ [(rt,j)]).length := by simp
    refine G2 ?_;refine X0 ?_;refine G3 ?_;refine DF (Gj (i := ini.length) (k := 1) Ef ha4 gr ldC rfl rfl fun _ => rfl) ?_
    refine G5 ?_;refine ⟨rfl,rfl,?_⟩;refine Ab rfl ?_ ?_ <;> intro h4
    ·have dc : j < x.kids.length := by simpa using h4
     obtain ⟨k4,hk4⟩ := A6 dc;have hk4m := ae_ hk4
     have hk4l : k4 < p4.length := by rw [hI4.l,← hI3.l]; exact hxl k4 hk4m
     have hxD : D rt = .node x.lab (x.kids.map D) := by
      rcases hxD with h9 | h9
      ·rw [h9] at dc; exact absurd dc (fe_ _)
      ·exact h9
     have hr4 := Do hI4.uf hk4l;have c71 := f71 X D k4 hI4.s hI4.uf hk4l;have hI5 := hI4.root hPl hr4
     have hT5 : StI D U par (X.setP U4 (Am p4 k4).2) (ini ++ [(rt,j)]) (.sr a 0 2 (ini ++ [(rt,nxt)]).length none) m (q.put (.ofNat rt) true) := hT4.of_get (by rw [B2]; exact nl) fun b hb _ => by rw [Bc,if_neg Om]
     have ha5 : (X.setP U4 (Am p4 k4).2).get a = some (.cells ((ini ++ [(rt,j)]).flatMap eP2 ++ tl)) := by rw [Bc,if_neg Om]; exact ha4
     have ha5n : a < nx (X.setP U4 (Am p4 k4).2) := by rw [B2]; exact ha4n
     have hr4l : (Am p4 k4).1 < par.length := hI4.l ▸ hr4.lt;have hr4d : D (Am p4 k4).1 = D k4 := hr4.d;clear hr4
     generalize (X.setP U4 (Am p4 k4).2) = U5 at *
     generalize (Am p4 k4).2 = p5 at *
     generalize (Am p4 k4).1 = r4 at *
     refine G3 ?_;refine XS (l := [(71,[.pr X.A 6,nV k4],U4,nV r4,U5)]) ⟨c71,trivial⟩ ?_;refine G8 ?_;refine DF (Gj (i := ini.length) (k := 1) Ef ha4 gr ldC rfl rfl fun _ => rfl) ?_
     refine DF (Ax elC E4 rfl rfl hk4) ?_;refine G9 ?_;refine O1 (Gj (i := ini.length) (k := 1) Ef ha5 gr ldC rfl rfl fun _ => rfl) ?_
     refine G3 ?_;refine O1 (E3 (cs' := (ini ++ [(rt,j + 1)]).flatMap eP2 ++ tl) ha5 ldC rfl rfl rfl (Arp _ _ _ _ _)) ?_;refine G ?_
     have hI6 : MsI X D U par known (U5.set a (.cells ((ini ++ [(rt,j + 1)]).flatMap eP2 ++ tl))) p5 m (q.put (.ofNat rt) true) := hI5.of_get hAl hPl hCl (by rw [Ac]; exact nl) fun b hb => by rw [a_,if_neg Om]
     have ha6 : (U5.set a (.cells ((ini ++ [(rt,j + 1)]).flatMap eP2 ++ tl))).get a = some (.cells ((ini ++ [(rt,j + 1)]).flatMap eP2 ++ tl)) := by rw [a_,if_pos rfl]
     have ha6n : a < nx (U5.set a (.cells ((ini ++ [(rt,j + 1)]).flatMap eP2 ++ tl))) := by rw [Ac]; exact ha5n
     have hT6 : StI D U par (U5.set a (.cells ((ini ++ [(rt,j + 1)]).flatMap eP2 ++ tl))) (ini ++ [(rt,j + 1)]) (.sr a 0 2 (ini ++ [(rt,nxt)]).length none) m (q.put (.ofNat rt) true) := hT5.next (j' := j + 1) ha1 (by rw [Ac]; exact ha5n) ha6 (by rw [Aht hxD hk4]; omega)
     generalize (U5.set a (.cells ((ini ++ [(rt,j + 1)]).flatMap eP2 ++ tl))) = U6 at *
     have jh : Av (D r4) < Av (D rt) := by rw [hr4d,hxD]; exact Ae9 hk4m
     refine G5 ?_;refine O1 (Xz (enc := bV) (k := Int.ofNat r4) Ak0 rfl hI6.gq rfl (Aaw _)) ?_;refine G ?_;refine Ab (congrArg some (gm_bV _)) (fun h5 => ?_) (fun h5 => ?_)
     ·have h5 : ((q.put (.ofNat rt) true).get (.ofNat r4)).getD false = true := h5
      have hg5 : (q.put (.ofNat rt) true).get (.ofNat r4) = some true := by
       cases hh : (q.put (.ofNat rt) true).get (.ofNat r4) with
       | none => rw [hh] at h5; cases h5
       | some b => rw [hh] at h5; have : b = true := h5; rw [this]
      exact absurd hg5 (hT6.fresh jh)
     ·have hfr6 := hT6.fresh jh;refine G5 ?_;refine O1 (Oz (k := Int.ofNat r4) Z3 rfl hI6.gm rfl (Aaw _)) ?_;refine G3 ?_;refine Dh (v := eM ((m.get (.ofNat r4)).getD (0,0))) ziC ldC rfl (fun _ => congrArg some (Vu _)) (congrArg some (Vu _)) rfl rfl rfl ?_
      refine G7 ?_;refine Ab rfl ?_ ?_ <;> intro h6
      ·have gb : (ini ++ [(rt,j + 1)]).length = (ini ++ [(rt,nxt)]).length := by simp
       have ne : ((ini ++ [(rt,j + 1)]).length + 1) * (16 + 1) <= sizeLim := by rw [gb]; simp only [sizeLim]; omega
       obtain ⟨τ7,n4,hn7,ho7,hg7⟩ := ff_ (by' := 16) Ef hI6.n hT6.o (r4,0) ne
       refine G5 ?_
       refine C1 (As elC byW rfl rfl rfl) (D6 (len := 1)) rfl rfl (O1 (A3 elC rfl slC rfl rfl rfl (new := eP2 (r4,0)) rfl (by rw [gb] at n4; exact n4)) ?_)
       refine G3 ?_;have hph := Aht hxD hk4;have hpn := Alr D r4;have eo := Ap5 D rt hj;rw [hr4d] at hpn
       refine ⟨(ini ++ [(rt,j + 1)] ++ [(r4,0)],_),by show Ji D (ini ++ [(rt,j + 1)] ++ [(r4,0)]) < Ji D (ini ++ [(rt,nxt)]); rw [E5,E5,E5]; simp only [Ji]; omega,SL,p5,m,q.put (.ofNat rt) true,hI6.of_get hAl hPl hCl (by rw [hn7]; omega) (fun b hb => hg7 b (by have := hI6.n; omega) (fun hh => by have := (hT6.o.adr_lt hh).1; omega)),?_⟩
       have hz6 := hT6.z;rw [E5] at hz6 hsz;simp only [Ji] at hz6 hsz
       exact ⟨by rw [gb] at ho7; exact ho7,hT6.push_lt hr4l,hT6.push_pw jh,fun k hk => ⟨by obtain ⟨f,hf,e⟩ := (hT6.op k hk).1; exact ⟨f,cd_ _ hf,e⟩,(hT6.op k hk).2⟩,by rw [E5,E5]; simp only [Ji]; omega⟩
      ·skip
       refine G ?_
       exact ⟨j + 1,by show x.kids.length - (j + 1) < x.kids.length - j; omega,SL,by omega,p5,hI6,hT6,ha6,ha6n⟩
    ·skip
     refine G3 ?_;refine O1 (Jd (z := [.int .i64 0,.int .i64 0]) Kr Jt rfl rfl) ?_
     refine O1 (Cn (n := nx U4) ziC rfl) (O1 (E3 (cs := [.int .i64 0,.int .i64 0]) (cs' := [iV 1,iV 1]) (by rw [ab_,if_pos rfl]) ldC rfl rfl rfl rfl) ?_)
     refine G ?_;have n5 : nx U + 2 <= nx U4 := hI4.n
     have hI7 : MsI X D U par known ((U4.new (.cells [.int .i64 0,.int .i64 0])).set (nx U4) (.cells [iV 1,iV 1])) p4 m (q.put (.ofNat rt) true) := hI4.of_get hAl hPl hCl (by rw [Ac,Af]; omega) fun b hb => by rw [a_,if_neg Om,ab_,if_neg Om]
     have hT7 : StI D U par ((U4.new (.cells [.int .i64 0,.int .i64 0])).set (nx U4) (.cells [iV 1,iV 1])) (ini ++ [(rt,j)]) (.sr a 0 2 (ini ++ [(rt,nxt)]).length none) m (q.put (.ofNat rt) true) := hT4.of_get (by rw [Ac,Af]; omega) fun b hb hb2 => by rw [a_,if_neg (by have := (hT4.o.adr_lt hb2).2; omega),ab_,if_neg (by have := (hT4.o.adr_lt hb2).2; omega)]
     have ha7 : ((U4.new (.cells [.int .i64 0,.int .i64 0])).set (nx U4) (.cells [iV 1,iV 1])).get a = some (.cells ((ini ++ [(rt,j)]).flatMap eP2 ++ tl)) := by rw [a_,if_neg Om,ab_,if_neg Om]; exact ha4
     have he7 : ((U4.new (.cells [.int .i64 0,.int .i64 0])).set (nx U4) (.cells [iV 1,iV 1])).get (nx U4) = some (.cells [iV 1,iV 1]) := by rw [a_,if_pos rfl]
     have hn7 : nx U4 + 1 <= nx ((U4.new (.cells [.int .i64 0,.int .i64 0])).set (nx U4) (.cells [iV 1,iV 1])) := by rw [Ac,Af]; exact nl
     obtain ⟨e,he⟩ : ∃ e,nx U4 = e := ⟨_,rfl⟩;rw [he] at hI7 hT7 ha7 he7 hn7 ha4n n5 ⊢
     generalize ((U4.new (.cells [.int .i64 0,.int .i64 0])).set e (.cells [iV 1,iV 1])) = U7 at *
     refine G9 ?_
     refine Bq x.kids.length (fun i6 => [(0,.pr X.A 0),(4,.mp (nx U)),(5,.mp (nx U + 1)),(7,.sr a 0 2 (ini ++ [(rt,nxt)]).length none),(8,.pr a (ini.length * 2)),(16,.pr e 0),(26,iV (.ofNat X.nodes.length)),(27,iV (.ofNat i0)),(119,slV eW 1 x.kids),(120,iV (.ofNat x.kids.length)),(121,iV (.ofNat i6))]) (fun i6 τ => ∃ pa y0 y1,MsI X D U par known τ pa m (q.put (.ofNat rt) true) /\ StI D U par τ (ini ++ [(rt,j)]) (.sr a 0 2 (ini ++ [(rt,nxt)]).length none) m (q.put (.ofNat rt) true) /\ τ.get a = some (.cells ((ini ++ [(rt,j)]).flatMap eP2 ++ tl)) /\ τ.get e = some (.cells [iV y0,iV y1]) /\ e + 1 <= nx τ /\ 0 <= y0 /\ y0 <= 4001 /\ 0 <= y1 /\ y1 <= 101) SL ⟨p4,1,1,hI7,hT7,ha7,he7,hn7,by omega,by omega,by omega,by omega⟩ ?_
     rintro i6 U8 hi6 ⟨p8,y0,y1,hI8,hT8,ha8,he8,hn8,hy1,hy2,hy3,hy4⟩;refine G5 ?_;refine Ab rfl ?_ ?_ <;> intro h5
     ·have dv : i6 < x.kids.length := by simpa using h5
      obtain ⟨k6,hk6⟩ := A6 dv
      have hk6l : k6 < p8.length := by rw [hI8.l,← hI3.l]; exact hxl k6 (ae_ hk6)
      have hr6 := Do hI8.uf hk6l;have c71 := f71 X D k6 hI8.s hI8.uf hk6l;have hI9 := hI8.root hPl hr6
      have hT9 : StI D U par (X.setP U8 (Am p8 k6).2) (ini ++ [(rt,j)]) (.sr a 0 2 (ini ++ [(rt,nxt)]).length none) m (q.put (.ofNat rt) true) := hT8.of_get (by rw [B2]; exact nl) fun b hb _ => by rw [Bc,if_neg Om]
      have ha9 : (X.setP U8 (Am p8 k6).2).get a = some (.cells ((ini ++ [(rt,j)]).flatMap eP2 ++ tl)) := by rw [Bc,if_neg Om]; exact ha8
      have he9 : (X.setP U8 (Am p8 k6).2).get e = some (.cells [iV y0,iV y1]) := by rw [Bc,if_neg Om]; exact he8
      have hn9 : e + 1 <= nx (X.setP U8 (Am p8 k6).2) := by rw [B2]; exact hn8
      clear hr6
      generalize (X.setP U8 (Am p8 k6).2) = U9 at *
      generalize (Am p8 k6).2 = p9 at *
      generalize (Am p8 k6).1 = r6 at *
      refine G5 ?_;refine O1 (Ax elC E4 rfl rfl hk6) ?_;refine G10 ?_;refine Ag rfl rfl rfl rfl c71 (O1 (Xz (k := Int.ofNat r6) Z3 rfl hI9.gm rfl (Aaw _)) (Dh (v := eM ((m.get (.ofNat r6)).getD (0,0))) ziC ldC rfl (fun _ => congrArg some (Vu _)) (congrArg some (Vu _)) rfl rfl rfl ?_))
      refine G ?_
      have hbd : 0 <= ((m.get (.ofNat r6)).getD (0,0)).1 /\ ((m.get (.ofNat r6)).getD (0,0)).1 <= 4001 /\ 0 <= ((m.get (.ofNat r6)).getD (0,0)).2 /\ ((m.get (.ofNat r6)).getD (0,0)).2 <= 101 := by
       cases hh : m.get (.ofNat r6) with
       | none => exact ⟨by show (0 : Int) <= 0; omega,by show (0 : Int) <= 4001; omega,by show (0 : Int) <= 0; omega,by show (0 : Int) <= 101; omega⟩
       | some v => exact hI9.mb _ v hh
      generalize ((m.get (.ofNat r6)).getD (0,0)) = yv at *
      obtain ⟨z0,z1⟩ := yv;simp only at hbd;refine Rc (Rr := Dl []) (anns := [⟨.pure,0,0⟩,⟨.read,0,0⟩,⟨.pure,0,0⟩,⟨.read,0,0⟩,⟨.pure,0,0⟩,⟨.pure,0,0⟩,⟨.pure,0,0⟩,⟨.read,0,0⟩,⟨.pure,0,1⟩,⟨.read,0,1⟩,⟨.pure,0,1⟩,⟨.pure,0,1⟩,⟨.pure,0,1⟩,⟨.pure,0,0⟩,⟨.eff,0,1⟩,⟨.pure,1,1⟩,⟨.eff,1,2⟩]) E8 (Da trivial) Kr ?_
      refine DF (Cl Jt rfl rfl (by decide) rfl) ?_
      refine DF (A5 he9 ldC rfl rfl) (DF (Cl Jt rfl rfl (by decide) rfl) ?_)
      refine G ?_;refine DF (Akk (p := y0) (q := z0) okC rfl rfl Om Om) ?_
      refine DF (Aoi okC rfl rfl) (DF (Cl Jt rfl rfl (by decide) rfl) ?_)
      refine DF (A5 he9 ldC rfl rfl) (DF (Cl Jt rfl rfl (by decide) rfl) ?_)
      refine G ?_;refine DF (Aoi okC rfl rfl) (DF (Akk (p := min z1 100) (q := 1) okC rfl rfl Om Om) ?_)
      refine DF (Aiv okC rfl rfl) (DF (Cl Jt rfl rfl (by decide) rfl) ?_)
      refine DT (E3 (cs' := [iV (min (y0 + z0) 4001),iV y1]) he9 ldC rfl rfl rfl rfl) (DF (Cl Jt rfl rfl (by decide) rfl) ?_)
      refine DT (E3 (cs' := [iV (min (y0 + z0) 4001),iV (max y1 (min z1 100 + 1))]) (by rw [a_,if_pos rfl]) ldC rfl rfl rfl rfl) ?_
      refine G ?_
      refine ⟨⟨trivial,(fun s hs => by simp at hs; subst hs; exact ⟨_,A5 he9 (ldC (t := 3)) rfl rfl⟩),trivial,(fun s _ => ⟨_,Ad (ldC (t := 3)) rfl rfl rfl⟩),trivial,trivial,trivial,(fun s hs => by simp at hs; subst hs; exact ⟨_,A5 he9 (ldC (t := 3)) rfl rfl⟩),trivial,(fun s _ => ⟨_,Ad (ldC (t := 3)) rfl rfl rfl⟩),trivial,trivial,trivial,trivial,trivial,trivial,trivial,trivial⟩,?_⟩
      refine G4 ?_
      refine ⟨dv,SL,p9,min (y0 + z0) 4001,max y1 (min z1 100 + 1),hI9.of_get hAl hPl hCl (by rw [Ac,Ac]; exact nl) (fun b hb => by rw [a_,if_neg Om,a_,if_neg Om]),hT9.of_get (by rw [Ac,Ac]; exact nl) (fun b hb hb2 => by cases hb2; rw [a_,if_neg Om,a_,if_neg Om]),by rw [a_,if_neg Om,a_,if_neg Om]; exact ha9,by rw [a_,if_pos rfl],by rw [Ac,Ac]; exact hn9,by omega,by omega,by omega,by omega⟩
     ·obtain ⟨vm,hvm⟩ := id hI8.gm
      have i1 : (ini ++ [(rt,j)])[ini.length]? = some (rt,j) := by simp
      refine G2 ?_;refine XS (l := []) trivial ?_;refine G4 ?_;refine DF (Gj (i := ini.length) (k := 0) Ef ha8 i1 ldC rfl rfl fun _ => rfl) ?_
      refine DF (A5 (v := eM (y0,y1)) he8 ldC rfl rfl) (DT (X1 (enc := eM) (k := Int.ofNat rt) (v := (y0,y1)) Z3 rfl hvm rfl (Aaw _) rfl (fun te k1 k2 => F8 k1 k2 rfl)) ?_)
      refine G ?_;have ja := hI8.outM hAl hPl hCl hvm (.ofNat rt) (y0,y1) ⟨hy1,hy2,hy3,hy4⟩
      have ig : (U8.set (nx U) (.map 3 (Cz eM (m.put (.ofNat rt) (y0,y1))) (vm + 1))).get a = some (.cells ((ini ++ [(rt,j)]).flatMap eP2 ++ tl)) := by rw [a_,if_neg Om]; exact ha8
      have qj : Own (U8.set (nx U) (.map 3 (Cz eM (m.put (.ofNat rt) (y0,y1))) (vm + 1))) (nx U + 2) eP2 2 (ini ++ [(rt,j)]) (.sr a 0 2 (ini ++ [(rt,nxt)]).length none) := hT8.o.of_get (by rw [Ac]; exact nl) fun b hb => by cases hb; rw [a_,if_neg Om]
      have hop := hT8.op;have gg := hT8.lt;have qk := hT8.pw
      generalize (U8.set (nx U) (.map 3 (Cz eM (m.put (.ofNat rt) (y0,y1))) (vm + 1))) = U10 at *
      obtain ⟨vq2,n7⟩ := id ja.gq;refine G6 ?_;refine O1 (Gj (i := ini.length) (k := 0) Ef ig i1 ldC rfl rfl fun _ => rfl) ?_
      refine O1 (Aq7 (k := Int.ofNat rt) Ak0 rfl n7 rfl (Aaw _)) ?_;refine G ?_;have qm := ja.closeQ hAl hPl hCl n7 (.ofNat rt)
      have qp : Own (U10.set (nx U + 1) (.map 3 (Cz bV ((q.put (.ofNat rt) true).del (.ofNat rt))) (vq2 + 1))) (nx U + 2) eP2 2 (ini ++ [(rt,j)]) (.sr a 0 2 (ini ++ [(rt,nxt)]).length none) := qj.of_get (by rw [Ac]; exact nl) fun b hb => by cases hb; rw [a_,if_neg Om]
      generalize (U10.set (nx U + 1) (.map 3 (Cz bV ((q.put (.ofNat rt) true).del (.ofNat rt))) (vq2 + 1))) = U11 at *
      refine G3 ?_;refine O1 (B0 slC rfl rfl rfl) (O1 (Ly (q := 1) okC rfl rfl Om Om) ?_)
      refine O1 (Me (b := ini.length) elC rfl (by rw [show ini.length = (ini ++ [(rt,nxt)]).length - 1 by omega]; rfl) Om) ?_
      refine G2 ?_
      refine ⟨(ini,_),by show Ji D ini < Ji D (ini ++ [(rt,nxt)]); rw [E5]; simp only [Ji,phF]; omega,SL,p8,m.put (.ofNat rt) (y0,y1),(q.put (.ofNat rt) true).del (.ofNat rt),qm,?_⟩
      rw [E5] at hsz;simp only [Ji] at hsz
      refine ⟨Own.cut qp (by simp),fun f hf => gg f (cd_ _ hf),(df_.1 qk).1,fun k hk => ?_,by show Ji D ini <= 2000000; omega⟩
      rw [GM.get_del ja.nd] at hk
      by_cases hkr : k = .ofNat rt
      ·rw [if_pos hkr] at hk; cases hk
      ·rw [if_neg hkr] at hk;obtain ⟨⟨f,hf,e⟩,hm⟩ := hop k hk
       refine ⟨⟨f,?_,e⟩,by rw [fp_,if_neg hkr]; exact hm⟩
       rcases b_.1 hf with hf | hf
       ·exact hf
       ·rw [am_.1 hf] at e; exact absurd e hkr
  ·have d6 : st = [] := by
    cases st with
    | nil => rfl
    | cons a r => simp at h2
   subst d6;refine G5 ?_
   exact ⟨bc,SL,pa,m,q,hI,fun k hk => by obtain ⟨⟨f,hf,_⟩,_⟩ := hT.op k hk; cases hf⟩
 ·skip
  refine G7 ?_;refine C3 fun hw9 => ?_
  refine G ?_
  exact ⟨_,rfl,_,U0,ag_ hw9 nl (fun _ _ => rfl),by have := hI0.n; omega,.same (by show (Nat.blt (nx U) (nx U0) && (true && true)) = true; rw [Ce (by have := hI0.n; omega)]; rfl),nx U,pa0,m0,rfl,hI0.gm,nl,by have := hI0.n; omega,hI0.s,by have := hI0.n; omega,hI0.f,hI0.uf,hI0.l⟩
end
section
open Go Go.Proofs
structure Sq where
 A : Nat
 N : Nat
 q0 : AV
 q1 : AV
 q2 : AV
structure Sa where
 n : AV
 p : AV
 c : AV
 w : AV
 k : Nat
 h : Nat
def Sa.cells (Y : Sq) (d : Sa) : List AV := [Y.q0,Y.q1,Y.q2,d.n,.mp d.k,.mp d.h,d.p,d.c,d.w]
structure Sn (Y : Sq) (U : Sto) (S : NS) (d : Sa) : Prop where
 c : U.get Y.A = some (.cells (d.cells Y))
 on : Own U Y.N eNd 2 S.nodes d.n
 op : Own U Y.N eW 1 S.par d.p
 ok : Own U Y.N eC 2 S.known d.c
 ow : Own U Y.N eW 1 S.works d.w
 gm : GAt 187 nV U d.k S.M
 gh : GAt 3 nV U d.h S.W
 np : Dj d.n d.p
 nc : Dj d.n d.c
 nw : Dj d.n d.w
 pc : Dj d.p d.c
 pw : Dj d.p d.w
 cw : Dj d.c d.w
 an : adr d.n ≠ some Y.A
 ap : adr d.p ≠ some Y.A
 ac : adr d.c ≠ some Y.A
 aw : adr d.w ≠ some Y.A
 lo : Y.N <= Y.A
 lA : Y.A < nx U
 lk : d.k < nx U
 lh : d.h < nx U
def Aax (Y : Sq) (d : Sa) (b : Nat) : Prop := b = Y.A ∨ b = d.k ∨ b = d.h ∨ adr d.n = some b ∨ adr d.p = some b ∨ adr d.c = some b ∨ adr d.w = some b
structure Stp (Y : Sq) (B : Nat) (U : Sto) (d : Sa) (U' : Sto) (d' : Sa) : Prop where
 nx : nx U <= nx U'
 ft : ∀ b,Aax Y d' b -> Aax Y d b ∨ B <= b
 fr : ∀ b,b < B -> ¬ Aax Y d b -> U'.get b = U.get b
section
variable {Y : Sq} {B B1 : Nat} {U U1 U2 τ : Sto} {d d1 d2 : Sa} {S : NS}
theorem Stp.refl : Stp Y B U d U d := ⟨nl,fun _ h => .inl h,fun _ _ _ => rfl⟩
theorem Stp.trans (h : Stp Y B U d U1 d1) (g : Stp Y B1 U1 d1 U2 d2) (hB : B <= B1) : Stp Y B U d U2 d2 := by
 refine ⟨ax_ h.nx g.nx,fun b hb => ?_,fun b hb hf => ?_⟩
 ·rcases g.ft b hb with hb | hb
  ·exact h.ft b hb
  ·exact .inr Om
 ·refine (g.fr b Om fun hh => ?_).trans (h.fr b hb hf)
  rcases h.ft b hh with hh | hh
  ·exact hf hh
  ·omega
theorem Stp.other (hn : AM.nx U <= AM.nx τ) (hg : ∀ b,b < B -> τ.get b = U.get b) : Stp Y B U d τ d := ⟨hn,fun _ h => .inl h,fun b hb _ => hg b hb⟩
theorem Sn.of_get (h : Sn Y U S d) (hn : nx U <= nx τ) (hg : ∀ b,Aax Y d b -> τ.get b = U.get b) : Sn Y τ S d :=
 ⟨(hg _ (.inl rfl)).trans h.c,h.on.of_get hn fun a ha => hg a (.inr (.inr (.inr (.inl ha)))),h.op.of_get hn fun a ha => hg a (.inr (.inr (.inr (.inr (.inl ha))))),h.ok.of_get hn fun a ha => hg a (.inr (.inr (.inr (.inr (.inr (.inl ha)))))),h.ow.of_get hn fun a ha => hg a (.inr (.inr (.inr (.inr (.inr (.inr ha)))))),
  h.gm.of_get (hg _ (.inr (.inl rfl))),h.gh.of_get (hg _ (.inr (.inr (.inl rfl)))),h.np,h.nc,h.nw,h.pc,h.pw,h.cw,h.an,h.ap,h.ac,h.aw,h.lo,al_ h.lA hn,al_ h.lk hn,al_ h.lh hn⟩
theorem Sn.foot_lt (h : Sn Y U S d) {b : Nat} (hb : Aax Y d b) : b < nx U := by
 rcases hb with rfl | rfl | rfl | hb | hb | hb | hb
 ·exact h.lA
 ·exact h.lk
 ·exact h.lh
 ·exact (h.on.adr_lt hb).2
 ·exact (h.op.adr_lt hb).2
 ·exact (h.ok.adr_lt hb).2
 ·exact (h.ow.adr_lt hb).2
theorem Own.notMap {N sz : Nat} {α : Type} {enc : α -> List AV} {l : List α} {v : AV} (h : Own U N enc sz l v) {b kt ver : Nat} {es : List (Key × AV)} (hb : U.get b = some (.map kt es ver)) : adr v ≠ some b := fun hh => by
 rcases h with ⟨_,rfl | rfl⟩ | ⟨a,tl,_,_,rfl,h4⟩
 ·cases hh
 ·cases hh
 ·simp only [adr,ad_] at hh; subst hh; rw [hb] at h4; cases h4
theorem Sn.setMap (h : Sn Y U S d) {b kt ver kt' ver' : Nat} {es es' : List (Key × AV)} (hb : U.get b = some (.map kt es ver)) : Own (U.set b (.map kt' es' ver')) Y.N eNd 2 S.nodes d.n /\ Own (U.set b (.map kt' es' ver')) Y.N eW 1 S.par d.p /\ Own (U.set b (.map kt' es' ver')) Y.N eC 2 S.known d.c /\ Own (U.set b (.map kt' es' ver')) Y.N eW 1 S.works d.w /\ (U.set b (.map kt' es' ver')).get Y.A = some (.cells (d.cells Y)) := by
 have hn : nx U <= nx (U.set b (.map kt' es' ver')) := by rw [Ac]; exact nl
 refine ⟨h.on.of_get hn fun a ha => ?_,h.op.of_get hn fun a ha => ?_,h.ok.of_get hn fun a ha => ?_,h.ow.of_get hn fun a ha => ?_,?_⟩
 ·rw [a_,if_neg (fun hh => by subst hh; exact h.on.notMap hb ha)]
 ·rw [a_,if_neg (fun hh => by subst hh; exact h.op.notMap hb ha)]
 ·rw [a_,if_neg (fun hh => by subst hh; exact h.ok.notMap hb ha)]
 ·rw [a_,if_neg (fun hh => by subst hh; exact h.ow.notMap hb ha)]
 ·rw [a_,if_neg]
  ·exact h.c
  ·intro hh; have := h.c; rw [hh,hb] at this; cases this
theorem Sn.setM (h : Sn Y U S d) {ver ver' : Nat} (hb : U.get d.k = some (.map 187 (Cz nV S.M) ver)) (M' : GM Kk Nat) : Sn Y (U.set d.k (.map 187 (Cz nV M') ver')) { S with M := M' } d := by
 obtain ⟨h1,h2,h3,h4,h5⟩ := h.setMap (kt' := 187) (es' := Cz nV M') (ver' := ver') hb
 refine ⟨h5,h1,h2,h3,h4,GAt.put,h.gh.of_get ?_,h.np,h.nc,h.nw,h.pc,h.pw,h.cw,h.an,h.ap,h.ac,h.aw,h.lo,by rw [Ac]; exact h.lA,by rw [Ac]; exact h.lk,by rw [Ac]; exact h.lh⟩
 rw [a_,if_neg];intro hh;obtain ⟨v,hv⟩ := h.gh;rw [hh,hb] at hv
 simp at hv
theorem Sn.setW (h : Sn Y U S d) {ver ver' : Nat} (hb : U.get d.h = some (.map 3 (Cz nV S.W) ver)) (W' : GM Int Nat) : Sn Y (U.set d.h (.map 3 (Cz nV W') ver')) { S with W := W' } d := by
 obtain ⟨h1,h2,h3,h4,h5⟩ := h.setMap (kt' := 3) (es' := Cz nV W') (ver' := ver') hb
 refine ⟨h5,h1,h2,h3,h4,h.gm.of_get ?_,GAt.put,h.np,h.nc,h.nw,h.pc,h.pw,h.cw,h.an,h.ap,h.ac,h.aw,h.lo,by rw [Ac]; exact h.lA,by rw [Ac]; exact h.lk,by rw [Ac]; exact h.lh⟩
 rw [a_,if_neg];intro hh;obtain ⟨v,hv⟩ := h.gm;rw [hh,hb] at hv
 simp at hv
theorem Dj.new' {v : AV} {x N sz sz' l' : Nat} {α : Type} {enc : α -> List AV} {l : List α} (h : Own U N enc sz l v) (hx : nx U <= x) : Dj (.sr x 0 sz' l' none) v := fun a h1 h2 => by
 simp only [adr,ad_] at h1;have := (h.adr_lt h2).2;omega
abbrev fu_ := @Dj.new'
theorem Sn.appN (h : Sn Y U S d) {x : Nd} {l' : Nat} (hn : nx τ = nx U + 1) (ho : Own τ Y.N eNd 2 (S.nodes ++ [x]) (.sr (nx U) 0 2 l' none)) (hg : ∀ a,a < nx U -> adr d.n ≠ some a -> τ.get a = U.get a) :
  Sn Y (τ.set Y.A (.cells (({ d with n := .sr (nx U) 0 2 l' none } : Sa).cells Y))) { S with nodes := S.nodes ++ [x] } ({ d with n := .sr (nx U) 0 2 l' none } : Sa) /\ Stp Y (nx U) U d (τ.set Y.A (.cells (({ d with n := .sr (nx U) 0 2 l' none } : Sa).cells Y))) ({ d with n := .sr (nx U) 0 2 l' none } : Sa) := by
 obtain ⟨vm,hvm⟩ := id h.gm;obtain ⟨vh,hvh⟩ := id h.gh;have hA := h.lA
 have hkA : d.k ≠ Y.A := fun hh => by have := h.c; rw [← hh,hvm] at this; cases this
 have hhA : d.h ≠ Y.A := fun hh => by have := h.c; rw [← hh,hvh] at this; cases this
 have hs : ∀ a,a < nx U -> adr d.n ≠ some a -> a ≠ Y.A -> (τ.set Y.A (.cells (({ d with n := .sr (nx U) 0 2 l' none } : Sa).cells Y))).get a = U.get a := fun a h1 h2 h3 => by rw [a_,if_neg h3]; exact hg a h1 h2
 have hn1 : nx U <= nx (τ.set Y.A (.cells (({ d with n := .sr (nx U) 0 2 l' none } : Sa).cells Y))) := by rw [Ac]; omega
 refine ⟨⟨by rw [a_,if_pos rfl],ho.of_get (by rw [Ac]; exact nl) (fun a ha => by simp only [adr,ad_] at ha; rw [a_,if_neg Om]),h.op.of_get hn1 (fun a ha => hs a (h.op.adr_lt ha).2 (fun hh => h.np a hh ha) (fun e => h.ap (e ▸ ha))),h.ok.of_get hn1 (fun a ha => hs a (h.ok.adr_lt ha).2 (fun hh => h.nc a hh ha) (fun e => h.ac (e ▸ ha))),h.ow.of_get hn1 (fun a ha => hs a (h.ow.adr_lt ha).2 (fun hh => h.nw a hh ha) (fun e => h.aw (e ▸ ha))),h.gm.of_get (hs _ h.lk (h.on.notMap hvm) hkA),h.gh.of_get (hs _ h.lh (h.on.notMap hvh) hhA),fu_ h.op nl,fu_ h.ok nl,fu_ h.ow nl,h.pc,h.pw,h.cw,(fun hh => by simp only [adr,ad_] at hh; omega),h.ap,h.ac,h.aw,h.lo,al_ h.lA hn1,al_ h.lk hn1,al_ h.lh hn1⟩,hn1,fun b hb => ?_,fun b hb hf => hs b hb (fun hh => hf (.inr (.inr (.inr (.inl hh))))) (fun hh => hf (.inl hh))⟩
 rcases hb with hb | hb | hb | hb | hb | hb | hb
 ·exact .inl (.inl hb)
 ·exact .inl (.inr (.inl hb))
 ·exact .inl (.inr (.inr (.inl hb)))
 ·simp only [adr,ad_] at hb; exact .inr Om
 ·exact .inl (.inr (.inr (.inr (.inr (.inl hb)))))
 ·exact .inl (.inr (.inr (.inr (.inr (.inr (.inl hb))))))
 ·exact .inl (.inr (.inr (.inr (.inr (.inr (.inr hb))))))
theorem Sn.appW (h : Sn Y U S d) {x : Nat} {l' : Nat} (hn : nx τ = nx U + 1) (ho : Own τ Y.N eW 1 (S.works ++ [x]) (.sr (nx U) 0 1 l' none)) (hg : ∀ a,a < nx U -> adr d.w ≠ some a -> τ.get a = U.get a) :
  Sn Y (τ.set Y.A (.cells (({ d with w := .sr (nx U) 0 1 l' none } : Sa).cells Y))) { S with works := S.works ++ [x] } ({ d with w := .sr (nx U) 0 1 l' none } : Sa) /\ Stp Y (nx U) U d (τ.set Y.A (.cells (({ d with w := .sr (nx U) 0 1 l' none } : Sa).cells Y))) ({ d with w := .sr (nx U) 0 1 l' none } : Sa) := by
 obtain ⟨vm,hvm⟩ := id h.gm;obtain ⟨vh,hvh⟩ := id h.gh;have hA := h.lA
 have hkA : d.k ≠ Y.A := fun hh => by have := h.c; rw [← hh,hvm] at this; cases this
 have hhA : d.h ≠ Y.A := fun hh => by have := h.c; rw [← hh,hvh] at this; cases this
 have hs : ∀ a,a < nx U -> adr d.w ≠ some a -> a ≠ Y.A -> (τ.set Y.A (.cells (({ d with w := .sr (nx U) 0 1 l' none } : Sa).cells Y))).get a = U.get a := fun a h1 h2 h3 => by rw [a_,if_neg h3]; exact hg a h1 h2
 have hn1 : nx U <= nx (τ.set Y.A (.cells (({ d with w := .sr (nx U) 0 1 l' none } : Sa).cells Y))) := by rw [Ac]; omega
 refine ⟨⟨by rw [a_,if_pos rfl],h.on.of_get hn1 (fun a ha => hs a (h.on.adr_lt ha).2 (fun hh => h.nw.symm a hh ha) (fun e => h.an (e ▸ ha))),h.op.of_get hn1 (fun a ha => hs a (h.op.adr_lt ha).2 (fun hh => h.pw.symm a hh ha) (fun e => h.ap (e ▸ ha))),h.ok.of_get hn1 (fun a ha => hs a (h.ok.adr_lt ha).2 (fun hh => h.cw.symm a hh ha) (fun e => h.ac (e ▸ ha))),ho.of_get (by rw [Ac]; exact nl) (fun a ha => by simp only [adr,ad_] at ha; rw [a_,if_neg Om]),h.gm.of_get (hs _ h.lk (h.ow.notMap hvm) hkA),h.gh.of_get (hs _ h.lh (h.ow.notMap hvh) hhA),h.np,h.nc,(fu_ h.on nl).symm,h.pc,(fu_ h.op nl).symm,(fu_ h.ok nl).symm,h.an,h.ap,h.ac,(fun hh => by simp only [adr,ad_] at hh; omega),h.lo,al_ h.lA hn1,al_ h.lk hn1,al_ h.lh hn1⟩,hn1,fun b hb => ?_,fun b hb hf => hs b hb (fun hh => hf (.inr (.inr (.inr (.inr (.inr (.inr hh))))))) (fun hh => hf (.inl hh))⟩
 rcases hb with hb | hb | hb | hb | hb | hb | hb
 ·exact .inl (.inl hb)
 ·exact .inl (.inr (.inl hb))
 ·exact .inl (.inr (.inr (.inl hb)))
 ·exact .inl (.inr (.inr (.inr (.inl hb))))
 ·exact .inl (.inr (.inr (.inr (.inr (.inl hb)))))
 ·exact .inl (.inr (.inr (.inr (.inr (.inr (.inl hb))))))
 ·simp only [adr,ad_] at hb; exact .inr Om
theorem Sn.appPC (h : Sn Y U S d) {x : Nat} {y : Kc} {lp lc : Nat} (hn : nx U1 = nx U + 1) (ho : Own U1 Y.N eW 1 (S.par ++ [x]) (.sr (nx U) 0 1 lp none)) (hg : ∀ a,a < nx U -> adr d.p ≠ some a -> U1.get a = U.get a)
  (hn2 : nx U2 = nx U1 + 1) (ho2 : Own U2 Y.N eC 2 (S.known ++ [y]) (.sr (nx U1) 0 2 lc none)) (hg2 : ∀ a,a < nx U1 -> adr d.c ≠ some a -> U2.get a = U1.get a) (hτ : nx τ = nx U2) (hA' : τ.get Y.A = some (.cells (({ d with p := .sr (nx U) 0 1 lp none,c := .sr (nx U1) 0 2 lc none } : Sa).cells Y))) (hgτ : ∀ a,a ≠ Y.A -> τ.get a = U2.get a) :
  Sn Y τ { S with par := S.par ++ [x],known := S.known ++ [y] } ({ d with p := .sr (nx U) 0 1 lp none,c := .sr (nx U1) 0 2 lc none } : Sa) /\ Stp Y (nx U) U d τ ({ d with p := .sr (nx U) 0 1 lp none,c := .sr (nx U1) 0 2 lc none } : Sa) := by
 obtain ⟨vm,hvm⟩ := id h.gm;obtain ⟨vh,hvh⟩ := id h.gh
 have hkA : d.k ≠ Y.A := fun hh => by have := h.c; rw [← hh,hvm] at this; cases this
 have hhA : d.h ≠ Y.A := fun hh => by have := h.c; rw [← hh,hvh] at this; cases this
 have hA := h.lA
 have hs : ∀ a,a < nx U -> adr d.p ≠ some a -> adr d.c ≠ some a -> a ≠ Y.A -> τ.get a = U.get a := fun a h1 h2 h3 h4 => by rw [hgτ a h4,hg2 a Om h3]; exact hg a h1 h2
 have hn1 : nx U <= nx τ := by omega
 refine ⟨⟨hA',h.on.of_get hn1 (fun a ha => hs a (h.on.adr_lt ha).2 (fun hh => h.np.symm a hh ha) (fun hh => h.nc.symm a hh ha) (fun e => h.an (e ▸ ha))),ho.of_get Om (fun a ha => by simp only [adr,ad_] at ha; rw [hgτ a Om,hg2 a Om (fun hh => by have := (h.ok.adr_lt hh).2; omega)]),ho2.of_get Om (fun a ha => by simp only [adr,ad_] at ha; rw [hgτ a Om]),h.ow.of_get hn1 (fun a ha => hs a (h.ow.adr_lt ha).2 (fun hh => h.pw a hh ha) (fun hh => h.cw a hh ha) (fun e => h.aw (e ▸ ha))),h.gm.of_get (hs _ h.lk (h.op.notMap hvm) (h.ok.notMap hvm) hkA),h.gh.of_get (hs _ h.lh (h.op.notMap hvh) (h.ok.notMap hvh) hhA),
  (fu_ h.on nl).symm,(fu_ h.on Om).symm,h.nw,fun a h1 h2 => by simp only [adr,ad_] at h1 h2; omega,fu_ h.ow nl,fu_ h.ow Om,h.an,fun hh => by simp only [adr,ad_] at hh; omega,fun hh => by simp only [adr,ad_] at hh; omega,h.aw,h.lo,by omega,by have := h.lk; show d.k < nx τ; omega,by have := h.lh; show d.h < nx τ; omega⟩,hn1,fun b hb => ?_,fun b hb hf => hs b hb (fun hh => hf (.inr (.inr (.inr (.inr (.inl hh)))))) (fun hh => hf (.inr (.inr (.inr (.inr (.inr (.inl hh))))))) (fun hh => hf (.inl hh))⟩
 rcases hb with hb | hb | hb | hb | hb | hb | hb
 ·exact .inl (.inl hb)
 ·exact .inl (.inr (.inl hb))
 ·exact .inl (.inr (.inr (.inl hb)))
 ·exact .inl (.inr (.inr (.inr (.inl hb))))
 ·simp only [adr,ad_] at hb; exact .inr Om
 ·simp only [adr,ad_] at hb; exact .inr Om
 ·exact .inl (.inr (.inr (.inr (.inr (.inr (.inr hb))))))
end
end
section
open Go Go.Proofs
theorem keyK (l : Str) (a b : Int) : Er Ew.P 187 (.agg [sV l,iV a,iV b]) = some (KE.k (κ := Kk) (l,a,b)) := by
 show Er Ew.P 187 (.agg [.str (l.map UInt8.toNat),.int .i64 a,.int .i64 b]) = some (.agg [.str (l.map UInt8.toNat),.int .i64 a,.int .i64 b])
 generalize l.map UInt8.toNat = s
 kernel_rfl
theorem f105a (Y : Sq) {S : NS} {d : Sa} {U : Sto} (k : Kk) (hS : Sn Y U S d) {n : Nat} (hg : S.M.get k = some n) : Cv 105 [.pr Y.A 0,.agg [sV k.1,iV k.2.1,iV k.2.2]] U (nV n) := by
 refine An Tryz.func105 rfl rfl fun hw hu0 => ?_
 refine G6 ?_;refine X0 ?_;refine G3 ?_;refine DF (A5 hS.c ldC rfl rfl) ?_;refine G ?_;refine DF (Oz (k := k) Agp rfl hS.gm rfl (keyK _ _ _)) ?_;refine G6 ?_;refine ⟨rfl,rfl,?_⟩;refine G6 ?_;refine Ab rfl ?_ ?_ <;> intro h1
 ·exact absurd h1 (by simp [hg])
 ·skip
  refine G3 ?_
  refine O1 (Al (v := nV n) (by show some (((S.M.get k).map nV).getD _) = _; rw [hg]; rfl)) ?_
  refine G2 ?_;refine C3 fun hw9 => ?_
  refine G ?_;exact ⟨_,rfl,_,_,ag_ hw9 nl (fun _ _ => rfl),nl,.same rfl,rfl,rfl⟩
theorem f105b (Y : Sq) {S : NS} {d : Sa} {U : Sto} (k : Kk) (hS : Sn Y U S d) {vm : Nat} (hvm : U.get d.k = some (.map 187 (Cz nV S.M) vm)) (hg : S.M.get k = none) : Ao Ew 105 [.pr Y.A 0,.agg [sV k.1,iV k.2.1,iV k.2.2]] U fun v U' => v = nV S.M.length /\ U' = U.set d.k (.map 187 (Cz nV (S.M.put k S.M.length)) (vm + 1)) := by
 refine An Tryz.func105 rfl rfl fun hw hu0 => ?_
 refine G6 ?_;refine X0 ?_;refine G3 ?_;refine DF (A5 hS.c ldC rfl rfl) ?_;refine G ?_;refine DF (Oz (k := k) Agp rfl hS.gm rfl (keyK _ _ _)) ?_;refine G6 ?_;refine ⟨rfl,rfl,?_⟩;refine G6 ?_;refine Ab rfl ?_ ?_ <;> intro h1
 ·skip
  refine G5 ?_;refine O1 (A5 hS.c ldC rfl rfl) (O1 (Aq8 (ver := 0) Agp rfl hS.gm) ?_);refine G2 ?_;refine XS (l := []) trivial ?_;refine G3 ?_;refine DF (A5 hS.c ldC rfl rfl) ?_;refine G2 ?_;refine DT (X1 (enc := nV) (k := k) (v := S.M.length) Agp rfl hvm rfl (keyK _ _ _) rfl (fun te k1 k2 => Gu k1 k2)) ?_
  refine G6 ?_;refine C3 fun hw9 => ?_
  refine G ?_
  exact ⟨_,rfl,_,_,ag_ hw9 nl (fun _ _ => rfl),by rw [Ac]; exact nl,.same rfl,rfl,rfl⟩
 ·exact absurd h1 (by simp [hg])
theorem f105 (Y : Sq) {S : NS} {d : Sa} {U : Sto} (k : Kk) (hS : Sn Y U S d) : ∃ τ,(Ao Ew 105 [.pr Y.A 0,.agg [sV k.1,iV k.2.1,iV k.2.2]] U fun v U' => v = nV (Fg S.M k).1 /\ U' = τ) /\ Sn Y τ { S with M := (Fg S.M k).2 } d /\ Stp Y (nx U) U d τ d := by
 unfold Fg;cases hg : S.M.get k with
 | some n => exact ⟨U,f105a Y k hS hg,hS,.refl⟩
 | none =>
  obtain ⟨vm,hvm⟩ := id hS.gm
  refine ⟨_,f105b Y k hS hvm hg,hS.setM hvm _,by rw [Ac]; exact nl,fun _ h => .inl h,fun b hb hf => ?_⟩
  rw [a_,if_neg (fun hh => hf (.inr (.inl hh)))]
theorem f106 (Y : Sq) {S : NS} {d : Sa} {U : Sto} (c : Kc) (hS : Sn Y U S d) (hb : S.par.length <= 1000000) (hk : S.known.length = S.par.length) : ∃ τ d',(Ao Ew 106 [.pr Y.A 6,.agg (eC c)] U fun v U' => v = nV S.par.length /\ U' = τ) /\ Sn Y τ { S with par := S.par ++ [S.par.length],known := S.known ++ [c] } d' /\ Stp Y (nx U) U d τ d' := by
 have hA := hS.lA
 obtain ⟨U1,dw,hn1,ho1,hg1⟩ := ff_ (by' := 8) E4 (ef_ (dd_ hS.lo hA)) hS.op S.par.length (by simp only [sizeLim]; omega)
 have qq : Own U1 Y.N eC 2 S.known d.c := hS.ok.of_get Om fun a ha => hg1 a (hS.ok.adr_lt ha).2 (fun hh => hS.pc a hh ha)
 obtain ⟨U2,gz,hn2,ho2,hg2⟩ := ff_ (by' := 16) Nj (by have := hS.lo; omega) qq c (by simp only [sizeLim]; omega)
 have hc1 : U1.get Y.A = some (.cells (d.cells Y)) := (hg1 _ hA hS.ap).trans hS.c;have hc2 : U2.get Y.A = some (.cells (d.cells Y)) := (hg2 _ Om hS.ac).trans hc1
 refine ⟨(U2.set Y.A (.cells (({ d with p := .sr (nx U) 0 1 (S.par.length + 1) none } : Sa).cells Y))).set Y.A (.cells (({ d with p := .sr (nx U) 0 1 (S.par.length + 1) none,c := .sr (nx U1) 0 2 (S.known.length + 1) none } : Sa).cells Y)),_,?_,hS.appPC hn1 ho1 hg1 hn2 ho2 hg2 (by rw [Ac,Ac]) (by rw [a_,if_pos rfl]) fun a ha => by rw [a_,if_neg ha,a_,if_neg ha]⟩
 refine An Tryz.func106 rfl rfl fun hw hu0 => ?_
 refine G6 ?_;refine Rc (Rr := Dl []) (anns := [⟨.pure,0,2⟩,⟨.pure,0,3⟩,⟨.pure,0,0⟩,⟨.pure,0,0⟩,⟨.pure,0,0⟩,⟨.read,0,0⟩,⟨.pure,0,0⟩,⟨.pure,0,0⟩,⟨.pure,0,0⟩,⟨.read,0,0⟩,⟨.read,0,0⟩,⟨.pure,0,0⟩,⟨.eff,0,1⟩,⟨.pure,0,1⟩,⟨.pure,0,1⟩,⟨.pure,0,1⟩,⟨.read,0,1⟩,⟨.read,0,1⟩,⟨.pure,0,1⟩,⟨.eff,1,2⟩,⟨.pure,2,2⟩,⟨.pure,2,2⟩,⟨.eff,2,3⟩,⟨.pure,3,3⟩,⟨.pure,3,3⟩,⟨.eff,3,4⟩]) E8 (Da trivial) Kr ?_;refine G5 ?_;refine DF (A5 hS.c ldC rfl rfl) ?_;refine G3 ?_;refine DF (A5 hS.c ldC rfl rfl) (DF (B0 slC rfl hS.op.lenA.1 hS.op.lenA.2) (DF (As elC byW rfl rfl rfl) (DT (A3 elC rfl slC rfl rfl rfl (new := eW S.par.length) rfl dw) ?_)));refine G3 ?_;refine DF (A5 hc1 ldC rfl rfl) ?_;refine G ?_;refine DF (As elC byW rfl rfl rfl) (DT (A3 elC rfl slC rfl rfl rfl (new := eC c) rfl gz) ?_);refine G2 ?_;refine DT (E3 (cs' := ({ d with p := .sr (nx U) 0 1 (S.par.length + 1) none } : Sa).cells Y) hc2 ldC rfl rfl rfl rfl) ?_;refine G2 ?_
 refine DT (E3 (cs' := ({ d with p := .sr (nx U) 0 1 (S.par.length + 1) none,c := .sr (nx U1) 0 2 (S.known.length + 1) none } : Sa).cells Y) (by rw [a_,if_pos rfl]) ldC rfl rfl rfl rfl) ?_
 refine G ?_
 refine ⟨⟨trivial,trivial,trivial,trivial,trivial,(fun s hs => by simp at hs; subst hs; exact ⟨_,A5 hS.c (ldC (t := 122)) rfl rfl⟩),trivial,trivial,trivial,(fun s hs => by simp at hs; subst hs; exact ⟨_,A5 hS.c (ldC (t := 122)) rfl rfl⟩),(fun s hs => by simp at hs; subst hs; exact ⟨_,B0 (slC (t := 122)) rfl hS.op.lenA.1 hS.op.lenA.2⟩),trivial,trivial,trivial,trivial,trivial,(fun s hs => by simp at hs; rcases hs with rfl | rfl; exact ⟨_,A5 hS.c (ldC (t := 123)) rfl rfl⟩; exact ⟨_,A5 hc1 (ldC (t := 123)) rfl rfl⟩),(fun s _ => ⟨_,Ad (ldC (t := 136)) rfl rfl rfl⟩),trivial,trivial,trivial,trivial,trivial,trivial,trivial,trivial,trivial⟩,?_⟩
 refine G5 ?_
 refine O1 (A5 (cs := ({ d with p := .sr (nx U) 0 1 (S.par.length + 1) none,c := .sr (nx U1) 0 2 (S.known.length + 1) none } : Sa).cells Y) (by rw [a_,if_pos rfl]) ldC rfl rfl) ?_
 refine O1 (B0 (n := S.par.length + 1) slC rfl rfl rfl) (O1 (Ly (p := S.par.length + 1) (q := 1) okC rfl rfl Om Om) ?_);refine G2 ?_;refine C3 fun hw9 => ?_
 refine G ?_
 exact ⟨_,rfl,_,_,ag_ hw9 nl (fun _ _ => rfl),by rw [Ac,Ac]; omega,.same rfl,rfl,rfl⟩
end
end Go.AM
