/- A part of the proof; shortened by program. -/
import Derived.Test.YtadnlmhnjfmleaaGreatDoorP23
set_option maxRecDepth 100000
set_option maxHeartbeats 4000000
set_option linter.unusedSimpArgs false
set_option linter.unusedVariables false
namespace Go.AM
open Go Go.Proofs
theorem Adt {E : Env} {ρ : Ad} {J : Sto} {Rr : Rec} {t n sz a off i j : Nat} {agg : Bool} {x : Operand} {vs : List AV} {lo hi mx : Option Operand} {alo ahi amx : Option AV} {c : Option Nat} (har : arI E.P t = some (n,sz,agg)) (hx : Ai E ρ x = some (.pr a off)) (hg : J.get a = some (.cells vs))
  (hl : (Nat.ble 1 vs.length && Nat.ble (off + n * sz) vs.length) = true) (h1 : Iy E ρ lo = some alo) (h2 : Iy E ρ hi = some ahi) (h3 : Iy E ρ mx = some amx) (hb : C1 n (some n) alo ahi amx = some (i,j,c)) :
  A0 E Rr (.slice t x lo hi mx) ρ J (.sr a (off + i * sz) sz (j - i) c) J := fun tm h => by
 unfold arI at har
 split at har
 ·rename_i ti hti
  split at har
  ·rename_i nn e he
   split at har
   ·rename_i te hte
    simp only [ac_,ax_] at har;obtain ⟨k1,k2,k3⟩ := har;subst k1 k2;simp only [opA,Ar,hti,he,hte,h.opd hx,h.opdO h1,h.opdO h2,h.opdO h3,Lz,Sto.cells,hg,hl,hb,Ag]
   ·cases har
  ·cases har
 ·cases har
def rlV (r : Rl) : AV := .agg (eR r)
def syV (y : Sy) : AV := .agg (eSy y)
def mgV (m : Mg) : AV := .agg (eMg m)
def B5 (d : Db) (s : Stc) (k r y : Nat) : List AV := [iV s.size,slV eSo 2 s.sorts,slV eSy 3 s.syms,Aj d.consts,Aj d.vars,slV eF 8 d.frames,.mp k,.mp r,.mp y]
structure Gl (d : Db) (s : Stc) (km : SM Int) (rm : SM Rl) (sm : SM Sy) (a k r y : Nat) (J : Sto) : Prop where
 cl : J.get a = some (.cells (B5 d s k r y))
 ks : A8 iV J k km
 rs : A8 rlV J r rm
 ss : A8 syV J y sm
theorem Gl.of_get {d : Db} {s : Stc} {km : SM Int} {rm : SM Rl} {sm : SM Sy} {a k r y : Nat} {J τ : Sto} (h : Gl d s km rm sm a k r y J) (ha : τ.get a = J.get a) (hk : τ.get k = J.get k) (hr : τ.get r = J.get r) (hy : τ.get y = J.get y) : Gl d s km rm sm a k r y τ := by
 obtain ⟨h1,⟨v2,h2⟩,⟨v3,h3⟩,⟨v4,h4⟩⟩ := h;exact ⟨ha.trans h1,⟨v2,hk.trans h2⟩,⟨v3,hr.trans h3⟩,⟨v4,hy.trans h4⟩⟩
theorem f53 (d : Db) (s : Stc) (a kq rq yq : Nat) (k : Int) (J : Sto) (hgw : J.get a = some (.cells (B5 d s kq rq yq))) : Cv 53 [.pr a 0,iV k] J (iV (Ct s.size k)) := by
 refine Ak Tryz.func53 rfl rfl fun hw hu0 => ?_
 refine G10 ?_;refine Ab rfl ?_ ?_ <;> intro h1
 ·have h3 : k = 3 := by simpa using h1
  refine G5 ?_;refine A2 hw rfl ?_;unfold Ct; rw [if_pos h3]; rfl
 ·have h3 : ¬ k = 3 := by simpa using h1
  refine G7 ?_;refine O1 (A4 hgw ldC rfl (show Be 1 false ((B5 d s kq rq yq).drop 0) = some (iV s.size) from rfl)) ?_
  refine G3 ?_;refine A2 hw rfl ?_;unfold Ct; rw [if_neg h3]; rfl
theorem f52 (d : Db) (s : Stc) (a kq rq yq : Nat) (x k : Int) (J : Sto) (hgw : J.get a = some (.cells (B5 d s kq rq yq))) : Cv 52 [iV x,.pv [.pr a 0],.pv [iV k]] J (.bool (decide (x < 0) || decide (Ct s.size k <= x))) := by
 refine Ak Tryz.func52 rfl rfl fun hw hu0 => ?_
 refine G9 ?_;refine TOr 5 ?_ (fun hg => ?_) ?_
 rotate_left
 ·iterate 3 refine Gn hg ?_
  refine Bg rfl rfl rfl (by rw [hg]; rfl) rfl rfl rfl rfl (f53 d s a kq rq yq k _ hgw) ?_
  refine Gn hg ?_;exact Ez
 refine G3 ?_;refine A2 hw rfl ?_
 rfl
theorem f35 (d : Db) (s : Stc) (a kq rq yq : Nat) (l : List Int) (k : Int) (J : Sto) (hgw : J.get a = some (.cells (B5 d s kq rq yq))) (hb : l.length < 1000000) : Cv 35 [.pr a 0,slV eI 1 l,iV k] J (.bool (Wc s.size k l)) := by
 refine Ak Tryz.func35 rfl rfl fun hw hu0 => ?_
 refine G10 ?_
 refine Af rfl rfl rfl rfl (f29 (fun v => decide (v < 0) || decide (Ct s.size k <= v)) l 52 [.pv [.pr a 0],.pv [iV k]] _ Om (fun x _ => f52 d s a kq rq yq x k _ hgw)) ?_
 refine G4 ?_;refine A2 hw rfl ?_
 rfl
theorem Own.setAt {J : Sto} {N sz i : Nat} {α : Type} {enc : α -> List AV} {l : List α} {v : AV} (h : Own J N enc sz l v) (hi : i < l.length) (u : α) :
  ∃ a tl,N <= a /\ a < nx J /\ v = .sr a 0 sz l.length none /\ J.get a = some (.cells (l.flatMap enc ++ tl)) /\ Own (J.set a (.cells ((l.set i u).flatMap enc ++ tl))) N enc sz (l.set i u) v := by
 rcases h with ⟨rfl,_⟩ | ⟨a,tl,h1,h2,h3,h4⟩
 ·simp at hi
 ·exact ⟨a,tl,h1,h2,h3,h4,.inr ⟨a,tl,h1,by rw [Ae]; exact h2,by rw [dh_]; exact h3,by rw [a_,if_pos rfl]⟩⟩
def Aa0 (ps : List Pt) (l : List Str) : List Str := ps.foldl (fun l p => if p.sort = [] then l else l.set p.arg.toNat p.sort) l
def nP (ps : List Pt) : Nat := (ps.filter Uq).length
theorem Alq {ps : List Pt} {i : Nat} {p : Pt} (h : ps[i]? = some p) : nP (ps.take (i + 1)) = nP (ps.take i) + if Uq p = true then 1 else 0 := by
 unfold nP;rw [Bb h,dy_,aw_]
 congr 1
 cases hq : Uq p <;> simp [hq]
theorem Aa1 {ps : List Pt} {i : Nat} {p : Pt} {o : List Str} (h : ps[i]? = some p) : Aa0 (ps.take (i + 1)) o = if p.sort = [] then Aa0 (ps.take i) o else (Aa0 (ps.take i) o).set p.arg.toNat p.sort := by
 unfold Aa0;rw [Bb h,dp_]; rfl
theorem Am9 (l : List Pt) (o : List Str) : (Aa0 l o).length = o.length := Kx l o
def Aj0 (r : Rl) : Prop := ∀ p ∈ r.parts,p.sort ≠ [] -> ∃ j : Nat,p.arg = .ofNat j /\ j < Kw r
theorem f55 (r : Rl) (J : Sto) (hb : r.parts.length < 1000000) (hv : Aj0 r) : Cv 55 [.agg (eR r)] J (Aj (Az r)) := by
 refine Ak Tryz.func55 rfl rfl fun hw hu0 => ?_
 iterate 18 refine G ?_
 refine Dt (fun q : Nat × AV => [(1,.pv (eR r)),(3,q.2),(9,slV ePt 3 r.parts),(10,iV (.ofNat r.parts.length)),(11,iV (.ofNat q.1))]) (fun q J0 => q.1 <= r.parts.length /\ Own J0 (nx J) e1 1 (List.replicate (nP (r.parts.take q.1)) ([] : Str)) q.2 /\ Below (nx J) J J0) (fun q => r.parts.length - q.1) (0,.nil (.slice none 0 0)) SL ⟨ca_ _,.nil,dv_⟩ ?_
 rintro ⟨i0,v0⟩ J0 hP0;obtain ⟨hi0,br,bh⟩ : i0 <= r.parts.length /\ Own J0 (nx J) e1 1 (List.replicate (nP (r.parts.take i0)) ([] : Str)) v0 /\ Below (nx J) J J0 := hP0;refine G5 ?_;refine Ab rfl ?_ ?_ <;> intro h1
 ·have bc : i0 < r.parts.length := by simpa using h1
  obtain ⟨a0,ha0⟩ := A3 bc;have hd0 := Av ha0
  iterate 13 refine G ?_
  refine O1 (Lr (q := []) okC rfl rfl) ?_;refine G ?_;refine Ab rfl ?_ ?_ <;> intro h2
  ·have bo : ((List.replicate (nP (r.parts.take i0)) ([] : Str)).length + [([] : Str)].length) * (16 + 1) <= sizeLim := by
    have := co_ Uq (r.parts.take i0);rw [cg_]; unfold nP;rw [b_] at this
    simp [sizeLim]; omega
   obtain ⟨v1,τ1,hap,ho1,hb1,_⟩ := ed_ (by' := 16) (enc := e1) (sz := 1) (fun _ => rfl) bh.1 br [([] : Str)] bo
   have hap : Cf J0 1 16 v0 1 (e1 []) = some (v1,τ1) := by simpa using hap
   refine G2 ?_;refine Dz (Ay elC byW rfl rfl rfl) (Fk (len := 1)) rfl rfl (O1 (A1 elC rfl slC rfl rfl rfl (new := e1 []) rfl hap) ?_);refine G6 ?_
   refine ⟨(i0 + 1,v1),by show r.parts.length - (i0 + 1) < r.parts.length - i0; omega,SL,bc,by rw [Alq ha0,if_pos (show Uq a0 = true from h2),List.replicate_succ']; exact ho1,bh.trans hb1⟩
  ·refine G5 ?_
   refine ⟨(i0 + 1,v0),by show r.parts.length - (i0 + 1) < r.parts.length - i0; omega,SL,bc,by rw [Alq ha0,if_neg (by rw [show Uq a0 = false from h2]; simp),dx_]; exact br,bh⟩
 ·have bm : r.parts.length <= i0 := by simpa using h1
  rw [ar_ bm] at br;refine G10 ?_;refine Bh r.parts.length (fun i2 => [(3,v0),(23,slV ePt 3 r.parts),(24,iV (.ofNat r.parts.length)),(25,iV (.ofNat i2))]) (fun i2 J2 => Own J2 (nx J) e1 1 (Aa0 (r.parts.take i2) (List.replicate (nP r.parts) ([] : Str))) v0 /\ Below (nx J) J J2) SL ⟨br,bh⟩ ?_
  rintro i2 J2 hi2 ⟨b6,ba⟩;refine G5 ?_;refine Ab rfl ?_ ?_ <;> intro h2
  ·have bz : i2 < r.parts.length := by simpa using h2
   obtain ⟨a2,ha2⟩ := A3 bz;have hd2 := Av ha2
   iterate 13 refine G ?_
   refine O1 (Lr (q := []) okC rfl rfl) ?_;refine G ?_;refine Ab rfl ?_ ?_ <;> intro h3
   ·have h3' : ¬ a2.sort = [] := by simpa using h3
    obtain ⟨j,hj,hjl⟩ := hv a2 (af_ ha2) h3'
    have jt : j < (Aa0 (r.parts.take i2) (List.replicate (nP r.parts) ([] : Str))).length := by rw [Am9,cg_]; exact hjl
    obtain ⟨b,tl,hNb,hbn,hvb,cw,c8⟩ := b6.setAt jt a2.sort;refine G6 ?_
    refine O1 (Is (i := j) (k := .i64) elC (by rw [← hvb]; rfl) (by rw [← hj]; rfl) jt) ?_
    refine O1 (Aji (enc := e1) (u := a2.sort) (i := j) (fun _ => rfl) ldC rfl rfl rfl cw jt) ?_
    refine G5 ?_
    refine ⟨bz,SL,⟨by rw [Aa1 ha2,if_neg h3',hj]; exact c8,by rw [Ae]; exact ba.1,fun b' hb' => by rw [a_,if_neg Om]; exact ba.2 b' hb'⟩⟩
   ·have h3' : a2.sort = [] := by simpa using h3
    refine G5 ?_
    refine ⟨bz,SL,⟨by rw [Aa1 ha2,if_pos h3']; exact b6,ba⟩⟩
  ·have b9 : r.parts.length <= i2 := by simpa using h2
   rw [ar_ b9] at b6;refine G7 ?_;exact ⟨_,rfl,Aj (Az r),J,as_ hw ba,nl,b6.fz (fun _ => rfl) (fun a ha => hw.none ha) (Br Lf _),rfl,rfl⟩
theorem G1 {E : Env} {ρ : Ad} {J : Sto} {Rr : Rec} {t r sz : Nat} {x y : Operand} {agg : Bool} {m : SM Int} {s : Str} (h9 : Fb E.P 9 = true) (hi : mpI E.P t = some (9,iV 0,sz,agg)) (hx : Ai E ρ x = some (.mp r)) (hm : A8 iV J r m) (hy : Ai E ρ y = some (sV s)) :
  A0 E Rr (.lookup t x y false) ρ J (iV (kd m s)) J := by
 have := Ae6 (Rr := Rr) h9 hi hx hm hy
 rwa [show ((m.get s).map iV).getD (iV 0) = iV (kd m s) by unfold kd; cases m.get s <;> rfl] at this
theorem Adu {n : Int} (h : 1 <= n) : ∀ (k : Nat) (c : Int),1 <= c -> c <= 10000 -> 1 <= Ce n 10000 k c /\ Ce n 10000 k c <= 10001
 | 0,c,h1,h2 => by unfold Ce; omega
 | k + 1,c,h1,h2 => by
  unfold Ce;have : 1 * 1 <= c * n := Int.mul_le_mul h1 h Om Om
  split
  ·omega
  ·rename_i h3
   simp only [decide_eq_true_eq] at h3;exact Adu h k _ Om Om
theorem Atn {W : Wd} {b : Int} {i : Nat} {s : Str} (h1 : 1 <= W.n) (h3 : W.n <= 3) : 1 <= fac W b i s /\ fac W b i s <= 10001 := by
 have a := P4 (k := kd W.km s) h1;have b' := Afm (k := kd W.km s) h3;unfold fac
 split
 ·omega
 ·split
  ·omega
  ·exact Adu a _ _ Om Om
theorem f65 (d : Db) (s : Stc) (W : Wd) (r : Rl) (b : Int) (a kq rq yq : Nat) (J : Sto) (hgw : J.get a = some (.cells (B5 d s kq rq yq))) (hk : A8 iV J kq W.km) (hn : W.n = s.size) (g1 : 1 <= W.n) (g3 : W.n <= 3) (hb : r.parts.length < 1000000) (hv : Aj0 r) : Cv 65 [.pr a 0,.agg (eR r),iV b] J (iV (I3 W b (Az r) 0 1)) := by
 obtain ⟨nn,hsz⟩ := Int.eq_ofNat_of_zero_le (show 0 <= s.size by omega)
 have hal : (Az r).length < 1000000 := by rw [Ip]; exact ek_ (co_ _ _) hb
 refine Ak Tryz.func65 rfl rfl fun hw hu0 => ?_
 iterate 13 refine G ?_
 refine Af rfl rfl rfl rfl (f55 r _ hb hv) ?_;refine G4 ?_
 refine Dt (fun q : Nat × AV => [(0,.pr a 0),(2,iV b),(7,q.2),(12,Aj (Az r)),(13,iV (.ofNat (Az r).length)),(14,iV (.ofNat q.1))]) (fun q J0 => q.1 <= (Az r).length /\ J0 = J /\ ∃ c,q.2 = iV c /\ 1 <= c /\ c <= 10000 /\ I3 W b (Az r) 0 1 = I3 W b ((Az r).drop q.1) q.1 c) (fun q => (Az r).length - q.1) (0,iV 1) SL ⟨ca_ _,rfl,1,rfl,by omega,by omega,rfl⟩ ?_
 rintro ⟨i0,v0⟩ J0 hP0;obtain ⟨hi0,rfl,c0,rfl,hc1,hc2,hf0⟩ : i0 <= (Az r).length /\ J0 = J /\ ∃ c,v0 = iV c /\ 1 <= c /\ c <= 10000 /\ I3 W b (Az r) 0 1 = I3 W b ((Az r).drop i0) i0 c := hP0;refine G5 ?_;refine Ab rfl ?_ ?_ <;> intro h1
 ·have bc : i0 < (Az r).length := by simpa using h1
  obtain ⟨a0,ha0⟩ := A3 bc;have hd0 := Av ha0;rw [hd0,I3] at hf0
  have hva := P4 (k := kd W.km a0) (show 1 <= s.size by omega)
  have hvb := Afm (k := kd W.km a0) (show s.size <= 3 by omega)
  obtain ⟨hfa,hfb⟩ := Atn (W := W) (b := b) (i := i0) (s := a0) g1 g3;have hm0 : c0 * fac W b i0 a0 <= 10000 * 10001 := Int.mul_le_mul hc2 hfb Om Om;have hm1 : 1 * 1 <= c0 * fac W b i0 a0 := Int.mul_le_mul hc1 hfa Om Om
  iterate 17 refine G ?_
  refine O1 (A4 hgw ldC rfl (show Be 1 false ((B5 d s kq rq yq).drop 6) = some (.mp kq) from rfl)) ?_
  refine G ?_;refine O1 (G1 st9 Lu rfl hk rfl) (Af rfl rfl rfl rfl (f53 d s a kq rq yq (kd W.km a0) _ hgw) ?_);refine G8 ?_;refine Ab rfl ?_ ?_ <;> intro h2
  ·have hb0 : ¬ b < 0 := by have := h2; simp at this; omega
   refine G7 ?_;refine Ab rfl ?_ ?_ <;> intro h3
   ·have hi0b : Int.ofNat i0 = b := by simpa using h3
    have d5 : fac W b i0 a0 = 1 := by unfold fac; rw [if_neg hb0,if_pos hi0b]
    refine G5 ?_
    refine ⟨(i0 + 1,iV c0),by show (Az r).length - (i0 + 1) < (Az r).length - i0; omega,SL,bc,rfl,c0,rfl,hc1,hc2,by rw [hf0,d5,Int.mul_one,if_neg (by simp; omega)]⟩
   ·have hi0b : ¬ Int.ofNat i0 = b := by simpa using h3
    have d5 : fac W b i0 a0 = Ce (Ct s.size (kd W.km a0)) 10000 nn 1 := by unfold fac; rw [if_neg hb0,if_neg hi0b,hn,hsz]; rfl
    rw [d5] at hm0 hm1;refine G7 ?_
    refine O1 (A4 hgw ldC rfl (show Be 1 false ((B5 d s kq rq yq).drop 0) = some (iV (.ofNat nn)) from by rw [show Int.ofNat nn = s.size from hsz.symm]; rfl)) ?_
    refine Af rfl rfl rfl rfl (f34 (Ct s.size (kd W.km a0)) nn _ hva hvb Om) ?_;refine G6 ?_;refine O1 (Q2 okC rfl rfl Om Om) ?_;refine G7 ?_;refine Ab rfl ?_ ?_ <;> intro h4
    ·rw [d5,if_pos h4] at hf0;refine G5 ?_;refine A2 hw rfl ?_;rw [hf0]; rfl
    ·skip
     refine G5 ?_
     refine ⟨(i0 + 1,iV (c0 * Ce (Ct s.size (kd W.km a0)) 10000 nn 1)),by show (Az r).length - (i0 + 1) < (Az r).length - i0; omega,SL,bc,rfl,_,rfl,by omega,by simpa using h4,by rw [hf0,d5,if_neg (by rw [h4]; simp)]⟩
  ·have hb0 : b < 0 := by have := h2; simp at this; omega
   have d5 : fac W b i0 a0 = Ct s.size (kd W.km a0) := by unfold fac; rw [if_pos hb0,hn]
   rw [d5] at hm0 hm1;refine G5 ?_;refine O1 (Q2 okC rfl rfl Om Om) ?_;refine G7 ?_;refine Ab rfl ?_ ?_ <;> intro h3
   ·rw [d5,if_pos h3] at hf0;refine G5 ?_;refine A2 hw rfl ?_;rw [hf0]; rfl
   ·skip
    refine G5 ?_
    refine ⟨(i0 + 1,iV (c0 * (Ct s.size (kd W.km a0)))),by show (Az r).length - (i0 + 1) < (Az r).length - i0; omega,SL,bc,rfl,_,rfl,by omega,by simpa using h3,by rw [hf0,d5,if_neg (by rw [h3]; simp)]⟩
 ·have bm : (Az r).length <= i0 := by simpa using h1
  rw [ah_ bm,I3] at hf0;refine G7 ?_;refine A2 hw rfl ?_;rw [hf0]; rfl
theorem Adv : ∀ l : List Int,l.map iV = l.flatMap (fun x => [iV x]) ++ []
 | [] => rfl
 | x :: l => by rw [cd_,Adv l]; rfl
def I5 (a q k : Nat) : List AV := [.pr a 0,.mp q,iV (.ofNat k)]
theorem bnd6 {k : Nat} (hk : k <= 6) : C1 6 (some 6) none (some (iV (.ofNat k))) none = some (0,k,some 6) := by
 have : k = 0 ∨ k = 1 ∨ k = 2 ∨ k = 3 ∨ k = 4 ∨ k = 5 ∨ k = 6 := by omega
 rcases this with rfl | rfl | rfl | rfl | rfl | rfl | rfl <;> rfl
theorem Ato {n : Int} {at' : List Int} {i : Nat} (h1 : 1 <= n) (h3 : n <= 3) (hat : Mi n at') (hi : i <= 6) : 0 <= Js n (at'.take i) /\ Js n (at'.take i) <= 729 := by
 obtain ⟨a,b⟩ := Adg h1 (at'.take i) fun v hv => hat.2 v (ct_ hv)
 rw [b_,hat.1,dt_ hi] at b;obtain ⟨c,e⟩ := pow3 h1 h3 i
 have : (3 : Int) ^ i <= 729 := by
  have : i = 0 ∨ i = 1 ∨ i = 2 ∨ i = 3 ∨ i = 4 ∨ i = 5 ∨ i = 6 := by omega
  rcases this with rfl | rfl | rfl | rfl | rfl | rfl | rfl <;> decide
 unfold Js
 exact ⟨a,by omega⟩
theorem f54 (d : Db) (s : Stc) (a kq rq yq b q k : Nat) (at' : List Int) (J : Sto) (hgw : J.get a = some (.cells (B5 d s kq rq yq))) (hgm : J.get b = some (.cells (I5 a q k))) (g1 : 1 <= s.size) (g3 : s.size <= 3) (hat : Mi s.size at') (hk : k <= 6) : Cv 54 [.pr b 0,.agg (at'.map iV)] J (iV (Js s.size (at'.take k))) := by
 refine Ak Tryz.func54 rfl rfl fun hw hu0 => ?_
 refine G2 ?_
 refine O1 (Aiz (cs := at'.map iV) ldC rfl (Bk (by rw [by_]; exact hat.1))) ?_
 refine G2 ?_;refine Co fun hw1 => ?_
 have han := (hw _ _ hgw).1;have hbn := (hw _ _ hgm).1
 have oo : (J.new (.cells (at'.map iV))).get a = some (.cells (B5 d s kq rq yq)) := by rw [ab_,if_neg Om]; exact hgw
 have me : (J.new (.cells (at'.map iV))).get b = some (.cells (I5 a q k)) := by rw [ab_,if_neg Om]; exact hgm
 have hgA : (J.new (.cells (at'.map iV))).get (nx J) = some (.cells (at'.map iV)) := by rw [ab_,if_pos rfl]
 have hga : (J.new (.cells (at'.map iV))).get (nx J) = some (.cells (at'.flatMap (fun x => [iV x]) ++ [])) := by rw [hgA]; rw [Adv]
 refine G10 ?_
 refine O1 (A4 me ldC rfl (show Be 1 false ((I5 a q k).drop 2) = some (iV (.ofNat k)) from rfl)) (O1 (Adt Ak6 rfl hgA (by simp [hat.1]) rfl rfl rfl (bnd6 hk)) ?_)
 refine O1 (Em (n := k) slC rfl rfl rfl) ?_;refine G3 ?_;refine Bh k (fun i0 => [(0,.pr b 0),(5,iV (Js s.size (at'.take i0))),(12,.sr (nx J) 0 1 k (some 6)),(13,iV (.ofNat k)),(14,iV (.ofNat i0))]) (fun i0 J0 => J0 = J.new (.cells (at'.map iV))) SL rfl ?_
 rintro i0 J0 hi0 rfl;refine G5 ?_;refine Ab rfl ?_ ?_ <;> intro h1
 ·have bc : i0 < k := by simpa using h1
  obtain ⟨a0,ha0⟩ := A3 (show i0 < at'.length by rw [hat.1]; omega)
  obtain ⟨hr1,hr2⟩ := Ato g1 g3 hat (show i0 <= 6 by omega)
  have hv0 := hat.2 a0 (af_ ha0);have hm0 : Js s.size (at'.take i0) * s.size <= 729 * 3 := Int.mul_le_mul hr2 g3 Om Om;have hm1 : 0 <= Js s.size (at'.take i0) * s.size := Int.mul_nonneg hr1 Om
  have e9 : Js s.size (at'.take i0) * s.size + a0 = Js s.size (at'.take (i0 + 1)) := by unfold Js; rw [Bb ha0,Afi]
  refine G5 ?_;refine O1 (Is elC rfl rfl bc) (O1 (Sd (enc := fun x => [iV x]) (l := at') (tl := []) (fun _ => rfl) ldC rfl hga ha0 (fun _ => rfl)) ?_)
  refine G7 ?_;refine O1 (A4 me ldC rfl (show Be 1 false ((I5 a q k).drop 0) = some (.pr a 0) from rfl)) ?_
  refine G3 ?_;refine O1 (A4 oo ldC rfl (show Be 1 false ((B5 d s kq rq yq).drop 0) = some (iV s.size) from rfl)) (O1 (Q2 okC rfl rfl Om Om) ?_)
  refine G ?_;refine O1 (Ae4 okC rfl rfl Om Om) ?_;refine G6 ?_;refine ⟨bc,⟨rfl,congrArg (fun x => some (iV x)) e9,rfl,rfl,rfl,trivial⟩,rfl⟩
 ·have bm : k <= i0 := by simpa using h1
  have bm : k = i0 := by omega
  refine G7 ?_
  exact ⟨_,rfl,_,J,as_ hw ⟨by rw [Ac]; omega,fun c hc => by rw [ab_,if_neg Om]⟩,nl,.same rfl,(by rw [bm]; rfl),rfl⟩
def zRc : List AV := [.str [],.str [],.nil (.slice none 0 0),.bool false]
def rcs (o : Option Rl) : List AV := match o with | some r => eR r | none => zRc
theorem Alr (o : Option Rl) : (rcs o).length = 4 := by cases o <;> rfl
theorem Ap8 {N : Nat} (o : Option Rl) : AV.unds N (rcs o) = true := by cases o with | none => rfl | some r => exact Lg r
def rvO (o : Option Rl) : Bool := match o with | some r => r.var | none => false
def rsO (o : Option Rl) : Str := match o with | some r => r.sort | none => []
theorem Afq (o : Option Rl) : Be 1 false ((rcs o).drop 3) = some (.bool (rvO o)) := by cases o <;> rfl
theorem Ap9 (o : Option Rl) : Be 1 false ((rcs o).drop 1) = some (sV (rsO o)) := by cases o <;> rfl
def zYc : List AV := [.str [],.int .i64 0,.nil (.slice none 0 0)]
def ycs (o : Option Sy) : List AV := match o with | some y => eSy y | none => zYc
theorem Als (o : Option Sy) : (ycs o).length = 3 := by cases o <;> rfl
theorem Aqa {N : Nat} (o : Option Sy) : AV.unds N (ycs o) = true := by cases o with | none => rfl | some r => exact Uu r
section
variable {ρ : Ad} {J : Sto} {Rr : Rec} {x y : Operand} {s : Str} {r : Nat}
theorem Aqb {m : SM Rl} (hx : Ai Ew ρ x = some (.mp r)) (hm : A8 rlV J r m) (hy : Ai Ew ρ y = some (sV s)) :
  A0 Ew Rr (.lookup 94 x y true) ρ J (.tup [.agg (rcs (m.get s)),.bool (m.get s).isSome]) J := by
 have := Qq (Rr := Rr) st9 Ao2 hx hm hy
 have e : ((m.get s).map rlV).getD (.agg [.str [],.str [],.nil (.slice none 0 0),.bool false]) = .agg (rcs (m.get s)) := by cases m.get s <;> rfl
 rwa [e] at this
theorem Aqc {m : SM Sy} (hx : Ai Ew ρ x = some (.mp r)) (hm : A8 syV J r m) (hy : Ai Ew ρ y = some (sV s)) :
  A0 Ew Rr (.lookup 95 x y true) ρ J (.tup [.agg (ycs (m.get s)),.bool (m.get s).isSome]) J := by
 have := Qq (Rr := Rr) st9 Ao3 hx hm hy
 have e : ((m.get s).map syV).getD (.agg [.str [],.int .i64 0,.nil (.slice none 0 0)]) = .agg (ycs (m.get s)) := by cases m.get s <;> rfl
 rwa [e] at this
end
theorem GOk.argsOk {g : Gr} (h : GOk g) {r : Rl} (hr : r ∈ g.rules) : Aj0 r := fun p hp hs => h.arg r hr p hp hs
theorem f47 (d : Db) (s : Stc) (g : Gr) (W : Wd) (rm : SM Rl) (y : Sy) (a kq rq yq : Nat) (J : Sto) (hG : GOk g) (hWg : W.g = g.rules) (hn : W.n = s.size) (g1 : 1 <= W.n) (g3 : W.n <= 3) (hrm : ∀ l,rm.get l = Au g.rules l) (hS : Gl d s W.km rm W.sm a kq rq yq J) (hyl : y.vals.length < 1000000) : Aq Ew 47 [.pr a 0,.agg (eSy y)] J fun v J' => v = iV (I4 W y) /\ nx J <= nx J' /\ (∀ c,c < nx J -> c ≠ yq -> J'.get c = J.get c) /\ A8 syV J' yq (if I4 W y = 0 then W.sm.put y.label y else W.sm) := by
 have hgw := hS.cl;obtain ⟨vy,hvy⟩ := id hS.ss;refine Ak Tryz.func47 rfl rfl fun hw hu0 => ?_
 refine G5 ?_;refine Ed 5 zRc (rcs (rm.get y.label)) [(6,.bool ((rm.get y.label)).isSome)] (Ap8 _) rfl (fun hw => ?_) ?_
 ·refine XX 1 (l := []) trivial ?_;refine G3 ?_;refine DF (A4 hgw ldC rfl (show Be 1 false ((B5 d s kq rq yq).drop 7) = some (.mp rq) from rfl)) ?_
  refine G2 ?_;refine DF (Aqb rfl hS.rs rfl) ?_;refine G3 ?_;refine DT (B6 ziC) (DT (A6 (vs := zRc) (vs' := rcs (rm.get y.label)) ldC rfl rfl (Bk (Alr _)) Bj (Cx (Alr _))) ?_);refine G2 ?_
  exact ⟨(by intro e he; simp at he; rcases he with rfl | rfl <;> first | exact .refl | exact H1 hw),⟨rfl,trivial⟩,sb,rfl,rfl⟩
 refine G ?_;refine Ed 7 zYc (ycs (W.sm.get y.label)) [(8,.bool ((W.sm.get y.label)).isSome)] (Aqa _) rfl (fun hw => ?_) ?_
 ·refine XX 1 (l := []) trivial ?_;refine G3 ?_;refine DF (A4 hgw ldC rfl (show Be 1 false ((B5 d s kq rq yq).drop 8) = some (.mp yq) from rfl)) ?_
  refine G2 ?_;refine DF (Aqc rfl hS.ss rfl) ?_;refine G3 ?_;refine DT (B6 ziC) (DT (A6 (vs := zYc) (vs' := ycs (W.sm.get y.label)) ldC rfl rfl (Bk (Als _)) Bj (Cx (Als _))) ?_);refine G2 ?_
  exact ⟨(by intro e he; simp at he; rcases he with rfl | rfl <;> first | exact .refl | exact H1 hw),⟨rfl,trivial⟩,sb,rfl,rfl⟩
 refine D3 [(49,.bool (((!((rm.get y.label)).isSome || rvO (rm.get y.label)) || ((W.sm.get y.label)).isSome) || decide (kd W.km (rsO (rm.get y.label)) = 1)))] ?_ ?_
 ·rcases al_ ((!((rm.get y.label)).isSome)) with hg2 | hg2
  ·refine X0 ?_;refine G3 ?_
   refine Wx (w := by first|rfl|simp only [hg2]<;>rfl|simp [hg2]) ?_
   refine Wx (w := by first|rfl|simp only [hg2]<;>rfl|simp [hg2]) ?_
   refine DF (E5 rfl (by first|rfl|simp only [hg2]<;>rfl|simp [hg2]) rfl) ?_
   iterate 14 refine G ?_
   exact ⟨rfl,rfl,⟨⟨congrArg (fun b => some (AV.bool b)) (by first|rfl|simp only [hg2]<;>rfl|simp [hg2]),trivial⟩,sb,rfl⟩⟩
  ·rcases al_ ((rvO (rm.get y.label))) with hg6 | hg6
   ·refine X0 ?_;refine G3 ?_
    refine Wn (w := by first|rfl|simp only [hg6,hg2]<;>rfl|simp [hg6,hg2]) (B3 fdC rfl rfl) ?_
    refine Wn (w := by first|rfl|simp only [hg6,hg2]<;>rfl|simp [hg6,hg2]) (Ah ldC rfl rfl (Afq _)) ?_
    refine DF (Am rfl (by first|rfl|simp only [hg6,hg2]<;>rfl|simp [hg6,hg2]) rfl) ?_
    refine G ?_
    refine Wx (w := by first|rfl|simp only [hg6,hg2]<;>rfl|simp [hg6,hg2]) ?_
    refine DF (E5 rfl (by first|rfl|simp only [hg6,hg2]<;>rfl|simp [hg6,hg2]) rfl) ?_
    refine G11 ?_
    exact ⟨rfl,rfl,⟨⟨congrArg (fun b => some (AV.bool b)) (by first|rfl|simp only [hg6,hg2]<;>rfl|simp [hg6,hg2]),trivial⟩,sb,rfl⟩⟩
   ·rcases al_ (((W.sm.get y.label)).isSome) with hg9 | hg9
    ·refine X0 ?_;refine G3 ?_
     refine Wn (w := by first|rfl|simp only [hg9,hg6,hg2]<;>rfl|simp [hg9,hg6,hg2]) (B3 fdC rfl rfl) ?_
     refine Wn (w := by first|rfl|simp only [hg9,hg6,hg2]<;>rfl|simp [hg9,hg6,hg2]) (Ah ldC rfl rfl (Afq _)) ?_
     refine DF (Am rfl (by first|rfl|simp only [hg9,hg6,hg2]<;>rfl|simp [hg9,hg6,hg2]) rfl) ?_
     refine G ?_
     refine Wn (w := by first|rfl|simp only [hg9,hg6,hg2]<;>rfl|simp [hg9,hg6,hg2]) (Cm rfl) ?_
     refine DF (Am rfl (by first|rfl|simp only [hg9,hg6,hg2]<;>rfl|simp [hg9,hg6,hg2]) rfl) ?_
     refine G11 ?_;exact ⟨rfl,rfl,⟨⟨Cb,trivial⟩,sb,rfl⟩⟩
    ·refine X0 ?_;refine G3 ?_
     refine Wn (w := by first|rfl|simp only [hg9,hg6,hg2]<;>rfl|simp [hg9,hg6,hg2]) (B3 fdC rfl rfl) ?_
     refine Wn (w := by first|rfl|simp only [hg9,hg6,hg2]<;>rfl|simp [hg9,hg6,hg2]) (Ah ldC rfl rfl (Afq _)) ?_
     refine DF (Am rfl (by first|rfl|simp only [hg9,hg6,hg2]<;>rfl|simp [hg9,hg6,hg2]) rfl) ?_
     refine G ?_
     refine Wn (w := by first|rfl|simp only [hg9,hg6,hg2]<;>rfl|simp [hg9,hg6,hg2]) (Cm rfl) ?_
     refine DF (Am rfl (by first|rfl|simp only [hg9,hg6,hg2]<;>rfl|simp [hg9,hg6,hg2]) rfl) ?_
     refine G3 ?_
     refine Wn (w := by first|rfl|simp only [hg9,hg6,hg2]<;>rfl|simp [hg9,hg6,hg2]) (B3 fdC rfl rfl) ?_
     refine Wn (w := by first|rfl|simp only [hg9,hg6,hg2]<;>rfl|simp [hg9,hg6,hg2]) (A4 hgw ldC rfl (show Be 1 false ((B5 d s kq rq yq).drop 6) = some (.mp kq) from rfl)) ?_
     refine G ?_
     refine Wn (w := by first|rfl|simp only [hg9,hg6,hg2]<;>rfl|simp [hg9,hg6,hg2]) (Ah ldC rfl rfl (Ap9 _)) ?_
     refine Wn (w := by first|rfl|simp only [hg9,hg6,hg2]<;>rfl|simp [hg9,hg6,hg2]) (G1 st9 Lu rfl hS.ks rfl) ?_
     refine Wn (w := by first|rfl|simp only [hg9,hg6,hg2]<;>rfl|simp [hg9,hg6,hg2]) (Lp (q := 1) okC rfl rfl) ?_
     refine DF (Am rfl (by first|rfl|simp only [hg9,hg6,hg2]<;>rfl|simp [hg9,hg6,hg2]) rfl) ?_
     refine Ii ?_
     exact ⟨rfl,rfl,⟨⟨congrArg (fun b => some (AV.bool b)) (by first|rfl|simp only [hg9,hg6,hg2]<;>rfl|simp [hg9,hg6,hg2]),trivial⟩,sb,rfl⟩⟩
 refine Ab rfl ?_ ?_ <;> intro h1
 ·have hE1 : I4 W y = 381 := by
   have h1' : (((!((rm.get y.label)).isSome || rvO (rm.get y.label)) || ((W.sm.get y.label)).isSome) || decide (kd W.km (rsO (rm.get y.label)) = 1)) = true := h1
   unfold I4;rw [hWg,← hrm];cases ho : (rm.get y.label) with
   | none => rfl
   | some r => rw [ho] at h1'; exact if_pos h1'
  refine G4 ?_
  have hE : I4 W y = 381 := by exact hE1
  refine G ?_
  exact ⟨_,rfl,_,_,ag_ hw nl (fun _ _ => rfl),nl,.same rfl,by rw [hE]; rfl,nl,fun _ _ _ => rfl,by rw [hE]; exact hS.ss⟩
 ·have h1' : (((!((rm.get y.label)).isSome || rvO (rm.get y.label)) || ((W.sm.get y.label)).isSome) || decide (kd W.km (rsO (rm.get y.label)) = 1)) = false := h1
  obtain ⟨r,ho⟩ : ∃ r,(rm.get y.label) = some r := by
   cases ho : (rm.get y.label) with
   | none => rw [ho] at h1'; simp at h1'
   | some r => exact ⟨r,rfl⟩
  rw [ho] at h1'
  have hro : Au W.g y.label = some r := by rw [hWg,← hrm]; exact ho
  have cd := Hf (by rw [← hWg]; exact hro : Au g.rules y.label = some r)
  have hrp := hG.prt r cd;have hao := hG.argsOk cd
  have hb1 : ((r.var || ((W.sm.get y.label)).isSome) || decide (kd W.km r.sort = 1)) = false := h1'
  have hal : (Az r).length < 1000000 := by rw [Ip]; exact ek_ (co_ _ _) Om
  rw [ho];refine G3 ?_;refine O1 (Ah (v := .agg (eR r)) ldC rfl rfl (B0 (Pz r))) (Af rfl rfl rfl rfl (f55 r _ Om hao) ?_);refine G3 ?_
  refine D3 [(79,.bool (!decide (y.binds = -1) && ((decide (y.binds < 0) || decide (Int.ofNat (Az r).length <= y.binds)) || !decide (kd W.km (((Az r)[y.binds.toNat]?).getD []) = 1))))] ?_ ?_
  ·rcases al_ ((!decide (y.binds = -1))) with hg3 | hg3
   ·rcases al_ ((decide (y.binds < 0))) with hg7 | hg7
    ·refine X0 ?_;refine G2 ?_;refine DF (Pe (q := (-1)) okC rfl rfl) ?_
     iterate 26 refine G ?_
     exact ⟨rfl,rfl,⟨⟨Cb,trivial⟩,sb,rfl⟩⟩
    ·rcases al_ ((decide (Int.ofNat (Az r).length <= y.binds))) with bk | bk
     ·refine X0 ?_;refine G2 ?_;refine DF (Pe (q := (-1)) okC rfl rfl) ?_;refine G10 ?_
      refine Wn (w := by first|rfl|simp only [bk,hg7,hg3]<;>rfl|simp [bk,hg7,hg3]) (Am rfl (by first|rfl|simp only [bk,hg7,hg3]<;>rfl|simp [bk,hg7,hg3]) rfl) ?_
      iterate 15 refine G ?_
      exact ⟨rfl,rfl,⟨⟨Cb,trivial⟩,sb,rfl⟩⟩
     ·obtain ⟨j,hj⟩ := Int.eq_ofNat_of_zero_le (show 0 <= y.binds from by have := of_decide_eq_false hg7; omega)
      have hjl : j < (Az r).length := by have := of_decide_eq_false bk; simp at this; omega
      have hq : (Az r)[j]? = some (((Az r)[y.binds.toNat]?).getD []) := by rw [hj]; show _ = some (((Az r)[j]?).getD []); rw [ao_ hjl]; rfl
      refine X0 ?_;refine G2 ?_;refine DF (Pe (q := (-1)) okC rfl rfl) ?_;refine G10 ?_
      refine Wn (w := by first|rfl|simp only [bk,hg7,hg3]<;>rfl|simp [bk,hg7,hg3]) (Am rfl (by first|rfl|simp only [bk,hg7,hg3]<;>rfl|simp [bk,hg7,hg3]) rfl) ?_
      refine G4 ?_
      refine Wn (w := by first|rfl|simp only [bk,hg7,hg3]<;>rfl|simp [bk,hg7,hg3]) (A4 hgw ldC rfl (show Be 1 false ((B5 d s kq rq yq).drop 6) = some (.mp kq) from rfl)) ?_
      refine G3 ?_;refine Xn (Bn (i := j) elC (fun _ => rfl) rfl (congrArg (fun x => some (AV.int .i64 x)) hj) hq) ?_
      refine G ?_;refine Xn (G1 st9 Lu rfl hS.ks rfl) ?_
      refine Wn (w := by first|rfl|simp only [bk,hg7,hg3]<;>rfl|simp [bk,hg7,hg3]) (Pe (q := 1) okC rfl rfl) ?_
      refine Wn (w := by first|rfl|simp only [bk,hg7,hg3]<;>rfl|simp [bk,hg7,hg3]) (Am rfl (by first|rfl|simp only [bk,hg7,hg3]<;>rfl|simp [bk,hg7,hg3]) rfl) ?_
      refine G2 ?_
      exact ⟨rfl,rfl,⟨⟨congrArg (fun b => some (AV.bool b)) (by first|rfl|simp only [bk,hg7,hg3]<;>rfl|simp [bk,hg7,hg3]),trivial⟩,sb,rfl⟩⟩
   ·refine X0 ?_;refine G2 ?_;refine DF (Pe (q := (-1)) okC rfl rfl) ?_
    iterate 24 refine G ?_
    refine DF (Am rfl (by first|rfl|simp only [hg3]<;>rfl|simp [hg3]) rfl) ?_
    refine G ?_
    exact ⟨rfl,rfl,⟨⟨congrArg (fun b => some (AV.bool b)) (by first|rfl|simp only [hg3]<;>rfl|simp [hg3]),trivial⟩,sb,rfl⟩⟩
  refine Ab rfl ?_ ?_ <;> intro h2
  ·have hE1 : I4 W y = 381 := by
    unfold I4;rw [hro];simp only
    rw [if_neg (by rw [hb1]; simp),if_pos h2]
   refine G4 ?_
   have hE : I4 W y = 381 := by exact hE1
   refine G ?_
   exact ⟨_,rfl,_,_,ag_ hw nl (fun _ _ => rfl),nl,.same rfl,by rw [hE]; rfl,nl,fun _ _ _ => rfl,by rw [hE]; exact hS.ss⟩
  ·have h2' : (!decide (y.binds = -1) && ((decide (y.binds < 0) || decide (Int.ofNat (Az r).length <= y.binds)) || !decide (kd W.km (((Az r)[y.binds.toNat]?).getD []) = 1))) = false := h2
   refine G4 ?_;refine O1 (Ah (v := .agg (eR r)) ldC rfl rfl (B0 (Pz r))) ?_;refine G2 ?_;refine Af rfl rfl rfl rfl (f65 d s W r y.binds a kq rq yq _ hgw hS.ks hn g1 g3 Om hao) ?_;refine G8 ?_;refine Ab rfl ?_ ?_ <;> intro h3
   ·have hE1 : I4 W y = 4 := by
     unfold I4;rw [hro];simp only
     rw [if_neg (by rw [hb1]; simp),if_neg (by rw [h2']; simp),if_pos h3]
    refine G4 ?_
    have hE : I4 W y = 4 := by exact hE1
    refine G ?_
    exact ⟨_,rfl,_,_,ag_ hw nl (fun _ _ => rfl),nl,.same rfl,by rw [hE]; rfl,nl,fun _ _ _ => rfl,by rw [hE]; exact hS.ss⟩
   ·have h3' : decide (10000 < (I3 W y.binds (Az r) 0 1)) = false := h3;refine G2 ?_
    refine D3 [(105,.bool (!decide (Int.ofNat y.vals.length = (I3 W y.binds (Az r) 0 1)) || !Wc s.size (kd W.km r.sort) y.vals))] ?_ ?_
    ·rcases al_ ((!decide (Int.ofNat y.vals.length = (I3 W y.binds (Az r) 0 1)))) with hg5 | hg5
     ·refine XS (l := [(35,[.pr a 0,slV eI 1 y.vals,iV (kd W.km r.sort)],J,.bool (Wc s.size (kd W.km r.sort) y.vals),J)]) ⟨f35 d s a kq rq yq y.vals (kd W.km r.sort) _ hS.cl hyl,trivial⟩ ?_
      iterate 16 refine G ?_
      refine Qr rfl rfl rfl rfl (by first|rfl|simp only [hg5]<;>rfl|simp [hg5]) rfl rfl ?_
      refine G3 ?_;exact ⟨⟨Cb,trivial⟩,sb,rfl⟩
     ·refine XS (l := [(35,[.pr a 0,slV eI 1 y.vals,iV (kd W.km r.sort)],J,.bool (Wc s.size (kd W.km r.sort) y.vals),J)]) ⟨f35 d s a kq rq yq y.vals (kd W.km r.sort) _ hS.cl hyl,trivial⟩ ?_;refine G12 ?_;refine Xn (A4 hgw ldC rfl (show Be 1 false ((B5 d s kq rq yq).drop 6) = some (.mp kq) from rfl)) ?_
      refine G2 ?_;refine Xn (G1 st9 Lu rfl hS.ks rfl) ?_
      refine Se rfl rfl rfl rfl (by first|rfl|simp only [hg5]<;>rfl|simp [hg5]) rfl rfl (Bo rfl rfl Bx) ?_
      refine G ?_
      refine DF (Am rfl (by first|rfl|simp only [hg5]<;>rfl|simp [hg5]) rfl) ?_
      refine G ?_
      exact ⟨⟨congrArg (fun b => some (AV.bool b)) (by first|rfl|simp only [hg5]<;>rfl|simp [hg5]),trivial⟩,sb,rfl⟩
    refine Ab rfl ?_ ?_ <;> intro h4
    ·have hE1 : I4 W y = 381 := by
      unfold I4;rw [hro];simp only
      rw [if_neg (by rw [hb1]; simp),if_neg (by rw [h2']; simp),if_neg (by rw [h3']; simp),if_pos (by rw [hn]; exact h4)]
     refine G4 ?_
     have hE : I4 W y = 381 := by exact hE1
     refine G ?_
     exact ⟨_,rfl,_,_,ag_ hw nl (fun _ _ => rfl),nl,.same rfl,by rw [hE]; rfl,nl,fun _ _ _ => rfl,by rw [hE]; exact hS.ss⟩
    ·have h4' : (!decide (Int.ofNat y.vals.length = (I3 W y.binds (Az r) 0 1)) || !Wc s.size (kd W.km r.sort) y.vals) = false := h4
     have hE1 : I4 W y = 0 := by
      unfold I4;rw [hro];simp only
      rw [if_neg (by rw [hb1]; simp),if_neg (by rw [h2']; simp),if_neg (by rw [h3']; simp),if_neg (by rw [hn,h4']; simp)]
     refine G2 ?_;refine XS (l := []) trivial ?_;refine G3 ?_;refine DF (A4 hgw ldC rfl (show Be 1 false ((B5 d s kq rq yq).drop 8) = some (.mp yq) from rfl)) ?_
     refine G2 ?_
     refine DF (Ah (v := .agg (eSy y)) ldC rfl rfl (B0 (Q5 y))) (DT (Ec (v := y) st9 Ao3 rfl hvy rfl rfl (fun te k1 k2 => by first | exact Ex k1 k2 | exact Ey k1 k2 | exact Fc k1 k2 | exact Fe k1 k2 | exact E1 k1 k2 rfl)) ?_)
     refine G5 ?_;refine Co fun hw1 => ?_
     refine G ?_
     exact ⟨_,rfl,_,_,ag_ hw1 nl (fun _ _ => rfl),by rw [Ae]; exact nl,.same rfl,by rw [hE1]; rfl,by rw [Ae]; exact nl,fun c _ hc => by rw [a_,if_neg hc],by rw [if_pos hE1]; exact dj_⟩
theorem Adw : ∀ {l : List AV} {i : Nat} {v : AV},i < l.length -> setAt l i [v] = some (l.set i v)
 | [],i,v,h => by simp at h
 | x :: r,0,v,_ => by cases r <;> rfl
 | x :: r,i + 1,v,h => by
  have := Adw (l := r) (i := i) (v := v) (by simpa using h)
  simp only [setAt,this,List.set_cons_succ]
theorem Ar1 {l : List Int} {o : Nat} {v : Int} (h : l[o]? = some v) : Be 1 false ((l.map iV).drop (o * 1)) = some (iV v) := by
 rw [ex_,ay_ (by rw [by_]; exact (ad_.1 h).1)]
 simp only [List.getElem_map];obtain ⟨h1,rfl⟩ := ad_.1 h
 rfl
theorem Ana (l : List (Int × Int)) (p : Int × Int) : Fg (l ++ [p]) 0 = Fg l 0 * p.1 + p.2 := by rw [Ahz]; rfl
theorem Ah5 {base : Int} {f : List Int -> Int} {at' : List Int} {o e : Nat} : ∀ {m : Nat},e <= m -> ∃ r,Lv base f at' o m = Lv base f at' o e ++ r
 | 0,h => ⟨[],by rw [show e = 0 by omega]; simp⟩
 | m + 1,h => by
  by_cases he : e = m + 1
  ·exact ⟨[],by rw [he]; simp⟩
  ·obtain ⟨r,hr⟩ := Ah5 (base := base) (f := f) (at' := at') (o := o) (e := e) (m := m) Om
   exact ⟨r ++ [(base,f (at'.set o (Int.ofNat m)))],by rw [Wa,hr,bu_]⟩
section
variable {W : Wd} {b : Int} {o : Nat} {at' : List Int} {ss : List Str} {fs : List (List Int -> Int)} {len : Nat}
theorem Aqd (hD : Xc (A9 W b o at' ss fs 0)) (hP : D9 (A9 W b o at' ss fs 0) = Int.ofNat len) (hl : ss.length = fs.length) {i : Nat} (hi : i <= ss.length) : 0 <= Fg (A9 W b o at' (ss.take i) (fs.take i) 0) 0 /\ Fg (A9 W b o at' (ss.take i) (fs.take i) 0) 0 < Int.ofNat len := by
 have e : A9 W b o at' ss fs 0 = A9 W b o at' (ss.take i) (fs.take i) 0 ++ A9 W b o at' (ss.drop i) (fs.drop i) (0 + (ss.take i).length) := by
  rw [← Q4 (by rw [b_,b_,hl]),bx_,bx_]
 rw [e] at hD hP;rw [← hP];exact Ah0 hD
theorem Atp (hD : Xc (A9 W b o at' ss fs 0)) (hP : D9 (A9 W b o at' ss fs 0) = Int.ofNat len) (hl : ss.length = fs.length) {i e : Nat} {s : Str} {f : List Int -> Int} (hs : ss[i]? = some s) (hf : fs[i]? = some f) (h1 : ¬ b < 0) (h2 : ¬ Int.ofNat i = b) (he : e <= W.n.toNat) :
  0 <= Fg (A9 W b o at' (ss.take i) (fs.take i) 0 ++ Lv (Ct W.n (kd W.km s)) f at' o e) 0 /\ Fg (A9 W b o at' (ss.take i) (fs.take i) 0 ++ Lv (Ct W.n (kd W.km s)) f at' o e) 0 < Int.ofNat len := by
 have hi := (ad_.1 hs).1;obtain ⟨r,hr⟩ := Ah5 (base := Ct W.n (kd W.km s)) (f := f) (at' := at') (o := o) he
 have e1 : A9 W b o at' ss fs 0 = A9 W b o at' (ss.take (i + 1)) (fs.take (i + 1)) 0 ++ A9 W b o at' (ss.drop (i + 1)) (fs.drop (i + 1)) (0 + (ss.take (i + 1)).length) := by
  rw [← Q4 (by rw [b_,b_,hl]),bx_,bx_]
 have e2 : Sw W b o at' i s f = Lv (Ct W.n (kd W.km s)) f at' o e ++ r := by unfold Sw; rw [if_neg h1,if_neg h2,hr]
 rw [Aav hs hf,e2,← bu_,bu_] at e1;rw [e1] at hD hP;rw [← hP];exact Ah0 hD
end
theorem Anb {W : Wd} (hW : Afn W) {s q : Str} {ks : List As} (h : Bm W.g (.node s ks) = some q) {r : Rl} (hr : Au W.g s = some r) {j : Nat} {a : Str} (hj : (Az r)[j]? = some a) (hk : kd W.km a = 1) {k : As} (hkj : ks[j]? = some k) : ∃ r',Au W.g (Da k) = some r' /\ r'.var = true /\ ocT (Da k) (.node s ks) = true := by
 obtain ⟨r',hr',_,hn,hks⟩ := Gf hW.rs h;rw [hr] at hr'; cases hr';obtain ⟨a',ha',hf⟩ := hks j k hkj;rw [hj] at ha'; cases ha';have cd := af_ hkj
 have hoc : ocT (Da k) (.node s ks) = true := by
  unfold ocT;rw [show ocL (Da k) ks = true from ?_]; simp
  clear hj hkj hks h hn hr hf
  induction ks with
  | nil => cases cd
  | cons b l ih =>
   unfold ocL
   rcases ai_.1 cd with rfl | hm
   ·have : ocT (Da k) k = true := by cases k; unfold Da ocT; simp
    rw [this]; rfl
   ·rw [ih hm]; simp
 cases k with
 | node l ls =>
  obtain ⟨r2,h1,h2,_⟩ := Gf hW.rs hf;refine ⟨r2,h1,?_,hoc⟩;cases hb : r2.var with
  | true => rfl
  | false =>
   obtain ⟨y2,hy2⟩ := hW.all l r2 h1 hb;obtain ⟨r3,k1,_,k3,_⟩ := hW.sy l y2 hy2;rw [h1] at k1; cases k1;rw [h2] at k3; exact absurd hk k3
structure MnS (d : Db) (s : Stc) (W : Wd) (rm : SM Rl) (vm : SM Mg) (k a kq rq yq b q : Nat) (J : Sto) : Prop where
 w : Gl d s W.km rm W.sm a kq rq yq J
 m : J.get b = some (.cells (I5 a q k))
 of : A8 mgV J q vm
theorem MnS.below {d : Db} {s : Stc} {W : Wd} {rm : SM Rl} {vm : SM Mg} {k a kq rq yq b q : Nat} {J τ : Sto} (hw : WFS J) (h : MnS d s W rm vm k a kq rq yq b q J) (hB : Below (nx J) J τ) : MnS d s W rm vm k a kq rq yq b q τ := by
 obtain ⟨⟨h1,⟨v2,h2⟩,⟨v3,h3⟩,⟨v4,h4⟩⟩,h5,⟨v6,h6⟩⟩ := h;have g : ∀ c O,J.get c = some O -> τ.get c = some O := fun c O hc => (hB.2 c (hw c O hc).1).trans hc
 exact ⟨⟨g _ _ h1,⟨v2,g _ _ h2⟩,⟨v3,g _ _ h3⟩,⟨v4,g _ _ h4⟩⟩,g _ _ h5,⟨v6,g _ _ h6⟩⟩
theorem f36n (d : Db) (s : Stc) (g : Gr) (W : Wd) (rm : SM Rl) (vm : SM Mg) (M : Mn) (a kq rq yq b q : Nat) (hG : GOk g) (hWg : W.g = g.rules) (hn : W.n = s.size) (hW : Afn W) (hrm : ∀ l,rm.get l = Au g.rules l) (hk6 : M.k <= 6) (s0 q0 : Str) (ks : List As) (at' : List Int) (J : Sto) (hvm : ∀ s' r',ocT s' (.node s0 ks) = true -> Au W.g s' = some r' -> r'.var = true -> vm.get s' = some (M.of s')) (hf : Bm W.g (.node s0 ks) = some q0) (hv : Jc W M (.node s0 ks)) (hat : Mi W.n at') (hS : MnS d s W rm vm M.k a kq rq yq b q J) (hb : ks.length < 1000000) (ih : ∀ k ∈ ks,∀ at' τ,Mi W.n at' -> MnS d s W rm vm M.k a kq rq yq b q τ -> Cv 36 [.pr b 0,Bp k,.agg (at'.map iV)] τ (iV (evS W M k at'))) : Cv 36 [.pr b 0,Bp (.node s0 ks),.agg (at'.map iV)] J (iV (evS W M (.node s0 ks) at')) := by
 rw [Ng];obtain ⟨r,hr,hq,hna,hks⟩ := Gf hW.rs hf
 have hg : rm.get s0 = some r := by rw [hrm,← hWg]; exact hr
 have cd := Hf (by rw [← hWg]; exact hr : Au g.rules s0 = some r)
 have hrp := hG.prt r cd;have hao := hG.argsOk cd;have hn1 := hW.n1;have hn3 := hW.n3
 have fv : (at'.map iV).length = 6 := by rw [by_]; exact hat.1
 have ju : Mi s.size at' := by rw [← hn]; exact hat
 obtain ⟨nn,hsz⟩ := Int.eq_ofNat_of_zero_le (show 0 <= s.size by omega)
 have hgw := hS.w.cl;have hgm := hS.m;refine Ak Tryz.func36 rfl rfl fun hw hu0 => ?_
 refine G3 ?_;refine Ql ldC rfl (Bk fv) rfl ?_;refine G2 ?_;refine Ed 7 zRc (eR r) [] (Lg r) rfl (fun hw => ?_) ?_
 ·refine XX 1 (l := []) trivial ?_;refine G3 ?_;refine DF (A4 hgm ldC rfl (show Be 1 false ((I5 a q M.k).drop 0) = some (.pr a 0) from rfl)) ?_
  refine G2 ?_;refine DF (A4 hgw ldC rfl (show Be 1 false ((B5 d s kq rq yq).drop 7) = some (.mp rq) from rfl)) ?_
  refine G2 ?_;refine DF (F4 (v := r) st9 Ao2 rfl hS.w.rs rfl hg) (DT (B6 ziC) (DT (A6 (vs := zRc) (vs' := eR r) ldC rfl rfl (Bk (Pz _)) Bj (Cx (Pz _))) ?_));refine G ?_
  exact ⟨(by intro e he; simp at he; rcases he with rfl | rfl <;> first | exact .refl | exact H1 hw),trivial,sb,rfl,rfl⟩
 refine G6 ?_;refine Ab rfl ?_ ?_ <;> intro h1
 ·have hm := hv s0 r (by unfold ocT; simp) hr h1
  have hvg := hvm s0 r (by unfold ocT; simp) hr h1
  refine Ed 8 zYc (eMg (M.of s0)) [] (Kz _) rfl (fun hw => ?_) ?_
  ·refine XX 1 (l := []) trivial ?_;refine G3 ?_;refine DF (A4 hgm ldC rfl (show Be 1 false ((I5 a q M.k).drop 1) = some (.mp q) from rfl)) ?_
   refine G2 ?_;refine DF (F4 (v := M.of s0) st9 mp88 rfl hS.of rfl hvg) (DT (B6 ziC) (DT (A6 (vs := zYc) (vs' := eMg (M.of s0)) ldC rfl rfl (Bk (Iu _)) Bj (Cx (Iu _))) ?_));refine G ?_
   exact ⟨(by intro e he; simp at he; rcases he with rfl | rfl <;> first | exact .refl | exact H1 hw),trivial,sb,rfl,rfl⟩
  refine G2 ?_;refine X0 ?_;refine G3 ?_;refine DF (A4 hgm ldC rfl (show Be 1 false ((I5 a q M.k).drop 0) = some (.pr a 0) from rfl)) ?_
  refine G2 ?_;refine DF (A4 hgw ldC rfl (show Be 1 false ((B5 d s kq rq yq).drop 6) = some (.mp kq) from rfl)) ?_
  refine G2 ?_;refine DF (G1 st9 Lu rfl hS.w.ks rfl) ?_;refine G2 ?_;refine ⟨rfl,rfl,?_⟩;refine Ab rfl ?_ ?_ <;> intro h2
  ·have h2' : kd W.km r.sort = 1 := by simpa using h2
   obtain ⟨ho0,ho1⟩ := hm.1 h2';obtain ⟨o,ho⟩ := Int.eq_ofNat_of_zero_le ho0
   have ho6 : o < 6 := by rw [ho] at ho1; simp at ho1; omega
   obtain ⟨v0,hv0⟩ := A3 (show o < at'.length by rw [hat.1]; exact ho6)
   refine G4 ?_;refine O1 (I0 Ak6 rfl (congrArg (fun x => some (AV.int .i64 x)) ho) ho6 rfl) ?_
   refine O1 (Ah ldC rfl rfl (Ar1 hv0)) ?_;refine G3 ?_;refine A2 hw rfl ?_;unfold evS; rw [hr]; simp only; rw [if_pos h1,if_pos h2',ho]; show iV v0 = iV ((at'[o]?).getD 0); rw [hv0]; rfl
  ·have h2' : ¬ kd W.km r.sort = 1 := by simpa using h2
   obtain ⟨hm1,hm2⟩ := hm.2 h2';obtain ⟨hi1,hi2⟩ := Ads hn1 hat hk6
   obtain ⟨v0,hv0⟩ := A3 (show (Js W.n (at'.take M.k)).toNat < (M.of s0).vals.length by rw [← hm1] at hi2; simp only [aj_] at hi2; omega)
   have hie : Js s.size (at'.take M.k) = Int.ofNat (Js W.n (at'.take M.k)).toNat := by rw [← hn]; exact (Int.toNat_of_nonneg hi1).symm
   refine G2 ?_;refine XI (l := [(54,[.pr b 0,.agg (at'.map iV)],J,iV (Js s.size (at'.take M.k)),J)]) ⟨f54 d s a kq rq yq b q M.k at' _ hgw hgm Om Om ju hk6,trivial⟩ ?_;refine G3 ?_;refine DF (Ah ldC rfl rfl (B0 fv)) ?_;refine G ?_;refine DF (Bn (i := (Js W.n (at'.take M.k)).toNat) elC (fun _ => rfl) rfl (congrArg (fun x => some (AV.int .i64 x)) hie) hv0) ?_
   refine G3 ?_
   refine ⟨rfl,by simp,?_⟩
   refine G ?_;refine A2 hw rfl ?_;unfold evS; rw [hr]; simp only; rw [if_pos h1,if_neg h2',hv0]; rfl
 ·obtain ⟨y,hy⟩ := hW.all s0 r hr h1;obtain ⟨o,ho⟩ : ∃ o : Nat,o = (M.of (((ks[y.binds.toNat]?).map Da).getD [])).obj.toNat := ⟨_,rfl⟩;obtain ⟨hD,hP⟩ := Ap3 hW hf (fun k hk q hq at' hat => Wb hW hk6 k q hq (hv.kid k hk) at' hat) hr hy hat o
  obtain ⟨r2,z1,_,_,z4,z5,z6,_⟩ := hW.sy s0 y hy;rw [hr] at z1; cases z1
  have hyl : Int.ofNat y.vals.length <= 10000 := by rw [z5]; exact z6
  have hsl : (Az r).length = (Gg W M ks).length := by rw [Ip,Ky,by_,hna]
  have hal : (Az r).length < 1000000 := by rw [Ip,hna]; exact hb
  refine G ?_;refine Ed 9 zYc (eSy y) [] (Uu y) rfl (fun hw => ?_) ?_
  ·refine XX 1 (l := []) trivial ?_;refine G3 ?_;refine DF (A4 hgm ldC rfl (show Be 1 false ((I5 a q M.k).drop 0) = some (.pr a 0) from rfl)) ?_
   refine G2 ?_;refine DF (A4 hgw ldC rfl (show Be 1 false ((B5 d s kq rq yq).drop 8) = some (.mp yq) from rfl)) ?_
   refine G2 ?_;refine DF (F4 (v := y) st9 Ao3 rfl hS.w.ss rfl hy) (DT (B6 ziC) (DT (A6 (vs := zYc) (vs' := eSy y) ldC rfl rfl (Bk (Q5 _)) Bj (Cx (Q5 _))) ?_));refine G ?_
   exact ⟨(by intro e he; simp at he; rcases he with rfl | rfl <;> first | exact .refl | exact H1 hw),trivial,sb,rfl,rfl⟩
  refine G7 ?_;refine O1 (Ah (v := .agg (eR r)) ldC rfl rfl (B0 (Pz r))) (Af rfl rfl rfl rfl (f55 r _ Om hao) ?_);refine G4 ?_;refine Bh (Az r).length (fun i0 => [(0,.pr b 0),(4,.pv [sV s0,slV eT 2 ks]),(5,.pv (at'.map iV)),(9,.pv (eSy y)),(10,iV (Fg (A9 W y.binds o at' ((Az r).take i0) ((Gg W M ks).take i0) 0) 0)),(69,Aj (Az r)),(70,iV (.ofNat (Az r).length)),(71,iV (.ofNat i0))]) (fun i0 J0 => Below (nx J) J J0) SL dv_ ?_
  rintro i0 J0 hi0 hB0;refine G5 ?_;refine Ab rfl ?_ ?_ <;> intro h2
  ·have bc : i0 < (Az r).length := by simpa using h2
   obtain ⟨a0,ha0⟩ := A3 bc;have hd0 := Av ha0;have hS0 := hS.below hw hB0;have dn := hS0.w.cl;have jh := hS0.m
   obtain ⟨k0,hk0⟩ := A3 (show i0 < ks.length by rw [← hna,← Ip]; exact bc)
   have hk0m := af_ hk0;obtain ⟨a0',mi,hfk⟩ := hks i0 k0 hk0;rw [ha0] at mi; cases mi
   have mo : (Gg W M ks)[i0]? = some (evS W M k0) := by rw [Ky,az_,hk0]; rfl
   have hsn := Aav (W := W) (b := y.binds) (obj := o) (at' := at') ha0 mo;obtain ⟨hr1,hr2⟩ := Aqd hD hP hsl (ga_ bc);have hva := P4 (k := kd W.km a0) hn1;have hvb := Afm (k := kd W.km a0) hn3;have hm0 : Fg (A9 W y.binds o at' ((Az r).take i0) ((Gg W M ks).take i0) 0) 0 * Ct W.n (kd W.km a0) <= 10000 * 3 := Int.mul_le_mul Om hvb Om Om;have hm1 : 0 <= Fg (A9 W y.binds o at' ((Az r).take i0) ((Gg W M ks).take i0) 0) 0 * Ct W.n (kd W.km a0) := Int.mul_nonneg hr1 Om;refine G12 ?_;refine XS (l := [(53,[.pr a 0,iV (kd W.km a0)],J0,iV (Ct s.size (kd W.km a0)),J0)]) ⟨f53 d s a kq rq yq (kd W.km a0) _ hS0.w.cl,trivial⟩ ?_;refine G3 ?_;refine DF (A4 jh ldC rfl (show Be 1 false ((I5 a q M.k).drop 0) = some (.pr a 0) from rfl)) ?_
   refine G3 ?_;refine DF (A4 jh ldC rfl (show Be 1 false ((I5 a q M.k).drop 0) = some (.pr a 0) from rfl)) ?_
   refine G2 ?_;refine DF (A4 dn ldC rfl (show Be 1 false ((B5 d s kq rq yq).drop 6) = some (.mp kq) from rfl)) ?_
   refine G ?_;refine DF (G1 st9 Lu rfl hS0.w.ks rfl) ?_;refine G11 ?_;refine Ab rfl ?_ ?_ <;> intro h3
   ·have hbn : y.binds < 0 := by simpa using h3
    obtain ⟨hz1,hz2⟩ := Wb hW hk6 k0 a0 hfk (hv.kid k0 hk0m) at' hat
    have e3 : Fg (A9 W y.binds o at' ((Az r).take i0) ((Gg W M ks).take i0) 0) 0 * Ct s.size (kd W.km a0) + evS W M k0 at' = Fg (A9 W y.binds o at' ((Az r).take (i0 + 1)) ((Gg W M ks).take (i0 + 1)) 0) 0 := by rw [hsn,Ahz]; unfold Sw; rw [if_pos hbn,← hn]; rfl
    refine XS (l := [(36,[.pr b 0,Bp k0,.agg (at'.map iV)],J0,iV (evS W M k0 at'),J0)]) ⟨ih k0 hk0m at' _ hat hS0,trivial⟩ ?_;refine G2 ?_
    refine DF (Q2 okC rfl rfl (by rw [← hn]; omega) (by rw [← hn]; omega)) ?_
    refine G4 ?_;refine DF (Bn elC B2 rfl rfl hk0) (DF (Ah ldC rfl rfl (B4 (B2 k0) _)) (DF (Ah ldC rfl rfl (B0 fv)) ?_));refine G ?_
    refine DF (Ae4 okC rfl rfl (by rw [← hn]; omega) (by rw [← hn]; omega)) ?_
    refine G6 ?_;refine ⟨bc,⟨rfl,rfl,rfl,rfl,congrArg (fun x => some (iV x)) e3,rfl,rfl,rfl,trivial⟩,hB0⟩
   ·have hbn : ¬ y.binds < 0 := by simpa using h3
    refine G8 ?_;refine Ab rfl ?_ ?_ <;> intro h4
    ·have hne : ¬ Int.ofNat i0 = y.binds := by simpa using h4
     obtain ⟨jb,hjb,ab,hab,m0⟩ : ∃ j,y.binds = Int.ofNat j /\ ∃ q,(Az r)[j]? = some q /\ kd W.km q = 1 := by
      rcases z4 with z4 | z4
      ·rw [z4] at hbn; exact absurd (by decide) hbn
      ·exact z4
     obtain ⟨kb,hkb,o5,m6⟩ := Adr (M := M) (y := y) hW hf hv hr hab m0
     have m7 : (M.of (Da kb)).obj = Int.ofNat o := by rw [ho,hjb,show (Int.ofNat jb).toNat = jb from rfl,hkb]; exact (Int.toNat_of_nonneg o5).symm
     have ho6 : o < 6 := by rw [m7] at m6; simp at m6; omega
     have o6 : vm.get (Da kb) = some (M.of (Da kb)) := by
      obtain ⟨rb,rb1,rb2,rb3⟩ := Anb hW hf hr hab m0 hkb;exact hvm _ rb rb3 rb1 rb2
     have hB0n := hB0.1
     have hB5 : Below (nx J) J ((J0.new (.cells [.int .i64 0,.int .i64 0,.int .i64 0,.int .i64 0,.int .i64 0,.int .i64 0])).set (nx J0) (.cells (at'.map iV))) := ⟨by rw [Ae,Ac]; omega,fun c hc => by rw [a_,if_neg Om,ab_,if_neg Om]; exact hB0.2 c hc⟩
     have hS5 := hS.below hw hB5;have o7 := hS5.w.cl;have o8 := hS5.m
     have iz : ∀ r,Be 1 false (eT kb ++ r) = some (sV (Da kb)) := fun r => by cases kb; rw [Jr]; rfl
     refine G ?_;refine X0 ?_;refine G3 ?_;refine DF (A4 jh ldC rfl (show Be 1 false ((I5 a q M.k).drop 1) = some (.mp q) from rfl)) ?_
     refine G4 ?_;refine DF (Bn (i := jb) elC B2 rfl (congrArg (fun x => some (AV.int .i64 x)) hjb) hkb) ?_
     refine G ?_;refine DF (Ah ldC rfl rfl (iz _)) (DF (F4 (v := M.of (Da kb)) st9 mp88 rfl hS0.of rfl o6) (DF (Zh (cs := eMg (M.of (Da kb))) fdC rfl rfl) ?_));refine G2 ?_;refine ⟨rfl,rfl,?_⟩;refine G2 ?_;refine O1 (Ah ldC rfl rfl (B0 fv)) ?_
     refine O1 (Ho (n := nx J0) ziC rfl) ?_; refine O1 (F3 (a := nx J0) (off := 0) (cs := [.int .i64 0,.int .i64 0,.int .i64 0,.int .i64 0,.int .i64 0,.int .i64 0]) (cs' := at'.map iV) (by rw [ab_,if_pos rfl]) ldC rfl rfl (Bk fv) (Cx fv)) ?_
     refine G6 ?_;refine O1 (A4 o8 ldC rfl (show Be 1 false ((I5 a q M.k).drop 0) = some (.pr a 0) from rfl)) ?_
     refine G3 ?_
     refine O1 (A4 o7 ldC rfl (show Be 1 false ((B5 d s kq rq yq).drop 0) = some (iV (.ofNat nn)) from by rw [show Int.ofNat nn = s.size from hsz.symm]; rfl)) ?_
     refine G3 ?_
     refine Bh nn (fun i3 => [(0,.pr b 0),(4,.pv [sV s0,slV eT 2 ks]),(5,.pv (at'.map iV)),(9,.pv (eSy y)),(10,iV (Fg ((A9 W y.binds o at' ((Az r).take i0) ((Gg W M ks).take i0) 0) ++ Lv (Ct W.n (kd W.km a0)) (evS W M k0) at' o i3) 0)),(11,iV (.ofNat i0)),(13,iV (Ct s.size (kd W.km a0))),(14,iV (M.of (Da kb)).obj),(15,.pr (nx J0) 0),(69,Aj (Az r)),(70,iV (.ofNat (Az r).length)),(71,iV (.ofNat i0)),(132,iV (.ofNat nn)),(133,iV (.ofNat i3))]) (fun i3 J3 => Below (nx J) J J3 /\ nx J0 < nx J3 /\ ∃ at2 : List Int,J3.get (nx J0) = some (.cells (at2.map iV)) /\ at2.length = 6 /\ ∀ e,at2.set o e = at'.set o e) ⟨rfl,rfl,rfl,rfl,congrArg (fun x => some (iV x)) (show Fg (A9 W y.binds o at' ((Az r).take i0) ((Gg W M ks).take i0) 0) 0 = Fg ((A9 W y.binds o at' ((Az r).take i0) ((Gg W M ks).take i0) 0) ++ Lv (Ct W.n (kd W.km a0)) (evS W M k0) at' o 0) 0 by simp [Lv]),rfl,rfl,rfl,rfl,rfl,rfl,rfl,rfl,rfl,trivial⟩ ⟨⟨by rw [Ae,Ac]; have := hB0.1; omega,fun c hc => by have := hB0.1; rw [a_,if_neg Om,ab_,if_neg Om]; exact hB0.2 c hc⟩,by rw [Ae,Ac]; omega,at',by rw [a_,if_pos rfl],hat.1,fun _ => rfl⟩ ?_
     rintro i3 J3 hi3 ⟨hB3,o9,at2,hA3,hl2,hs2⟩;refine G5 ?_;refine Ab rfl ?_ ?_ <;> intro h5
     ·have pb : i3 < nn := by simpa using h5
      have pc : (at2.map iV).set o (iV (Int.ofNat i3)) = ((at'.set o (Int.ofNat i3)).map iV) := by rw [← hs2,List.map_set]
      have hB0n := hB0.1
      have hB4 : Below (nx J) J (J3.set (nx J0) (.cells ((at'.set o (Int.ofNat i3)).map iV))) := ⟨by rw [Ae]; exact hB3.1,fun c hc => by rw [a_,if_neg Om]; exact hB3.2 c hc⟩
      have hS4 := hS.below hw hB4
      have pd : (((at'.set o (Int.ofNat i3)).map iV)).length = 6 := by rw [by_,dh_]; exact hat.1
      obtain ⟨hx1,hx2⟩ := Atp hD hP hsl ha0 mo hbn hne (e := i3) (by rw [hn,hsz]; simp; omega)
      have hy0 : Fg ((A9 W y.binds o at' ((Az r).take i0) ((Gg W M ks).take i0) 0) ++ Lv (Ct W.n (kd W.km a0)) (evS W M k0) at' o i3) 0 * Ct W.n (kd W.km a0) <= 10000 * 3 := Int.mul_le_mul Om hvb Om Om;have hy1 : 0 <= Fg ((A9 W y.binds o at' ((Az r).take i0) ((Gg W M ks).take i0) 0) ++ Lv (Ct W.n (kd W.km a0)) (evS W M k0) at' o i3) 0 * Ct W.n (kd W.km a0) := Int.mul_nonneg hx1 Om
      obtain ⟨hz1,hz2⟩ := Wb hW hk6 k0 a0 hfk (hv.kid k0 hk0m) (at'.set o (Int.ofNat i3)) (hat.set (by rw [hn,hsz]; simp; omega))
      have e3 : Fg ((A9 W y.binds o at' ((Az r).take i0) ((Gg W M ks).take i0) 0) ++ Lv (Ct W.n (kd W.km a0)) (evS W M k0) at' o i3) 0 * Ct s.size (kd W.km a0) + evS W M k0 (at'.set o (Int.ofNat i3)) = Fg ((A9 W y.binds o at' ((Az r).take i0) ((Gg W M ks).take i0) 0) ++ Lv (Ct W.n (kd W.km a0)) (evS W M k0) at' o (i3 + 1)) 0 := by rw [Wa,← bu_,← hn]; exact (Ana _ (Ct W.n (kd W.km a0),evS W M k0 (at'.set o (Int.ofNat i3)))).symm
      refine G12 ?_;refine O1 (I0 (v := .pr (nx J0) (0 + o * 1)) Ak6 rfl (congrArg (fun x => some (AV.int .i64 x)) m7) ho6 rfl) ?_
      refine O1 (F3 (cs' := ((at'.set o (Int.ofNat i3)).map iV)) hA3 ldC rfl rfl rfl (by rw [be_,ex_,Adw (by rw [by_,hl2]; exact ho6),pc])) ?_
      refine G ?_
      refine XS (l := [(36,[.pr b 0,Bp k0,.agg ((at'.set o (Int.ofNat i3)).map iV)],J3.set (nx J0) (.cells ((at'.set o (Int.ofNat i3)).map iV)),iV (evS W M k0 (at'.set o (Int.ofNat i3))),J3.set (nx J0) (.cells ((at'.set o (Int.ofNat i3)).map iV)))]) ⟨ih k0 hk0m (at'.set o (Int.ofNat i3)) _ (hat.set (by rw [hn,hsz]; simp; omega)) hS4,trivial⟩ ?_
      refine G2 ?_
      refine DF (Q2 okC rfl rfl (by rw [← hn]; omega) (by rw [← hn]; omega)) ?_
      refine G4 ?_
      refine DF (Bn elC B2 rfl rfl hk0) (DF (Ah ldC rfl rfl (B4 (B2 k0) _)) (DF (A4 (cs := ((at'.set o (Int.ofNat i3)).map iV)) (by rw [a_,if_pos rfl]) ldC rfl (B0 pd)) ?_))
      refine G ?_
      refine DF (Ae4 okC rfl rfl (by rw [← hn]; omega) (by rw [← hn]; omega)) ?_
      refine G6 ?_
      refine ⟨pb,⟨rfl,rfl,rfl,rfl,congrArg (fun x => some (iV x)) e3,rfl,rfl,rfl,rfl,rfl,rfl,rfl,rfl,rfl,trivial⟩,⟨hB4,by rw [Ae]; exact o9,at'.set o (Int.ofNat i3),by rw [a_,if_pos rfl],by rw [dh_]; exact hat.1,fun e => by rw [List.set_set]⟩⟩
     ·have m8 : nn <= i3 := by simpa using h5
      have m8 : i3 = nn := by omega
      have e4 : Fg ((A9 W y.binds o at' ((Az r).take i0) ((Gg W M ks).take i0) 0) ++ Lv (Ct W.n (kd W.km a0)) (evS W M k0) at' o i3) 0 = Fg (A9 W y.binds o at' ((Az r).take (i0 + 1)) ((Gg W M ks).take (i0 + 1)) 0) 0 := by rw [hsn]; unfold Sw; rw [if_neg hbn,if_neg hne,hn,hsz,m8]; rfl
      refine G5 ?_;refine ⟨bc,⟨rfl,rfl,rfl,rfl,congrArg (fun x => some (iV x)) e4,rfl,rfl,rfl,trivial⟩,hB3⟩
    ·have hne : Int.ofNat i0 = y.binds := by simpa using h4
     have e3 : Fg (A9 W y.binds o at' ((Az r).take i0) ((Gg W M ks).take i0) 0) 0 = Fg (A9 W y.binds o at' ((Az r).take (i0 + 1)) ((Gg W M ks).take (i0 + 1)) 0) 0 := by rw [hsn]; unfold Sw; rw [if_neg hbn,if_pos hne,cn_]
     refine G5 ?_;refine ⟨bc,⟨rfl,rfl,rfl,rfl,congrArg (fun x => some (iV x)) e3,rfl,rfl,rfl,trivial⟩,hB0⟩
  ·have bm : (Az r).length <= i0 := by simpa using h2
   have hft : (Gg W M ks).take i0 = Gg W M ks := ar_ (by rw [← hsl]; exact bm)
   rw [ar_ bm,hft];obtain ⟨hq1,hq2⟩ := Aqd hD hP hsl nl;rw [eh_,hsl,eh_] at hq1 hq2
   obtain ⟨vv,hvv⟩ := A3 (show (Fg (A9 W y.binds o at' (Az r) (Gg W M ks) 0) 0).toNat < y.vals.length by simp only [aj_] at hq2; omega)
   have hve : Fg (A9 W y.binds o at' (Az r) (Gg W M ks) 0) 0 = Int.ofNat (Fg (A9 W y.binds o at' (Az r) (Gg W M ks) 0) 0).toNat := (Int.toNat_of_nonneg hq1).symm;refine G6 ?_;refine O1 (Bn (i := (Fg (A9 W y.binds o at' (Az r) (Gg W M ks) 0) 0).toNat) elC (fun _ => rfl) rfl (congrArg (fun x => some (AV.int .i64 x)) hve) hvv) ?_
   refine G4 ?_;refine ⟨_,rfl,_,J,as_ hw hB0,nl,.same rfl,?_,rfl⟩
   unfold evS; rw [hr]; simp only; rw [if_neg (by rw [h1]; simp),hy]; simp only; rw [← ho,hvv]; rfl
theorem f36 (d : Db) (s : Stc) (g : Gr) (W : Wd) (rm : SM Rl) (vm : SM Mg) (M : Mn) (a kq rq yq b q : Nat) (hG : GOk g) (hWg : W.g = g.rules) (hn : W.n = s.size) (hW : Afn W) (hrm : ∀ l,rm.get l = Au g.rules l) (hk6 : M.k <= 6) (t : As) : ∀ (q0 : Str) (at' : List Int) (τ : Sto),(∀ s' r',ocT s' t = true -> Au W.g s' = some r' -> r'.var = true -> vm.get s' = some (M.of s')) -> Bm W.g t = some q0 -> Jc W M t -> Mi W.n at' -> MnS d s W rm vm M.k a kq rq yq b q τ -> Ch t <= 100000 ->
  Cv 36 [.pr b 0,Bp t,.agg (at'.map iV)] τ (iV (evS W M t at')) := by
 refine As.ind' (P := fun t => ∀ (q0 : Str) (at' : List Int) (τ : Sto),(∀ s' r',ocT s' t = true -> Au W.g s' = some r' -> r'.var = true -> vm.get s' = some (M.of s')) -> Bm W.g t = some q0 -> Jc W M t -> Mi W.n at' -> MnS d s W rm vm M.k a kq rq yq b q τ -> Ch t <= 100000 ->
  Cv 36 [.pr b 0,Bp t,.agg (at'.map iV)] τ (iV (evS W M t at'))) ?_ t
 intro s0 ks ih q0 at' τ hvm hf hv hat hS hb;have hlk := Mh ks
 have hc : 1 + Dw ks <= 100000 := by unfold Ch at hb; exact hb
 obtain ⟨r,hr,hq,hna,hks⟩ := Gf hW.rs hf;refine f36n d s g W rm vm M a kq rq yq b q hG hWg hn hW hrm hk6 s0 q0 ks at' τ hvm hf hv hat hS Om fun k hk at2 τ2 ju hS2 => ?_
 obtain ⟨j,hj⟩ := List.getElem?_of_mem hk;obtain ⟨x,_,hx⟩ := hks j k hj;have hck := P2 hk
 have hoc : ∀ s',ocT s' k = true -> ocT s' (.node s0 ks) = true := fun s' h => by
  unfold ocT;rw [show ocL s' ks = true from ?_]; simp
  clear hvm hf hv hS hb ih hlk hc hna hks hck hj
  induction ks with
  | nil => cases hk
  | cons b l ih =>
   unfold ocL
   rcases ai_.1 hk with rfl | hm
   ·rw [h]; rfl
   ·rw [ih hm]; simp
 exact ih k hk x at2 τ2 (fun s' r' h => hvm s' r' (hoc s' h)) hx (hv.kid k hk) ju hS2 Om
end Go.AM
