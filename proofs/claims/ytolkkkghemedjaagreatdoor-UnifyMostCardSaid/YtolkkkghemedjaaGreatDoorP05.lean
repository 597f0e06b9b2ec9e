/- A part of the proof; shortened by program. -/
import Derived.Shelf.Small.Strs
import Derived.Shelf.Sort.Plain
import Derived.Shelf.Slices.In.SortNone
import Derived.Test.YtolkkkghemedjaaGreatDoorProg
import Derived.Shelf.Small.Utf8
import Derived.Shelf.Strings.Runes
import Derived.Shelf.GgClosure.StringsRunes
import Derived.Test.YtolkkkghemedjaaGreatDoorP04
set_option maxRecDepth 100000
set_option maxHeartbeats 4000000
set_option linter.unusedSimpArgs false
set_option linter.unusedVariables false
namespace Go.AM
open Go
section
set_option linter.unusedSectionVars false
class KE (κ : Type) [DecidableEq κ] where
 k : κ -> Key
 eq : ∀ a b,Key.eq (k a) (k b) = decide (a = b)
theorem Acx (a b : Int) : Rv a b = decide (a = b) := by
 cases a with
 | ofNat x => cases b with
  | ofNat y =>
   show Nat.beq x y = _
   by_cases h : x = y
   ·subst h; simp
   ·rw [decide_eq_false (fun hh => h (di_ hh))]
    cases hb : Nat.beq x y with
    | true => exact absurd (ac_ hb) h
    | false => rfl
  | negSucc y => rfl
 | negSucc x => cases b with
  | ofNat y => rfl
  | negSucc y =>
   show Nat.beq x y = _
   by_cases h : x = y
   ·subst h; simp
   ·rw [decide_eq_false (fun hh => h (Int.negSucc.inj hh))]
    cases hb : Nat.beq x y with
    | true => exact absurd (ac_ hb) h
    | false => rfl
instance : KE Int where
 k n := .int .i64 n
 eq a b := by show (He .i64 .i64 && Rv a b) = _; rw [Acx]; rfl
abbrev Kk := Str × Int × Int
instance : KE Kk where
 k p := .agg [kS p.1,.int .i64 p.2.1,.int .i64 p.2.2]
 eq a b := by
  obtain ⟨s,x,y⟩ := a;obtain ⟨t,u,v⟩ := b;simp only [Key.eq,Key.eqs,Aco,Acx,He]
  by_cases h1 : s = t <;> by_cases h2 : x = u <;> by_cases h3 : y = v <;> simp [h1,h2,h3]
abbrev GM (κ α : Type) := List (κ × α)
section
variable {κ α : Type} [DecidableEq κ] [KE κ]
def Cz (enc : α -> AV) (m : GM κ α) : List (Key × AV) := m.map fun p => (KE.k p.1,enc p.2)
def GM.get : GM κ α -> κ -> Option α
 | [],_ => none
 | (k,v) :: r,s => if s = k then some v else GM.get r s
def GM.set : GM κ α -> κ -> α -> GM κ α
 | [],_,_ => []
 | (k,v) :: r,s,x => if s = k then (k,x) :: r else (k,v) :: GM.set r s x
def GM.ins : GM κ α -> κ -> α -> GM κ α
 | [],s,x => [(s,x)]
 | (k,v) :: r,s,x => if Key.lt (KE.k s) (KE.k k) then (s,x) :: (k,v) :: r else (k,v) :: GM.ins r s x
def GM.put (m : GM κ α) (s : κ) (x : α) : GM κ α := match m.get s with | some _ => m.set s x | none => m.ins s x
def GM.del : GM κ α -> κ -> GM κ α
 | [],_ => []
 | (k,v) :: r,s => if s = k then r else (k,v) :: GM.del r s
variable {enc : α -> AV} {m : GM κ α} {s t : κ} {x : α}
theorem P4 : ∀ {m : GM κ α},De (KE.k s) (Cz enc m) = (m.get s).map enc
 | [] => rfl
 | (k,v) :: r => by
  show cond (Key.eq (KE.k s) (KE.k k)) (some (enc v)) (De (KE.k s) (Cz enc r)) = _
  rw [KE.eq,GM.get]
  by_cases h : s = k
  ·rw [decide_eq_true h,cond_true,if_pos h]; rfl
  ·rw [decide_eq_false h,cond_false,if_neg h]; exact P4
theorem Agm : ∀ {m : GM κ α},Np (KE.k s) (enc x) (Cz enc m) = Cz enc (m.set s x)
 | [] => rfl
 | (k,v) :: r => by
  show cond (Key.eq (KE.k s) (KE.k k)) ((KE.k k,enc x) :: Cz enc r) ((KE.k k,enc v) :: Np (KE.k s) (enc x) (Cz enc r)) = _
  rw [KE.eq,GM.set]
  by_cases h : s = k
  ·rw [decide_eq_true h,cond_true,if_pos h]; rfl
  ·rw [decide_eq_false h,cond_false,if_neg h,Agm]; rfl
theorem Agn : ∀ {m : GM κ α},Mm (KE.k s) (enc x) (Cz enc m) = Cz enc (m.ins s x)
 | [] => rfl
 | (k,v) :: r => by
  show cond (Key.lt (KE.k s) (KE.k k)) ((KE.k s,enc x) :: (KE.k k,enc v) :: Cz enc r) ((KE.k k,enc v) :: Mm (KE.k s) (enc x) (Cz enc r)) = _
  rw [GM.ins];cases h : Key.lt (KE.k s) (KE.k k)
  ·rw [cond_false,if_neg (by simp),Agn]; rfl
  ·rw [cond_true,if_pos rfl]; rfl
theorem Ago : ∀ {m : GM κ α},Vx (KE.k s) (Cz enc m) = Cz enc (m.del s)
 | [] => rfl
 | (k,v) :: r => by
  show cond (Key.eq (KE.k s) (KE.k k)) (Cz enc r) ((KE.k k,enc v) :: Vx (KE.k s) (Cz enc r)) = _
  rw [KE.eq,GM.del]
  by_cases h : s = k
  ·rw [decide_eq_true h,cond_true,if_pos h]
  ·rw [decide_eq_false h,cond_false,if_neg h,Ago]; rfl
theorem Aot : Ama (KE.k s) (enc x) (Cz enc m) = Cz enc (m.put s x) := by
 unfold Ama GM.put;rw [P4];cases m.get s with
 | none => exact Agn
 | some y => exact Agm
theorem GM.get_set : ∀ {m : GM κ α},(m.set s x).get t = if t = s /\ (m.get s).isSome then some x else m.get t
 | [] => by simp [GM.set,GM.get]
 | (k,v) :: r => by
  unfold GM.set
  by_cases h : s = k
  ·subst h;rw [if_pos rfl];simp only [GM.get,if_true,fd_,and_true]
   by_cases ht : t = s
   ·simp [ht]
   ·simp [ht]
  ·rw [if_neg h];simp only [GM.get,if_neg h]
   by_cases ht : t = k
   ·subst ht;rw [if_pos rfl,if_pos rfl,if_neg (fun hh => h hh.1.symm)]
   ·rw [if_neg ht,if_neg ht]; exact GM.get_set
theorem GM.get_ins : ∀ {m : GM κ α},m.get s = none -> (m.ins s x).get t = if t = s then some x else m.get t
 | [],_ => by simp [GM.ins,GM.get]
 | (k,v) :: r,hn => by
  have hk : s ≠ k := fun h => by simp [GM.get,h] at hn
  have hr : GM.get r s = none := by simpa [GM.get,hk] using hn
  unfold GM.ins
  split
  ·simp only [GM.get]
  ·simp only [GM.get]
   by_cases ht : t = k
   ·subst ht; rw [if_pos rfl,if_neg (fun h => hk h.symm),if_pos rfl]
   ·rw [if_neg ht,if_neg ht]; exact GM.get_ins hr
theorem GM.get_put : (m.put s x).get t = if t = s then some x else m.get t := by
 unfold GM.put;cases h : m.get s with
 | none => exact GM.get_ins h
 | some y => simp only [GM.get_set,h,fd_,and_true]
abbrev fp_ := @GM.get_put
theorem GM.len_set : ∀ {m : GM κ α},(m.set s x).length = m.length
 | [] => rfl
 | (k,v) :: r => by unfold GM.set; split <;> simp [GM.len_set]
theorem GM.len_ins : ∀ {m : GM κ α},(m.ins s x).length = m.length + 1
 | [] => rfl
 | (k,v) :: r => by unfold GM.ins; split <;> simp [GM.len_ins]
theorem GM.len_put : (m.put s x).length = if (m.get s).isSome then m.length else m.length + 1 := by
 unfold GM.put;cases h : m.get s with
 | none => exact GM.len_ins
 | some y => exact GM.len_set
def GM.Nd : GM κ α -> Prop
 | [] => True
 | (k,_) :: r => GM.get r k = none /\ GM.Nd r
theorem GM.nd_set : ∀ {m : GM κ α},GM.Nd m -> GM.Nd (m.set s x)
 | [],_ => trivial
 | (k,v) :: r,h => by
  unfold GM.set
  split
  ·exact h
  ·rename_i hk
   exact ⟨by rw [GM.get_set,if_neg (fun hh => hk hh.1.symm)]; exact h.1,GM.nd_set h.2⟩
theorem GM.nd_ins : ∀ {m : GM κ α},m.get s = none -> GM.Nd m -> GM.Nd (m.ins s x)
 | [],_,_ => ⟨rfl,trivial⟩
 | (k,v) :: r,hn,h => by
  have hk : s ≠ k := fun h => by simp [GM.get,h] at hn
  have hr : GM.get r s = none := by simpa [GM.get,hk] using hn
  unfold GM.ins
  split
  ·exact ⟨hn,h⟩
  ·exact ⟨by rw [GM.get_ins hr,if_neg (fun hh => hk hh.symm)]; exact h.1,GM.nd_ins hr h.2⟩
theorem GM.nd_put (h : GM.Nd m) : GM.Nd (m.put s x) := by
 unfold GM.put;cases hg : m.get s with
 | none => exact GM.nd_ins hg h
 | some y => exact GM.nd_set h
theorem GM.get_del : ∀ {m : GM κ α},GM.Nd m -> (m.del s).get t = if t = s then none else m.get t
 | [],_ => by simp [GM.del,GM.get]
 | (k,v) :: r,h => by
  unfold GM.del
  by_cases hs : s = k
  ·subst hs;rw [if_pos rfl]
   by_cases ht : t = s
   ·subst ht; rw [if_pos rfl]; exact h.1
   ·rw [if_neg ht]; simp only [GM.get,if_neg ht]
  ·rw [if_neg hs];simp only [GM.get]
   by_cases ht : t = k
   ·subst ht; rw [if_pos rfl,if_neg (fun hh => hs hh.symm),if_pos rfl]
   ·rw [if_neg ht,if_neg ht]; exact GM.get_del h.2
theorem GM.nd_del : ∀ {m : GM κ α},GM.Nd m -> GM.Nd (m.del s)
 | [],_ => trivial
 | (k,v) :: r,h => by
  unfold GM.del
  by_cases hs : s = k
  ·rw [if_pos hs]; exact h.2
  ·rw [if_neg hs];refine ⟨?_,GM.nd_del h.2⟩;rw [GM.get_del h.2]
   split
   ·rfl
   ·exact h.1
end
def GAt {κ α : Type} [DecidableEq κ] [KE κ] (kt : Nat) (enc : α -> AV) (U : Sto) (r : Nat) (m : GM κ α) : Prop := ∃ ver,U.get r = some (.map kt (Cz enc m) ver)
section
variable {E : Env} {J : Ae} {U U' : Sto} {Rr : Rec} {t kt sz r a : Nat} {x y w : Operand} {agg : Bool} {z u : AV} {κ α : Type} [DecidableEq κ] [KE κ] {enc : α -> AV} {m : GM κ α} {k : κ} {v : α}
theorem Xz (hi : mpI E.P t = some (kt,z,sz,agg)) (hx : Ak E J x = some (.mp r)) (hm : GAt kt enc U r m) (hy : Ak E J y = some u) (hk : Er E.P kt u = some (KE.k k)) :
  A0 E Rr (.lookup t x y false) J U (((m.get k).map enc).getD z) U := by
 have := Aca (Rr := Rr) hi hx (show Vc U kt (Cz enc m) (.mp r) from hm) hy hk
 rwa [P4] at this
theorem Oz (hi : mpI E.P t = some (kt,z,sz,agg)) (hx : Ak E J x = some (.mp r)) (hm : GAt kt enc U r m) (hy : Ak E J y = some u) (hk : Er E.P kt u = some (KE.k k)) :
  A0 E Rr (.lookup t x y true) J U (.tup [((m.get k).map enc).getD z,.bool (m.get k).isSome]) U := by
 have := Zb (Rr := Rr) hi hx (show Vc U kt (Cz enc m) (.mp r) from hm) hy hk
 rwa [P4,fk_] at this
theorem X1 {ver : Nat} (hi : mpI E.P t = some (kt,z,sz,agg)) (hx : Ak E J x = some (.mp r)) (hm : U.get r = some (.map kt (Cz enc m) ver)) (hy : Ak E J y = some u) (hk : Er E.P kt u = some (KE.k k))
  (hw : Ak E J w = some (enc v)) (hf : ∀ te : TI,te.size = sz -> te.isAgg = agg -> Nu te (enc v) = true) :
  A0 E Rr (.mapUpdate t x y w) J U Au (U.set r (.map kt (Cz enc (m.put k v)) (ver + 1))) := by
 have := Acb (Rr := Rr) hi hx hm hy hk hw hf
 rwa [Aot] at this
theorem Aq7 {ver ty : Nat} (hi : mpI E.P t = some (kt,z,sz,agg)) (hx : Ak E J x = some (.mp r)) (hm : U.get r = some (.map kt (Cz enc m) ver)) (hy : Ak E J y = some u) (hk : Er E.P kt u = some (KE.k k)) :
  A0 E Rr (.call ⟨.builtin .delete,#[x,y],#[t,ty]⟩) J U Au (U.set r (.map kt (Cz enc (m.del k)) (ver + 1))) := fun tm h => by
 obtain ⟨ti,et,te,h1,h2,h3,h4,h5,h6⟩ := S4 hi;simp only [opA,Az,h1,C8,h2,h.opd hx,h.opd hy,opds,hk,Xm,hm,bf_,Ai,Ago]
theorem Aq8 {ver : Nat} (hi : mpI E.P t = some (kt,z,sz,agg)) (hx : Ak E J x = some (.mp r)) (hm : GAt kt enc U r m) :
  A0 E Rr (.call ⟨.builtin .len,#[x],#[t]⟩) J U (.int .i64 (.ofNat m.length)) U := fun tm h => by
 obtain ⟨ti,et,te,h1,h2,h3,h4,h5,h6⟩ := S4 hi;obtain ⟨ver,hv⟩ := hm;simp only [opA,Az,h1,C8,h2,h.opd hx,opds,Pe,hv,Ai,Cz,bs_]
theorem GAt.of_get (h : GAt kt enc U r m) (hg : U'.get r = U.get r) : GAt kt enc U' r m := by obtain ⟨v,h⟩ := h; exact ⟨v,hg.trans h⟩
theorem GAt.put {ver : Nat} : GAt kt enc (U.set r (.map kt (Cz enc m) ver)) r m := ⟨ver,by rw [a_,if_pos rfl]⟩
end
end
section
variable {E : Env} {J : Ae} {U U' τ : Sto} {Rr : Rec} {t ty n a i k N off sz sz0 by' : Nat} {x y : Operand} {agg : Bool} {cs cs' c tl : List AV} {u v : AV} {α : Type} {enc : α -> List AV} {l : List α} {e : α}
theorem A5 (hg : U.get a = some (.cells cs)) (hi : ldI E.P t = some (sz,agg)) (hx : Ak E J x = some (.pr a off)) (hv : Jc sz agg (cs.drop off) = some v) : A0 E Rr (.load t x) J U v U :=
 Ad hi hx (by simp only [Bk,Sto.cells,hg]) hv
theorem E3 (hg : U.get a = some (.cells cs)) (hi : ldI E.P t = some (sz,agg)) (hx : Ak E J x = some (.pr a off)) (hy : Ak E J y = some v) (hc : v.cellsN sz = some c) (hs : setAt cs off c = some cs') : A0 E Rr (.store t x y) J U Au (U.set a (.cells cs')) :=
 Aw hi hx hy hc (by simp only [Sto.cells,hg]) hs
theorem Gj (he : ∀ a,(enc a).length = sz0) (hg : U.get a = some (.cells (l.flatMap enc ++ tl))) (hu : l[i]? = some e) (hi : ldI E.P t = some (sz,agg)) (hx : Ak E J x = some (.pr a (i * sz0 + k))) (hk : Nat.ble k sz0 = true) (hv : ∀ r,Jc sz agg ((enc e).drop k ++ r) = some v) : A0 E Rr (.load t x) J U v U := by
 refine A5 hg hi hx ?_;have hil := (aa_.1 hu).1
 have h0 : i * sz0 <= (l.flatMap enc).length := by rw [Dd he]; exact dk_ _ (ef_ hil)
 have hk := aj_ hk
 rw [← dh_,cm_ h0,Xv he hu,cc_,cm_ (by rw [he]; exact hk)]
 exact hv _
def adr : AV -> Option Nat
 | .sr a _ _ _ _ => some a
 | _ => none
def Dj (v w : AV) : Prop := ∀ a,adr v = some a -> adr w ≠ some a
theorem Dj.symm (h : Dj u v) : Dj v u := fun a h1 h2 => h a h2 h1
theorem Own.adr_lt (h : Own U N enc sz l v) {a : Nat} (ha : adr v = some a) : N <= a /\ a < nx U := by
 rcases h with ⟨_,rfl | rfl⟩ | ⟨b,tl,h1,h2,rfl,_⟩
 ·cases ha
 ·cases ha
 ·simp only [adr,ad_] at ha; subst ha; exact ⟨h1,h2⟩
theorem Own.of_get (h : Own U N enc sz l v) (hn : nx U <= nx U') (hg : ∀ a,adr v = some a -> U'.get a = U.get a) : Own U' N enc sz l v :=
 h.mono hn fun a tl hv _ _ _ => hg a (by rw [hv]; rfl)
theorem Own.sr (h : Own U N enc sz l v) (hi : i < l.length) : ∃ a tl,N <= a /\ a < nx U /\ v = .sr a 0 sz l.length none /\ U.get a = some (.cells (l.flatMap enc ++ tl)) := by
 rcases h with ⟨rfl,_⟩ | h
 ·exact absurd hi (fe_ _)
 ·exact h
theorem Own.app2 (he : ∀ a,(enc a).length = sz) (hN : N <= nx U) (h : Own U N enc sz l v) (b : α) (bz : (l.length + 1) * (by' + 1) <= sizeLim) :
  ∃ U',Bm U sz by' v 1 (enc b) = some (.sr (nx U) 0 sz (l.length + 1) none,U') /\ nx U' = nx U + 1 /\ Own U' N enc sz (l ++ [b]) (.sr (nx U) 0 sz (l.length + 1) none) /\ (∀ a,a < nx U -> adr v ≠ some a -> U'.get a = U.get a) := by
 obtain ⟨U',h1,_,h3,h4,h5⟩ := h.app1 (by' := by') he hN b bz
 exact ⟨U',h1,h3,h4,fun a ha hne => h5 a ha fun c hc hac => hne (by rw [hc,hac]; rfl)⟩
abbrev ff_ := @Own.app2
theorem WFS.kill (hw : WFS U) (a : Nat) : WFS (U.kill a) := fun b O hb => by
 rw [cp_] at hb
 split at hb
 ·cases hb
 ·obtain ⟨h1,h2,h3⟩ := hw b O hb;rw [Bn];refine ⟨h1,h2,?_⟩;unfold Zg at h3 ⊢
  split at h3
  ·intro kt es hg;rw [cp_] at hg;rw [Bn]
   split at hg
   ·cases hg
   ·exact h3 kt es hg
  ·trivial
theorem Own.fzA (he : ∀ a,(enc a).length = sz) (h : Own U N enc sz l v) (hτ : ∀ a,adr v = some a -> τ.get a = none) (hu : AV.unds (nx τ) (l.flatMap enc) = true) : Fz U τ v (slV enc sz l) := by
 rcases h with ⟨rfl,rfl | rfl⟩ | ⟨a,tl,h1,_,rfl,h3⟩
 ·exact .nils (fun q hq => by cases hq)
 ·exact .sv (fun q hq => by cases hq) .nil
 ·have ck : C7 (l.length * sz) ((l.flatMap enc ++ tl).drop 0) = some (l.flatMap enc) := by
   have := Fk (l := l.flatMap enc) (r := tl)
   rwa [Dd he] at this
  exact .sr h3 (hτ a rfl) ck (fb_ hu)
def without (U : Sto) (v : AV) : Sto := match adr v with | some a => U.kill a | none => U
theorem Di : nx (without U v) = nx U := by
 unfold without
 split
 ·exact Bn _ _
 ·rfl
theorem Hv {b : Nat} : (without U v).get b = if adr v = some b then none else U.get b := by
 unfold without;cases h : adr v with
 | none => simp
 | some a =>
  simp only [cp_,ad_]
  by_cases hb : b = a
  ·subst hb; simp
  ·rw [if_neg hb,if_neg (fun hh => hb hh.symm)]
theorem WFS.without (hw : WFS U) : WFS (without U v) := by
 unfold AM.without
 split
 ·exact hw.kill _
 ·exact hw
theorem D5.sub (h : WFS τ) (hn : nx τ <= nx U) (hg : ∀ a O,τ.get a = some O -> U.get a = some O) : D5 U τ := by
 refine ⟨hn,fun a O ha => ?_⟩
 obtain ⟨h1,h2,h3⟩ := h a O ha;refine ⟨h1,O,hg a O ha,?_⟩;cases O with
 | cells vs => exact .cells (fb_ h2)
 | map kt es ver => exact .map (M4 .same h2)
 | iter m ver left cur => exact .iter h2 h3
 | stamp m ver k => exact .stamp h2
 | loop st => exact .loop
theorem D5.without (hw : WFS U) : D5 U (without U v) := D5.sub hw.without (by rw [Di]; exact nl) fun a O ha => by
 rw [Hv] at ha
 split at ha
 ·cases ha
 ·exact ha
end
section
variable {E : Env} {nt B : Nat} {df : List (Nat × List AV)} {J : Ae} {U : Sto} {K : Ae -> Sto -> Prop}
theorem wk_sr {a off sz len : Nat} {cap : Option Nat} : Wk (.sr a off sz len cap) (.sr a off sz len none) := fun C N w x h => by
 unfold R at h ⊢;obtain ⟨ad,k,h1,h2,h3,h4,h5⟩ := h
 exact ⟨ad,k,h1,h2,h3,fun q hq => (by cases hq),h5⟩
theorem Ai6 {ops r : List Oper} {t len sz by' d ty : Nat} {z cs : List AV} {parts : Array (Nat × Operand)} {ps : List (Nat × Nat × AV)} {pos : String} {after : Array Edge} (hi : elI E.P t = some (sz,by',some z)) (hl : (Nat.ble (len * sz) 16777216 && Nat.beq z.length sz) = true)
  (hp : Rb E J sz parts.toList = some ps) (hf : Qc (rep z len) ps = some cs) (hd : Nat.blt d nt = true) (k : TO E nt df B ops r K ((d,.sr (nx U) 0 sz len none) :: J) (U.new (.cells cs))) :
  TO E nt df B ops ({ dst := some d,op := .buildSlice t len parts,type := ty,pos := pos,after := after,guard := none } :: r) K J U := by
 refine Akj (v := .sr (nx U) 0 sz len (some len)) (U' := U.new (.cells cs)) hd (fun C w tm a ht st => ?_) (Ar3 wk_sr k)
 obtain ⟨ti,e,te,h1,h2,h3,h4,h5,h6⟩ := Od hi;subst h4;rw [af_] at hl;refine .ofRuns (Ll st.sim h1 h2 h3 h6 (ac_ hl.2) (aj_ hl.1) (ps := G0 E tm te.size parts.toList) (byref := true) ?_ ?_).1
 ·rw [G1];exact I3 st.glob st.tmps _ _
 ·rw [Td ht hp];simp only [Fv,hf]
end
def Acy (E : Env) (L : RF) (f : Nat) (args : List AV) (U : Sto) (Post : AV -> Sto -> Prop) : Prop :=
 ∀ (C : Ctx) (w : World) (vs : Array Value),Ha L C (nx U) w -> Sim E.P C w U -> Gc C (nx U) w E -> RL C (nx U) w args vs.toList ->
  Q3 E.P f /\ Calls E.P f vs w fun
   | .returned x,w' => ∃ v U' C',Post v U' /\ Sim E.P C' w' U' /\ Ext C (nx U) w C' (nx U') w' /\ R C' (nx U') w' v x
   | _,_ => False
section
variable {E : Env} {L : RF} {nt B : Nat} {J : Ae} {U : Sto} {K : Ae -> Sto -> Prop}
theorem Atb {f : Nat} {fn : Func} {c : Code} {args : List AV} {Post : AV -> Sto -> Prop} (hfn : E.P.funcs[f]? = some fn) (cy : (fn.name == "runtime.NumGoroutine") = false) (hc : fn.body = some c) (hle : Nat.ble args.length fn.ntmps = true)
  (h : WFS U -> AV.unds (nx U) args = true -> TIt E L fn.ntmps (nx U) c (Aiq (Wo E fn (nx U) Post)) (E9 args 0) U) : Acy E L f args U Post := by
 intro C w vs hi hs hg bj
 refine ⟨⟨fn,hfn,cy,by rw [hc]; rfl⟩,?_⟩
 refine calls_of_wp_defers hfn hc ?_;have hle := aj_ hle;have st := Oj (E := E) (fn := fn) hs hg bj hle
 have ht : Has (Fq args 0 .e) (E9 args 0) := fun i v hv => by
  rw [E6];rw [Iv] at hv
  split at hv
  ·rename_i hi; rw [if_pos hi]; exact hv
  ·cases hv
 refine wp_mono (h hs.wfs (RL.unds _ _ bj) C w _ _ hi ht st nl) fun e a' w' he => ?_
 obtain ⟨x,tm',J',U₁,C',h1,h2,h3,h4,hB,h5⟩ := he;subst h1;have fin : Wo E fn (nx U) Post J' U₁ -> Leaves E.P fn a'.tmps (fun
   | .returned x,w' => ∃ v U' C',Post v U' /\ Sim E.P C' w' U' /\ Ext C (nx U) w C' (nx U') w' /\ R C' (nx U') w' v x
   | _,_ => False) a'.defers .returning w' := by
  intro hx;obtain ⟨vs₁,r1,v',U',r2,r3,r4,r5⟩ := hx
  have hds : a'.defers = [] := by
   have hd := h4.dfs;cases hds : a'.defers with
   | nil => rfl
   | cons d ds => rw [hds] at hd; unfold DR at hd; exact hd.elim
  obtain ⟨x,k1,k2⟩ := C6 (fn := fn) h4.sim h4.tmps (Oo h2 r1);rw [hds];exact ⟨x,k1,v',U',_,r5,h4.sim.frz r2,(h5.trans (fc_ C' U' _ w')).top r3,r4.R h4.sim k2⟩
 cases x with
 | normal => exact fin h3
 | ret => exact fin h3
 | exit id => exact h3.elim
theorem Acz {ops r : List Oper} {f : Operand} {args : Array Operand} {tys : Array Nat} {dst : Option Nat} {ty : Nat} {pos : String} {after : Array Edge} {k : Nat} {first cap vs full : List AV} {Post : AV -> Sto -> Prop} (hd : Ca nt dst = true)
  (hf : Ak E J f = some (.fn (.func k) first cap)) (ha : Ky E J args.toList = some vs) (hl : first ++ vs ++ cap = full) (hc : Acy E L k full U Post)
  (kk : ∀ v U',Post v U' -> nx U <= nx U' -> TOI E L nt B ops r K (Dz dst v J) U') : TOI E L nt B ops ({ dst := dst,op := .call ⟨.value f,args,tys⟩,type := ty,pos := pos,after := after,guard := none } :: r) K J U := by
 intro C w tm a hi ht st hB arr i n QQ br hr hQ
 have ho : arr[i]? = some { dst := dst,op := .call ⟨.value f,args,tys⟩,type := ty,pos := pos,after := after,guard := none } := by have := hr 0 (by simp); simpa using this.symm
 simp only [at_,d_,wpOpsIn,ho];have hw : Region.wanted { dst := dst,op := .call ⟨.value f,args,tys⟩,type := ty,pos := pos,after := after,guard := none } (yielded arr a.tmps) = true := rfl;rw [if_pos hw];refine Oy (ro := none) rfl ?_;have hV := Br st.glob st.tmps f;rw [ht.opd hf] at hV;unfold R at hV;obtain ⟨p,q,hV,hp,hq⟩ := hV;have bj := Dw st.glob st.tmps args.toList;rw [ht.opds ha] at bj
 have bi : RL C (nx U) w full (p ++ args.map a.eval ++ q).toList := by
  subst hl;simp only [db_,cb_];exact (hp.append bj).append hq
 have hi' : Ha L C (nx U) w := hi.ext ((by_ C B w).top hB);obtain ⟨⟨fn,g1,g2,g3⟩,bo⟩ := hc C w _ hi' st.sim st.glob bi
 have bx : (execOp a.eval { dst := dst,op := .call ⟨.value f,args,tys⟩,type := ty,pos := pos,after := after,guard := none }).run E.P w = .ok (.enter k (p ++ args.map a.eval ++ q)) w := by
  have g2' : fn.name ≠ "runtime.NumGoroutine" := by simpa using g2
  have g3' : fn.body ≠ none := fun hh => by rw [hh] at g3; cases g3
  simp [execOp,resolve,hV,Deferred.ofValue,invoke,callFunc,g1,g2',g3']
 unfold Oper.wp;rw [bx,Oper.upon_enter];refine bo.mono fun e w' he => ?_
 cases e with
 | returned x =>
  obtain ⟨v,U',C',k0,k1,k2,k3⟩ := he;obtain ⟨tm',h1,h2⟩ := Dc (dst := dst) hd ht v
  exact kk v U' k0 k2.next C' w' tm' _ (hi.ext (k2.base hB)) h2 (st.put k1 k2 k3 h1) (ax_ hB k2.next) arr (i + 1) n QQ br (fun j hj => by have := hr (j + 1) (by simpa using hj); simp only [be_] at this; rw [this]; congr 1; omega)
   fun C2 w2 a2 tm2 J2 U2 q1 q2 q3 qB q4 => hQ C2 w2 a2 tm2 J2 U2 q1 q2 q3 qB ((k2.base hB).trans q4)
 | panicked _ => exact he.elim
 | outgrown => exact he.elim
end
end Go.AM
namespace Go.Proofs
open Go.Shelf
def Tryz.lays189_ren : Go.Shelf.Ren := ⟨fun | 189 => 193 | 125 => 227 | 257 => 226 | 128 => 254 | 129 => 255 | 294 => 245 | 295 => 246 | 296 => 247 | 297 => 248 | 298 => 249 | 299 => 250 | 216 => 251 | 300 => 252 | 301 => 253 | 328 => 271 | 329 => 272 | 330 => 273 | 331 => 274 | 332 => 275 | 215 => 276 | 343 => 286 | n => n,fun | 28 => 122 | 3 => 3 | 46 => 292 | 0 => 0 | 51 => 352 | 53 => 289 | 4 => 4 | 183 => 345 | 182 => 344 | 131 => 188 | 5 => 5 | 9 => 9 | 218 => 367 | 222 => 371 | 228 => 380 | 229 => 106 | n => n,fun | n => n⟩
theorem Tryz.lays189 : Go.Proofs.Lays.n189 Tryz.prog Tryz.lays189_ren := by repeat' first | kernel_rfl | (intro w; kernel_rfl) | constructor
open Go.Sort Go.RowKit in
theorem Tryz.slices_Sort_int (blk off cap : Nat) (zs : List Int) (w : World) (hH : Holds (Value.int .i64) w blk off zs.toArray) (pk : blk < w.heap.size) (hsz : zs.length < 4611686018427387904) :
  Calls Tryz.prog 193 #[.slice (some ⟨blk,off,none⟩) zs.length cap] w fun e w' =>
   e = .returned (.tuple #[]) /\ ∃ n os,w' = grow (putRow (Value.int .i64) (Sort.ahead w n) blk off (zs.mergeSort fun x y => decide (x <= y)).toArray) os := Any.slices_Sort_int Tryz.lays189 blk off cap zs w hH pk hsz
open Go.RowKit Go.Sort in
theorem Tryz.slices_Sort_int_none (p : Option Addr) (cap : Nat) (w : World) :
  Calls Tryz.prog 193 #[.slice p 0 cap] w fun e w' => e = .returned (.tuple #[]) /\ w' = w := Any.slices_Sort_int_none Tryz.lays189 p cap w
end Go.Proofs
namespace Go.Proofs
open Go.Shelf
def Tryz.lays119_ren : Go.Shelf.Ren := ⟨fun | 119 => 295 | n => n,fun | 21 => 21 | 4 => 4 | n => n,fun | n => n⟩
theorem Tryz.lays119 : Go.Proofs.Lays.n119 Tryz.prog Tryz.lays119_ren := by repeat' first | kernel_rfl | (intro w; kernel_rfl) | constructor
theorem Tryz.utf8_ValidRune (r : Int) (w : World) :
  Calls Tryz.prog 295 #[.int .i32 r] w fun e w' => e = .returned (.bool (Lib.validRune r)) /\ w' = w := Any.utf8_ValidRune Tryz.lays119 r w
def Tryz.lays106_ren : Go.Shelf.Ren := ⟨fun | 106 => 263 | 213 => 280 | 265 => 287 | n => n,fun | 9 => 9 | 3 => 3 | n => n,fun | n => n⟩
theorem Tryz.lays106 : Go.Proofs.Lays.n106 Tryz.prog Tryz.lays106_ren := by repeat' first | kernel_rfl | (intro w; kernel_rfl) | constructor
open Go.RowKit in
theorem Tryz.strings_Compare (a b : ByteArray) (w : World) :
  Calls Tryz.prog 263 #[.string a,.string b] w fun e w' => e = .returned (.int .i64 (Lib.compareBytes a.data.toList b.data.toList)) /\ w' = w := Any.strings_Compare Tryz.lays106 a b w
def Tryz.laysGw17_ren : Go.Shelf.Ren := ⟨fun | 17 => 288 | 15 => 291 | 20 => 293 | n => n,fun | 9 => 9 | 23 => 386 | 4 => 4 | 3 => 3 | 0 => 0 | 21 => 21 | n => n,fun | n => n⟩
theorem Tryz.laysGw17 : Go.Proofs.LaysGw.n17 Tryz.prog Tryz.laysGw17_ren := by repeat' first | kernel_rfl | (intro w; kernel_rfl) | constructor
open Go.RowKit Go.Lib in
def Tryz.lays151_ren : Go.Shelf.Ren := ⟨fun | 151 => 290 | 152 => 292 | 137 => 294 | 119 => 295 | 224 => 296 | 225 => 297 | 217 => 298 | 266 => 299 | n => n,fun | 9 => 9 | 21 => 21 | 4 => 4 | 3 => 3 | 5 => 5 | 0 => 0 | 46 => 292 | n => n,fun | n => n⟩
theorem Tryz.lays151 : Go.Proofs.Lays.n151 Tryz.prog Tryz.lays151_ren := by repeat' first | kernel_rfl | (intro w; kernel_rfl) | constructor
open Go.RowKit Go.Lib in
theorem Tryz.strings_ContainsRune_ascii (s : ByteArray) (r : Int) (w : World) (h0 : 0 <= r) (h1 : r < 128) :
  Calls Tryz.prog 290 #[.string s,.int .i32 r] w fun e w' => e = .returned (.bool (decide (0 <= Lib.indexByte s.data.toList r.toNat.toUInt8))) /\ w' = w := Any.strings_ContainsRune_ascii Tryz.lays151 s r w h0 h1
end Go.Proofs
namespace Go.AM
open Go Go.Proofs
instance : Ld 3 1 false := {}
instance : Ok 3 := {}
instance : Ld 4 1 false := {}
instance : Ld 5 1 false := {}
instance : Ok 5 := {}
instance : Ld 9 1 false := {}
instance : Ok 9 := {}
instance : Ok 21 := {}
instance : Ld 22 1 false := {}
instance : Zi 22 [.nil (.slice none 0 0)] := {}
instance : Sl 22 := {}
instance : El 22 1 16 (some [.str []]) := {}
instance : Ld 23 1 false := {}
instance : Sl 23 := {}
instance : El 23 8 168 (some [.str [],.bool false,.nil (.slice none 0 0),.nil (.slice none 0 0),.nil (.slice none 0 0),.nil (.slice none 0 0),.nil (.slice none 0 0),.nil (.slice none 0 0)]) := {}
instance : Ld 25 3 true := {}
instance : Fd 25 0 0 1 false := {}
instance : Fd 25 1 1 1 false := {}
instance : Fd 25 2 2 1 false := {}
instance : Ld 26 1 false := {}
instance : Sl 26 := {}
instance : El 26 2 40 (some [.str [],.nil (.slice none 0 0)]) := {}
instance : Ld 28 2 true := {}
instance : Zi 28 [.str [],.nil (.slice none 0 0)] := {}
instance : Fd 28 0 0 1 false := {}
instance : Fd 28 1 1 1 false := {}
instance : Bd 28 [.str [],.nil (.slice none 0 0)] [(0,1),(1,1)] := {}
instance : Ld 32 1 false := {}
instance : Zi 32 [.nil (.slice none 0 0)] := {}
instance : Sl 32 := {}
instance : El 32 3 56 (some [.str [],.str [],.nil (.slice none 0 0)]) := {}
instance : Ld 33 1 false := {}
instance : Ok 33 := {}
instance : Zi 33 [.int .i64 (0)] := {}
instance : Ld 38 1 false := {}
instance : Zi 38 [.nil (.nilFunc)] := {}
instance : Ld 43 3 true := {}
instance : Zi 43 [.str [],.str [],.nil (.slice none 0 0)] := {}
instance : Fd 43 0 0 1 false := {}
instance : Fd 43 1 1 2 true := {}
instance : Bd 43 [.str [],.str [],.nil (.slice none 0 0)] [(0,1),(1,2)] := {}
instance : Sl 47 := {}
instance : El 47 3 56 (some [.str [],.str [],.nil (.slice none 0 0)]) := {}
instance : Ld 50 3 true := {}
instance : Zi 50 [.str [],.str [],.nil (.slice none 0 0)] := {}
instance : Fd 50 0 0 1 false := {}
instance : Fd 50 1 1 2 true := {}
instance : Ld 61 1 false := {}
instance : Zi 61 [.nil (.nilFunc)] := {}
instance : Ld 64 1 false := {}
instance : Ld 75 1 false := {}
instance : Sl 75 := {}
instance : El 75 3 48 (some [.str [],.bool false,.nil (.slice none 0 0)]) := {}
instance : Ld 76 1 false := {}
instance : Sl 76 := {}
instance : El 76 2 32 (some [.str [],.str []]) := {}
instance : Ld 78 8 true := {}
instance : Zi 78 [.str [],.bool false,.nil (.slice none 0 0),.nil (.slice none 0 0),.nil (.slice none 0 0),.nil (.slice none 0 0),.nil (.slice none 0 0),.nil (.slice none 0 0)] := {}
instance : Fd 78 0 0 1 false := {}
instance : Fd 78 1 1 1 false := {}
instance : Fd 78 2 2 1 false := {}
instance : Fd 78 3 3 1 false := {}
instance : Fd 78 4 4 1 false := {}
instance : Fd 78 5 5 1 false := {}
instance : Fd 78 6 6 1 false := {}
instance : Fd 78 7 7 1 false := {}
instance : Ld 80 3 true := {}
instance : Zi 80 [.str [],.bool false,.nil (.slice none 0 0)] := {}
instance : Fd 80 0 0 1 false := {}
instance : Fd 80 1 1 1 false := {}
instance : Fd 80 2 2 1 false := {}
instance : Ld 84 1 false := {}
instance : Zi 84 [.nil (.nilFunc)] := {}
instance : Ld 87 1 false := {}
instance : Sl 87 := {}
instance : El 87 4 64 (some [.str [],.str [],.nil (.slice none 0 0),.bool false]) := {}
instance : Ld 89 2 true := {}
instance : Zi 89 [.nil (.slice none 0 0),.nil (.slice none 0 0)] := {}
instance : Fd 89 0 0 1 false := {}
instance : Fd 89 1 1 1 false := {}
instance : Bd 89 [.nil (.slice none 0 0),.nil (.slice none 0 0)] [(0,1),(1,1)] := {}
instance : Ld 90 1 false := {}
instance : Ld 92 3 true := {}
instance : Zi 92 [.nil (.slice none 0 0),.nil (.slice none 0 0),.nil (.map none)] := {}
instance : Fd 92 0 0 2 true := {}
instance : Fd 92 1 2 1 false := {}
instance : Bd 92 [.nil (.slice none 0 0),.nil (.slice none 0 0),.nil (.map none)] [(0,2),(2,1)] := {}
instance : Ld 99 1 false := {}
instance : Zi 99 [.nil (.nilFunc)] := {}
instance : Ld 102 1 false := {}
instance : Zi 102 [.nil (.map none)] := {}
instance : Ld 107 1 false := {}
instance : Zi 107 [.nil (.nilFunc)] := {}
instance : Ld 108 2 true := {}
instance : Zi 108 [.int .i64 (0),.int .i64 (0)] := {}
instance : Ld 119 1 false := {}
instance : Ld 120 1 false := {}
instance : Ld 121 1 false := {}
instance : Sl 121 := {}
instance : El 121 2 40 (some [.str [],.nil (.slice none 0 0)]) := {}
instance : Ld 122 1 false := {}
instance : Zi 122 [.nil (.slice none 0 0)] := {}
instance : Sl 122 := {}
instance : El 122 1 8 (some [.int .i64 (0)]) := {}
instance : Ld 123 1 false := {}
instance : Sl 123 := {}
instance : El 123 2 16 (some [.int .i64 (0),.int .i64 (0)]) := {}
instance : Fd 125 0 0 1 false := {}
instance : Fd 125 1 1 1 false := {}
instance : Ld 127 9 true := {}
instance : Fd 127 1 3 1 false := {}
instance : Fd 127 2 4 1 false := {}
instance : Fd 127 3 5 1 false := {}
instance : Fd 127 4 6 2 true := {}
instance : Fd 127 5 8 1 false := {}
instance : Bd 127 [.nil (.slice none 0 0),.nil (.slice none 0 0),.nil (.map none),.nil (.slice none 0 0),.nil (.map none),.nil (.map none),.nil (.slice none 0 0),.nil (.slice none 0 0),.nil (.slice none 0 0)] [(0,3),(3,1),(4,1),(5,1),(6,2),(8,1)] := {}
instance : Sl 128 := {}
instance : El 128 2 16 (some [.int .i64 (0),.int .i64 (0)]) := {}
instance : Ld 136 2 true := {}
instance : Zi 136 [.int .i64 (0),.int .i64 (0)] := {}
instance : Fd 136 0 0 1 false := {}
instance : Fd 136 1 1 1 false := {}
instance : Bd 136 [.int .i64 (0),.int .i64 (0)] [(0,1),(1,1)] := {}
instance : Ld 139 2 true := {}
instance : Zi 139 [.str [],.nil (.slice none 0 0)] := {}
instance : Fd 139 0 0 1 false := {}
instance : Fd 139 1 1 1 false := {}
instance : Bd 139 [.str [],.nil (.slice none 0 0)] [(0,1),(1,1)] := {}
instance : Sl 140 := {}
instance : El 140 1 24 (some [.nil (.slice none 0 0)]) := {}
instance : Ld 179 1 false := {}
instance : Sl 179 := {}
instance : El 179 3 40 (some [.str [],.str [],.int .i64 (0)]) := {}
instance : Ld 181 4 true := {}
instance : Zi 181 [.str [],.str [],.nil (.slice none 0 0),.bool false] := {}
instance : Fd 181 0 0 1 false := {}
instance : Fd 181 1 1 1 false := {}
instance : Fd 181 2 2 1 false := {}
instance : Fd 181 3 3 1 false := {}
instance : Bd 181 [.str [],.str [],.nil (.slice none 0 0),.bool false] [(0,1),(1,1),(2,1),(3,1)] := {}
instance : Ld 187 3 true := {}
instance : Bd 187 [.str [],.int .i64 (0),.int .i64 (0)] [(0,1),(1,1),(2,1)] := {}
instance : Fd 194 0 0 1 false := {}
instance : Fd 194 1 1 1 false := {}
instance : Bd 194 [.int .i64 (0),.int .i64 (0)] [(0,1),(1,1)] := {}
instance : Sl 195 := {}
instance : El 195 2 16 (some [.int .i64 (0),.int .i64 (0)]) := {}
instance : Ld 235 1 false := {}
instance : Ld 236 3 true := {}
instance : Zi 236 [.str [],.str [],.int .i64 (0)] := {}
instance : Fd 236 0 0 1 false := {}
instance : Fd 236 1 1 1 false := {}
instance : Fd 236 2 2 1 false := {}
instance : Bd 236 [.str [],.str [],.int .i64 (0)] [(0,1),(1,1),(2,1)] := {}
instance : Sl 253 := {}
instance : El 253 1 1 (some [.int .u8 (0)]) := {}
instance : Ld 272 1 false := {}
instance : Ld 273 1 false := {}
instance : Ld 274 1 false := {}
instance : Ld 276 5 true := {}
instance : Fd 276 0 0 1 false := {}
instance : Fd 276 1 1 1 false := {}
instance : Fd 276 2 2 1 false := {}
instance : Fd 276 3 3 1 false := {}
instance : Fd 276 4 4 1 false := {}
instance : Bd 276 [.nil (.map none),.nil (.map none),.nil (.map none),.nil (.map none),.nil (.map none)] [(0,1),(1,1),(2,1),(3,1),(4,1)] := {}
instance : Ld 301 2 true := {}
instance : Zi 301 [.str [],.str []] := {}
instance : Fd 301 0 0 1 false := {}
instance : Fd 301 1 1 1 false := {}
instance : Ld 307 2 true := {}
instance : Zi 307 [.nil (.map none),.nil (.map none)] := {}
instance : Fd 307 0 0 1 false := {}
instance : Fd 307 1 1 1 false := {}
instance : Bd 307 [.nil (.map none),.nil (.map none)] [(0,1),(1,1)] := {}
instance : Sl 332 := {}
instance : El 332 1 24 (some [.nil (.slice none 0 0)]) := {}
instance : Ld 341 4 true := {}
instance : Zi 341 [.int .i64 (0),.str [],.nil (.slice none 0 0),.nil (.slice none 0 0)] := {}
instance : Fd 341 0 0 1 false := {}
instance : Fd 341 1 1 1 false := {}
instance : Fd 341 2 2 1 false := {}
instance : Fd 341 3 3 1 false := {}
instance : Bd 341 [.int .i64 (0),.str [],.nil (.slice none 0 0),.nil (.slice none 0 0)] [(0,1),(1,1),(2,1),(3,1)] := {}
instance : Sl 342 := {}
instance : El 342 4 72 (some [.int .i64 (0),.str [],.nil (.slice none 0 0),.nil (.slice none 0 0)]) := {}
instance : Ld 358 256 true := {}
instance : Zi 358 (List.replicate 256 (.int .u8 (0))) := {}
instance : Ld 377 4 true := {}
instance : Zi 377 [.str [],.bool false,.int .i64 (0),.int .i64 (0)] := {}
instance : Fd 377 0 0 1 false := {}
instance : Fd 377 1 1 1 false := {}
instance : Fd 377 2 2 1 false := {}
instance : Fd 377 3 3 1 false := {}
theorem st9 : Dy Ew.P 9 = true := Kr
theorem Amq : mpI Ew.P 90 = some (9,.agg [.str [],.str [],.nil (.slice none 0 0),.bool false],4,true) := Kr
theorem Aou : mpI Ew.P 102 = some (9,.agg [.int .i64 (0),.int .i64 (0)],2,true) := Kr
theorem Jt : arI Ew.P 108 = some (2,1,false) := Kr
theorem Agp : mpI Ew.P 119 = some (187,.int .i64 (0),1,false) := Kr
theorem Aov : mpI Ew.P 120 = some (3,.int .i64 (0),1,false) := Kr
theorem Z3 : mpI Ew.P 131 = some (3,.agg [.int .i64 (0),.int .i64 (0)],2,true) := Kr
theorem Ak0 : mpI Ew.P 192 = some (3,.bool false,1,false) := Kr
theorem O0 : mpI Ew.P 235 = some (9,.agg [.str [],.bool false,.nil (.slice none 0 0)],3,true) := Kr
theorem Aow : mpI Ew.P 247 = some (9,.int .i64 (0),1,false) := Kr
theorem Th : mpI Ew.P 248 = some (9,.bool false,1,false) := Kr
theorem Cg : mpI Ew.P 273 = some (9,.bool false,1,false) := Kr
theorem Ac0 : mpI Ew.P 274 = some (9,.str [],1,false) := Kr
theorem Ac1 : mpI Ew.P 278 = some (9,.nil (.map none),1,false) := Kr
theorem Asa : arI Ew.P 280 = some (2,1,false) := Kr
theorem ar358 : arI Ew.P 358 = some (256,1,false) := Kr
theorem Asb : arI Ew.P 378 = some (10,4,true) := Kr
theorem f96 (p : Fr -> Bool) (l : List Fr) (k : Nat) (cap : List AV) (U : Sto) (hb : l.length < 4611686018427387904) (hk : ∀ a ∈ l,Ao Ew k ([.agg (eF a)] ++ cap) U fun v U' => v = .bool (p a) /\ U' = U) :
  Cv 96 [slV eF 8 l,.fn (.func k) [] cap] U (iV (A2 p l 0)) := by
 refine An Tryz.func96 rfl rfl fun hw hu => ?_
 refine G12 ?_;refine Bq l.length (fun i => [(0,slV eF 8 l),(1,.fn (.func k) [] cap),(7,iV (.ofNat l.length)),(8,iV (.ofNat i))]) (fun i U' => U' = U /\ A2 p l 0 = A2 p (l.drop i) i) SL ⟨rfl,rfl⟩ ?_
 rintro i U' hi ⟨rfl,hf⟩;refine G5 ?_;refine Ab rfl ?_ ?_ <;> intro h
 ·have hlt : i < l.length := by simpa using h
  obtain ⟨a,ha⟩ : ∃ a,l[i]? = some a := ⟨_,an_ hlt⟩
  have hd : l.drop i = a :: l.drop (i + 1) := by
   obtain ⟨h1,rfl⟩ := aa_.1 ha;exact aw_ h1
  iterate 14 refine G ?_
  refine O1 (Ad ldC rfl rfl (Ba ((fun _ => rfl : ∀ a,(eF a).length = 8) a) _)) ?_
  refine Bw rfl rfl rfl rfl (hk a (ae_ ha)) ?_;rintro _ _ ⟨rfl,rfl⟩;refine G ?_;refine Ab rfl (fun h' => ?_) (fun h' => ?_)
  ·refine G6 ?_;refine ⟨_,rfl,iV (.ofNat i),_,ag_ hw nl (fun _ _ => rfl),nl,.same rfl,?_,rfl⟩
   rw [hf,hd]; simp only [A2,h',cond_true]
  ·refine G2 ?_;refine O1 (Dg (p := i) (q := 1) okC rfl rfl Om) ?_;refine G2 ?_;refine ⟨hlt,SL,rfl,?_⟩;rw [hf,hd]; simp only [A2,h',cond_false]
 ·have hge : l.length <= i := by simpa using h
  refine G6 ?_;refine ⟨_,rfl,iV (-1),_,ag_ hw nl (fun _ _ => rfl),nl,.same rfl,?_,rfl⟩
  rw [hf,ah_ hge]; rfl
theorem f41 (p : Fr -> Bool) (l : List Fr) (k : Nat) (cap : List AV) (U : Sto) (hb : l.length < 4611686018427387904) (hk : ∀ a ∈ l,Ao Ew k ([.agg (eF a)] ++ cap) U fun v U' => v = .bool (p a) /\ U' = U) :
  Cv 41 [slV eF 8 l,.fn (.func k) [] cap] U (.bool (l.any p)) := by
 refine An Tryz.func41 rfl rfl fun hw _ => ?_
 refine G8 ?_;refine Bw rfl rfl rfl rfl (f96 p l k cap U hb hk) ?_;rintro _ _ ⟨rfl,rfl⟩;refine G4 ?_;refine Bb hw rfl ?_;exact congrArg AV.bool (E1 l)
theorem f97 (p : Hp -> Bool) (l : List Hp) (k : Nat) (cap : List AV) (U : Sto) (hb : l.length < 4611686018427387904) (hk : ∀ a ∈ l,Ao Ew k ([.agg (eH a)] ++ cap) U fun v U' => v = .bool (p a) /\ U' = U) :
  Cv 97 [slV eH 3 l,.fn (.func k) [] cap] U (iV (A2 p l 0)) := by
 refine An Tryz.func97 rfl rfl fun hw hu => ?_
 refine G12 ?_;refine Bq l.length (fun i => [(0,slV eH 3 l),(1,.fn (.func k) [] cap),(7,iV (.ofNat l.length)),(8,iV (.ofNat i))]) (fun i U' => U' = U /\ A2 p l 0 = A2 p (l.drop i) i) SL ⟨rfl,rfl⟩ ?_
 rintro i U' hi ⟨rfl,hf⟩;refine G5 ?_;refine Ab rfl ?_ ?_ <;> intro h
 ·have hlt : i < l.length := by simpa using h
  obtain ⟨a,ha⟩ : ∃ a,l[i]? = some a := ⟨_,an_ hlt⟩
  have hd : l.drop i = a :: l.drop (i + 1) := by
   obtain ⟨h1,rfl⟩ := aa_.1 ha;exact aw_ h1
  iterate 14 refine G ?_
  refine O1 (Ad ldC rfl rfl (Ba ((fun _ => rfl : ∀ a,(eH a).length = 3) a) _)) ?_
  refine Bw rfl rfl rfl rfl (hk a (ae_ ha)) ?_;rintro _ _ ⟨rfl,rfl⟩;refine G ?_;refine Ab rfl (fun h' => ?_) (fun h' => ?_)
  ·refine G6 ?_;refine ⟨_,rfl,iV (.ofNat i),_,ag_ hw nl (fun _ _ => rfl),nl,.same rfl,?_,rfl⟩
   rw [hf,hd]; simp only [A2,h',cond_true]
  ·refine G2 ?_;refine O1 (Dg (p := i) (q := 1) okC rfl rfl Om) ?_;refine G2 ?_;refine ⟨hlt,SL,rfl,?_⟩;rw [hf,hd]; simp only [A2,h',cond_false]
 ·have hge : l.length <= i := by simpa using h
  refine G6 ?_;refine ⟨_,rfl,iV (-1),_,ag_ hw nl (fun _ _ => rfl),nl,.same rfl,?_,rfl⟩
  rw [hf,ah_ hge]; rfl
theorem f44 (p : Hp -> Bool) (l : List Hp) (k : Nat) (cap : List AV) (U : Sto) (hb : l.length < 4611686018427387904) (hk : ∀ a ∈ l,Ao Ew k ([.agg (eH a)] ++ cap) U fun v U' => v = .bool (p a) /\ U' = U) :
  Cv 44 [slV eH 3 l,.fn (.func k) [] cap] U (.bool (l.any p)) := by
 refine An Tryz.func44 rfl rfl fun hw _ => ?_
 refine G8 ?_;refine Bw rfl rfl rfl rfl (f97 p l k cap U hb hk) ?_;rintro _ _ ⟨rfl,rfl⟩;refine G4 ?_;refine Bb hw rfl ?_;exact congrArg AV.bool (E1 l)
theorem f79 (p : Str -> Bool) (l : List Str) (k : Nat) (cap : List AV) (U : Sto) (hb : l.length < 4611686018427387904) (hk : ∀ a ∈ l,Ao Ew k ([sV a] ++ cap) U fun v U' => v = .bool (p a) /\ U' = U) :
  Cv 79 [slV (fun s => [sV s]) 1 l,.fn (.func k) [] cap] U (iV (A2 p l 0)) := by
 refine An Tryz.func79 rfl rfl fun hw hu => ?_
 refine G12 ?_;refine Bq l.length (fun i => [(0,slV (fun s => [sV s]) 1 l),(1,.fn (.func k) [] cap),(7,iV (.ofNat l.length)),(8,iV (.ofNat i))]) (fun i U' => U' = U /\ A2 p l 0 = A2 p (l.drop i) i) SL ⟨rfl,rfl⟩ ?_
 rintro i U' hi ⟨rfl,hf⟩;refine G5 ?_;refine Ab rfl ?_ ?_ <;> intro h
 ·have hlt : i < l.length := by simpa using h
  obtain ⟨a,ha⟩ : ∃ a,l[i]? = some a := ⟨_,an_ hlt⟩
  have hd : l.drop i = a :: l.drop (i + 1) := by
   obtain ⟨h1,rfl⟩ := aa_.1 ha;exact aw_ h1
  iterate 15 refine G ?_
  refine Bw rfl rfl rfl rfl (hk a (ae_ ha)) ?_;rintro _ _ ⟨rfl,rfl⟩;refine G ?_;refine Ab rfl (fun h' => ?_) (fun h' => ?_)
  ·refine G6 ?_;refine ⟨_,rfl,iV (.ofNat i),_,ag_ hw nl (fun _ _ => rfl),nl,.same rfl,?_,rfl⟩
   rw [hf,hd]; simp only [A2,h',cond_true]
  ·refine G2 ?_;refine O1 (Dg (p := i) (q := 1) okC rfl rfl Om) ?_;refine G2 ?_;refine ⟨hlt,SL,rfl,?_⟩;rw [hf,hd]; simp only [A2,h',cond_false]
 ·have hge : l.length <= i := by simpa using h
  refine G6 ?_;refine ⟨_,rfl,iV (-1),_,ag_ hw nl (fun _ _ => rfl),nl,.same rfl,?_,rfl⟩
  rw [hf,ah_ hge]; rfl
theorem f31 (p : Str -> Bool) (l : List Str) (k : Nat) (cap : List AV) (U : Sto) (hb : l.length < 4611686018427387904) (hk : ∀ a ∈ l,Ao Ew k ([sV a] ++ cap) U fun v U' => v = .bool (p a) /\ U' = U) :
  Cv 31 [slV (fun s => [sV s]) 1 l,.fn (.func k) [] cap] U (.bool (l.any p)) := by
 refine An Tryz.func31 rfl rfl fun hw _ => ?_
 refine G8 ?_;refine Bw rfl rfl rfl rfl (f79 p l k cap U hb hk) ?_;rintro _ _ ⟨rfl,rfl⟩;refine G4 ?_;refine Bb hw rfl ?_;exact congrArg AV.bool (E1 l)
theorem f64 (p : Sb -> Bool) (l : List Sb) (k : Nat) (cap : List AV) (U : Sto) (hb : l.length < 4611686018427387904) (hk : ∀ a ∈ l,Ao Ew k ([.agg (eS a)] ++ cap) U fun v U' => v = .bool (p a) /\ U' = U) :
  Cv 64 [slV eS 3 l,.fn (.func k) [] cap] U (iV (A2 p l 0)) := by
 refine An Tryz.func64 rfl rfl fun hw hu => ?_
 refine G12 ?_;refine Bq l.length (fun i => [(0,slV eS 3 l),(1,.fn (.func k) [] cap),(7,iV (.ofNat l.length)),(8,iV (.ofNat i))]) (fun i U' => U' = U /\ A2 p l 0 = A2 p (l.drop i) i) SL ⟨rfl,rfl⟩ ?_
 rintro i U' hi ⟨rfl,hf⟩;refine G5 ?_;refine Ab rfl ?_ ?_ <;> intro h
 ·have hlt : i < l.length := by simpa using h
  obtain ⟨a,ha⟩ : ∃ a,l[i]? = some a := ⟨_,an_ hlt⟩
  have hd : l.drop i = a :: l.drop (i + 1) := by
   obtain ⟨h1,rfl⟩ := aa_.1 ha;exact aw_ h1
  iterate 13 refine G ?_
  refine O1 (Ax elC (eS_len) rfl rfl ha) (O1 (Ad ldC rfl rfl (Ba ((eS_len : ∀ a,(eS a).length = 3) a) _)) (Bw rfl rfl rfl rfl (hk a (ae_ ha)) ?_));rintro _ _ ⟨rfl,rfl⟩;refine G ?_;refine Ab rfl (fun h' => ?_) (fun h' => ?_)
  ·refine G6 ?_;refine ⟨_,rfl,iV (.ofNat i),_,ag_ hw nl (fun _ _ => rfl),nl,.same rfl,?_,rfl⟩
   rw [hf,hd]; simp only [A2,h',cond_true]
  ·refine G2 ?_;refine O1 (Dg (p := i) (q := 1) okC rfl rfl Om) ?_;refine G2 ?_;refine ⟨hlt,SL,rfl,?_⟩;rw [hf,hd]; simp only [A2,h',cond_false]
 ·have hge : l.length <= i := by simpa using h
  refine G6 ?_;refine ⟨_,rfl,iV (-1),_,ag_ hw nl (fun _ _ => rfl),nl,.same rfl,?_,rfl⟩
  rw [hf,ah_ hge]; rfl
theorem f76 (p : Ah -> Bool) (l : List Ah) (k : Nat) (cap : List AV) (U : Sto) (hb : l.length < 4611686018427387904) (hk : ∀ a ∈ l,Ao Ew k ([Ap a] ++ cap) U fun v U' => v = .bool (p a) /\ U' = U) :
  Cv 76 [slV eT 2 l,.fn (.func k) [] cap] U (iV (A2 p l 0)) := by
 refine An Tryz.func76 rfl rfl fun hw hu => ?_
 refine G12 ?_;refine Bq l.length (fun i => [(0,slV eT 2 l),(1,.fn (.func k) [] cap),(7,iV (.ofNat l.length)),(8,iV (.ofNat i))]) (fun i U' => U' = U /\ A2 p l 0 = A2 p (l.drop i) i) SL ⟨rfl,rfl⟩ ?_
 rintro i U' hi ⟨rfl,hf⟩;refine G5 ?_;refine Ab rfl ?_ ?_ <;> intro h
 ·have hlt : i < l.length := by simpa using h
  obtain ⟨a,ha⟩ : ∃ a,l[i]? = some a := ⟨_,an_ hlt⟩
  have hd : l.drop i = a :: l.drop (i + 1) := by
   obtain ⟨h1,rfl⟩ := aa_.1 ha;exact aw_ h1
  iterate 13 refine G ?_
  refine O1 (Ax elC (eT_len) rfl rfl ha) (O1 (Ad ldC rfl rfl (Ba ((eT_len : ∀ a,(eT a).length = 2) a) _)) (Bw rfl rfl rfl rfl (hk a (ae_ ha)) ?_));rintro _ _ ⟨rfl,rfl⟩;refine G ?_;refine Ab rfl (fun h' => ?_) (fun h' => ?_)
  ·refine G6 ?_;refine ⟨_,rfl,iV (.ofNat i),_,ag_ hw nl (fun _ _ => rfl),nl,.same rfl,?_,rfl⟩
   rw [hf,hd]; simp only [A2,h',cond_true]
  ·refine G2 ?_;refine O1 (Dg (p := i) (q := 1) okC rfl rfl Om) ?_;refine G2 ?_;refine ⟨hlt,SL,rfl,?_⟩;rw [hf,hd]; simp only [A2,h',cond_false]
 ·have hge : l.length <= i := by simpa using h
  refine G6 ?_;refine ⟨_,rfl,iV (-1),_,ag_ hw nl (fun _ _ => rfl),nl,.same rfl,?_,rfl⟩
  rw [hf,ah_ hge]; rfl
theorem f27 (p : Ah -> Bool) (l : List Ah) (k : Nat) (cap : List AV) (U : Sto) (hb : l.length < 4611686018427387904) (hk : ∀ a ∈ l,Ao Ew k ([Ap a] ++ cap) U fun v U' => v = .bool (p a) /\ U' = U) :
  Cv 27 [slV eT 2 l,.fn (.func k) [] cap] U (.bool (l.any p)) := by
 refine An Tryz.func27 rfl rfl fun hw _ => ?_
 refine G8 ?_;refine Bw rfl rfl rfl rfl (f76 p l k cap U hb hk) ?_;rintro _ _ ⟨rfl,rfl⟩;refine G4 ?_;refine Bb hw rfl ?_;exact congrArg AV.bool (E1 l)
theorem f188 (p : Rl -> Bool) (l : List Rl) (k : Nat) (cap : List AV) (U : Sto) (hb : l.length < 4611686018427387904) (hk : ∀ a ∈ l,Ao Ew k ([.agg (eR a)] ++ cap) U fun v U' => v = .bool (p a) /\ U' = U) :
  Cv 188 [slV eR 4 l,.fn (.func k) [] cap] U (iV (A2 p l 0)) := by
 refine An Tryz.func188 rfl rfl fun hw hu => ?_
 refine G12 ?_;refine Bq l.length (fun i => [(0,slV eR 4 l),(1,.fn (.func k) [] cap),(7,iV (.ofNat l.length)),(8,iV (.ofNat i))]) (fun i U' => U' = U /\ A2 p l 0 = A2 p (l.drop i) i) SL ⟨rfl,rfl⟩ ?_
 rintro i U' hi ⟨rfl,hf⟩;refine G5 ?_;refine Ab rfl ?_ ?_ <;> intro h
 ·have hlt : i < l.length := by simpa using h
  obtain ⟨a,ha⟩ : ∃ a,l[i]? = some a := ⟨_,an_ hlt⟩
  have hd : l.drop i = a :: l.drop (i + 1) := by
   obtain ⟨h1,rfl⟩ := aa_.1 ha;exact aw_ h1
  iterate 14 refine G ?_
  refine O1 (Ad ldC rfl rfl (Ba ((fun _ => rfl : ∀ a,(eR a).length = 4) a) _)) ?_
  refine Bw rfl rfl rfl rfl (hk a (ae_ ha)) ?_;rintro _ _ ⟨rfl,rfl⟩;refine G ?_;refine Ab rfl (fun h' => ?_) (fun h' => ?_)
  ·refine G6 ?_;refine ⟨_,rfl,iV (.ofNat i),_,ag_ hw nl (fun _ _ => rfl),nl,.same rfl,?_,rfl⟩
   rw [hf,hd]; simp only [A2,h',cond_true]
  ·refine G2 ?_;refine O1 (Dg (p := i) (q := 1) okC rfl rfl Om) ?_;refine G2 ?_;refine ⟨hlt,SL,rfl,?_⟩;rw [hf,hd]; simp only [A2,h',cond_false]
 ·have hge : l.length <= i := by simpa using h
  refine G6 ?_;refine ⟨_,rfl,iV (-1),_,ag_ hw nl (fun _ _ => rfl),nl,.same rfl,?_,rfl⟩
  rw [hf,ah_ hge]; rfl
theorem f155 (p : Rl -> Bool) (l : List Rl) (k : Nat) (cap : List AV) (U : Sto) (hb : l.length < 4611686018427387904) (hk : ∀ a ∈ l,Ao Ew k ([.agg (eR a)] ++ cap) U fun v U' => v = .bool (p a) /\ U' = U) :
  Cv 155 [slV eR 4 l,.fn (.func k) [] cap] U (.bool (l.any p)) := by
 refine An Tryz.func155 rfl rfl fun hw _ => ?_
 refine G8 ?_;refine Bw rfl rfl rfl rfl (f188 p l k cap U hb hk) ?_;rintro _ _ ⟨rfl,rfl⟩;refine G4 ?_;refine Bb hw rfl ?_;exact congrArg AV.bool (E1 l)
theorem f224 (p : Pt -> Bool) (l : List Pt) (k : Nat) (cap : List AV) (U : Sto) (hb : l.length < 4611686018427387904) (hk : ∀ a ∈ l,Ao Ew k ([.agg (ePt a)] ++ cap) U fun v U' => v = .bool (p a) /\ U' = U) :
  Cv 224 [slV ePt 3 l,.fn (.func k) [] cap] U (iV (A2 p l 0)) := by
 refine An Tryz.func224 rfl rfl fun hw hu => ?_
 refine G12 ?_;refine Bq l.length (fun i => [(0,slV ePt 3 l),(1,.fn (.func k) [] cap),(7,iV (.ofNat l.length)),(8,iV (.ofNat i))]) (fun i U' => U' = U /\ A2 p l 0 = A2 p (l.drop i) i) SL ⟨rfl,rfl⟩ ?_
 rintro i U' hi ⟨rfl,hf⟩;refine G5 ?_;refine Ab rfl ?_ ?_ <;> intro h
 ·have hlt : i < l.length := by simpa using h
  obtain ⟨a,ha⟩ : ∃ a,l[i]? = some a := ⟨_,an_ hlt⟩
  have hd : l.drop i = a :: l.drop (i + 1) := by
   obtain ⟨h1,rfl⟩ := aa_.1 ha;exact aw_ h1
  iterate 14 refine G ?_
  refine O1 (Ad ldC rfl rfl (Ba ((fun _ => rfl : ∀ a,(ePt a).length = 3) a) _)) ?_
  refine Bw rfl rfl rfl rfl (hk a (ae_ ha)) ?_;rintro _ _ ⟨rfl,rfl⟩;refine G ?_;refine Ab rfl (fun h' => ?_) (fun h' => ?_)
  ·refine G6 ?_;refine ⟨_,rfl,iV (.ofNat i),_,ag_ hw nl (fun _ _ => rfl),nl,.same rfl,?_,rfl⟩
   rw [hf,hd]; simp only [A2,h',cond_true]
  ·refine G2 ?_;refine O1 (Dg (p := i) (q := 1) okC rfl rfl Om) ?_;refine G2 ?_;refine ⟨hlt,SL,rfl,?_⟩;rw [hf,hd]; simp only [A2,h',cond_false]
 ·have hge : l.length <= i := by simpa using h
  refine G6 ?_;refine ⟨_,rfl,iV (-1),_,ag_ hw nl (fun _ _ => rfl),nl,.same rfl,?_,rfl⟩
  rw [hf,ah_ hge]; rfl
theorem f189 (p : Pt -> Bool) (l : List Pt) (k : Nat) (cap : List AV) (U : Sto) (hb : l.length < 4611686018427387904) (hk : ∀ a ∈ l,Ao Ew k ([.agg (ePt a)] ++ cap) U fun v U' => v = .bool (p a) /\ U' = U) :
  Cv 189 [slV ePt 3 l,.fn (.func k) [] cap] U (.bool (l.any p)) := by
 refine An Tryz.func189 rfl rfl fun hw _ => ?_
 refine G8 ?_;refine Bw rfl rfl rfl rfl (f224 p l k cap U hb hk) ?_;rintro _ _ ⟨rfl,rfl⟩;refine G4 ?_;refine Bb hw rfl ?_;exact congrArg AV.bool (E1 l)
theorem f281 (p : Pr -> Bool) (l : List Pr) (k : Nat) (cap : List AV) (U : Sto) (hb : l.length < 4611686018427387904) (hk : ∀ a ∈ l,Ao Ew k ([.agg (eP a)] ++ cap) U fun v U' => v = .bool (p a) /\ U' = U) :
  Cv 281 [slV eP 2 l,.fn (.func k) [] cap] U (iV (A2 p l 0)) := by
 refine An Tryz.func281 rfl rfl fun hw hu => ?_
 refine G12 ?_;refine Bq l.length (fun i => [(0,slV eP 2 l),(1,.fn (.func k) [] cap),(7,iV (.ofNat l.length)),(8,iV (.ofNat i))]) (fun i U' => U' = U /\ A2 p l 0 = A2 p (l.drop i) i) SL ⟨rfl,rfl⟩ ?_
 rintro i U' hi ⟨rfl,hf⟩;refine G5 ?_;refine Ab rfl ?_ ?_ <;> intro h
 ·have hlt : i < l.length := by simpa using h
  obtain ⟨a,ha⟩ : ∃ a,l[i]? = some a := ⟨_,an_ hlt⟩
  have hd : l.drop i = a :: l.drop (i + 1) := by
   obtain ⟨h1,rfl⟩ := aa_.1 ha;exact aw_ h1
  iterate 14 refine G ?_
  refine O1 (Ad ldC rfl rfl (Ba ((fun _ => rfl : ∀ a,(eP a).length = 2) a) _)) ?_
  refine Bw rfl rfl rfl rfl (hk a (ae_ ha)) ?_;rintro _ _ ⟨rfl,rfl⟩;refine G ?_;refine Ab rfl (fun h' => ?_) (fun h' => ?_)
  ·refine G6 ?_;refine ⟨_,rfl,iV (.ofNat i),_,ag_ hw nl (fun _ _ => rfl),nl,.same rfl,?_,rfl⟩
   rw [hf,hd]; simp only [A2,h',cond_true]
  ·refine G2 ?_;refine O1 (Dg (p := i) (q := 1) okC rfl rfl Om) ?_;refine G2 ?_;refine ⟨hlt,SL,rfl,?_⟩;rw [hf,hd]; simp only [A2,h',cond_false]
 ·have hge : l.length <= i := by simpa using h
  refine G6 ?_;refine ⟨_,rfl,iV (-1),_,ag_ hw nl (fun _ _ => rfl),nl,.same rfl,?_,rfl⟩
  rw [hf,ah_ hge]; rfl
end Go.AM
