/- A part of the proof; shortened by program. -/
import Derived.ChangeArms
import Derived.SizedLaws
import Derived.OpenShut
import Derived.Test.YtolkkkghemedjaaGreatDoorP11
set_option maxRecDepth 100000
set_option maxHeartbeats 4000000
set_option linter.unusedSimpArgs false
set_option linter.unusedVariables false
namespace Go.AM
open Go Go.Proofs
def C0 : Ctx := ⟨fun _ => none,fun _ => 0,fun _ => False,fun _ => none⟩
theorem Ae7 (b : Nat) : ¬ C0.own b := fun hb => hb.elim (fun h => h) fun ⟨a,o,h⟩ => by cases h
theorem sim0 (w : World) : Sim Tryz.prog C0 w ⟨.e,0⟩ :=
 ⟨fun a O hg => (by simp [Sto.get,Tr.get] at hg),fun a O hg => (by simp [Sto.get,Tr.get] at hg),fun a p hp => (by cases hp),fun a b c o o' ha => (by cases ha),fun a c o ha => (by cases ha),fun b hb => False.elim hb,fun a c o ha => (by cases ha)⟩
theorem Ajs {f : Nat} {args : List AV} {vs : Array Value} {w : World} (h : Ao Ew f args ⟨.e,0⟩ fun v U' => v = .bool true /\ U' = ⟨.e,0⟩) (hg : Gc C0 0 w Ew) (ha : RL C0 0 w args vs.toList) :
  Calls Tryz.prog f vs w fun e w' => e = .returned (.bool true) /\ w.heap.size <= w'.heap.size /\ (∀ b,b < w.heap.size -> w'.heap[b]? = w.heap[b]?) /\ w'.os = w.os /\ w'.output = w.output := by
 refine (h C0 w vs (sim0 w) hg ha).2.mono fun e w' he => ?_
 cases e with
 | returned x =>
  obtain ⟨v,U',C',⟨rfl,rfl⟩,k1,k2,k3⟩ := he;unfold R at k3;subst k3;exact ⟨rfl,k2.size,fun b hb => (k2.keep b hb (Ae7 b)).2,k2.os⟩
 | panicked _ => exact he.elim
 | outgrown => exact he.elim
section
variable {H : Type} {eh : TypeId × Value -> H} {w : World} {hd : Bool}
def RdN (eh : TypeId × Value -> H) (w : World) (hd : Bool) (n : Nat) (t : TypeId) (k : Nat) (Q : List AV -> Prop) : Prop :=
 ∀ (cs : List Value) (x : DataW H × List MemPlace),DataW.trod eh Tryz.prog w 0 (fun _ => true) hd n t cs = some x -> cs.length = k -> (∀ b ∈ x.1.weights Tryz.prog t,b <= reachBytes) -> ∃ avs,Q avs /\ RL C0 0 w avs cs /\ ∀ v ∈ cs,v.oneCell = true
def Fm {α : Type} (G : α -> Prop) (enc : α -> List AV) : List AV -> Prop := fun avs => ∃ a,G a /\ avs = enc a
def Ur (s : Str) : Prop := s.length <= 281474976710656
theorem O9 {n t : Nat} (ht : Tryz.prog.underlying t = some .string) : RdN eh w hd n t 1 (Fm Ur e1) := by
  intro cs x h hl hw;obtain ⟨s,rfl,rfl,_⟩ := DataW.trod_string ht h
  have := hw s.data.toList.length (by unfold DataW.weights; exact bu_ _)
  exact ⟨[sV s.data.toList],⟨_,by unfold Ur; have h2 : reachBytes <= 281474976710656 := (by decide); omega,rfl⟩,by unfold RL; exact ⟨by unfold sV R; exact ⟨s,rfl,rfl⟩,by unfold RL; trivial⟩,fun v hv => by rw [am_.1 hv]; rfl⟩
theorem Alj {n t : Nat} (ht : Tryz.prog.underlying t = some .bool) : RdN eh w hd n t 1 (Fm (fun _ => True) fun b : Bool => [.bool b]) := by
 intro cs x h hl hw;obtain ⟨b,rfl,rfl⟩ := DataW.trod_bool ht h
 exact ⟨[.bool b],⟨b,trivial,rfl⟩,by unfold RL; exact ⟨by unfold R; rfl,by unfold RL; trivial⟩,fun v hv => by rw [am_.1 hv]; rfl⟩
theorem Adl {α β : Type} {f : α -> Option β} : ∀ {is : List α} {l : List β},is.mapM f = some l -> l.length = is.length /\ ∀ (j : Nat) (i : α),is[j]? = some i -> ∃ a : β,f i = some a /\ l[j]? = some a
 | [],l,h => by simp at h; subst h; exact ⟨rfl,fun j i hj => by simp at hj⟩
 | i0 :: is,l,h => by
  simp only [gy_,Option.bind_eq_bind,fg_,Option.pure_def,ad_] at h;obtain ⟨a,h1,l',h2,rfl⟩ := h;obtain ⟨k1,k2⟩ := Adl h2
  refine ⟨by simp [k1],fun j i hj => ?_⟩
  cases j with
  | zero => simp at hj; subst hj; exact ⟨a,h1,by simp⟩
  | succ j => simp at hj; obtain ⟨b,q1,q2⟩ := k2 j i hj; exact ⟨b,q1,by simpa using q2⟩
theorem Us {a : Addr} {v : Value} (h : w.cell? a = some v) : a.spot = none /\ w.cell? ⟨a.block,a.off,none⟩ = some v := by
 have hs : a.spot = none := by
  cases hs : a.spot with
  | none => rfl
  | some s => unfold World.cell? at h; rw [hs] at h; split at h <;> simp at h
 obtain ⟨b,o,s⟩ := a;cases hs;exact ⟨rfl,h⟩
theorem Tu (a : Addr) (n : Nat) : (a.add n).off = a.off + n /\ (a.add n).block = a.block := by unfold Addr.add; split <;> simp_all
theorem Aao {a : Addr} {k : Nat} {cs : List Value} (h : w.cells? 0 a k = some cs) : cs.length = k /\ ∀ (r : Nat) (v : Value),cs[r]? = some v -> w.cell? (a.add r) = some v := by
 unfold World.cells? at h;rw [if_pos (bh_ _)] at h;obtain ⟨h1,h2⟩ := Adl h
 refine ⟨by simpa using h1,fun r v hv => ?_⟩
 have hr := (aa_.1 hv).1
 obtain ⟨b,q1,q2⟩ := h2 r r (by rw [List.getElem?_range (by rw [List.length_range] at h1; omega)])
 rw [hv] at q2; cases q2; exact q1
theorem Adm {α : Type} {P : Nat -> α -> Prop} : ∀ {n : Nat},(∀ i,i < n -> ∃ a,P i a) -> ∃ l : List α,l.length = n /\ ∀ (i : Nat) (a : α),l[i]? = some a -> P i a
 | 0,_ => ⟨[],rfl,fun i a h => by simp at h⟩
 | n + 1,h => by
  obtain ⟨l,h1,h2⟩ := Adm (n := n) fun i hi => h i Om
  obtain ⟨a,ha⟩ := h n Om
  refine ⟨l ++ [a],by simp [h1],fun i b hb => ?_⟩
  by_cases hi : i < n
  ·rw [bk_ Om] at hb; exact h2 i b hb
  ·have hlt := (aa_.1 hb).1
   simp at hlt
   have : i = n := by omega
   subst this;rw [ch_ Om] at hb
   simp [h1] at hb
   subst hb; exact ha
theorem Alk {α : Type} {enc : α -> List AV} {k c o : Nat} (he : ∀ a,(enc a).length = k) : ∀ (l : List α) (i0 : Nat),(∀ (i : Nat) (a : α),l[i]? = some a -> ∀ (r : Nat) (x : AV),(enc a)[r]? = some x -> ∃ v,w.cell? ⟨c,o + ((i0 + i) * k + r),none⟩ = some v /\ v.oneCell = true /\ R C0 0 w x v) -> RC C0 0 w c (l.flatMap enc) (o + i0 * k)
 | [],i0,_ => by unfold List.flatMap; simp; unfold RC; trivial
 | a :: l,i0,h => by
  rw [ca_]
  have h2 := Alk he l (i0 + 1) fun i b hb r x hx => by
   have := h (i + 1) b (by simpa using hb) r x hx
   rwa [show i0 + (i + 1) = i0 + 1 + i by omega] at this
  have key : ∀ (row : List AV) (r0 : Nat),r0 + row.length = k -> (∀ (r : Nat) (x : AV),row[r]? = some x -> ∃ v,w.cell? ⟨c,o + (i0 * k + (r0 + r)),none⟩ = some v /\ v.oneCell = true /\ R C0 0 w x v) -> RC C0 0 w c (row ++ l.flatMap enc) (o + (i0 * k + r0)) := by
   intro row
   induction row with
   | nil => intro r0 hr _; simp at hr; subst hr; rw [bg_,show o + (i0 * r0 + r0) = o + (i0 + 1) * r0 by rw [fv_]]; exact h2
   | cons x row ih =>
    intro r0 hr hx;rw [az_];unfold RC
    refine ⟨by have := hx 0 x (by simp); simpa using this,?_⟩
    have := ih (r0 + 1) (by simp at hr; omega) fun r y hy => by
     have := hx (r + 1) y (by simpa using hy)
     rwa [show r0 + (r + 1) = r0 + 1 + r by omega] at this
    rwa [show o + (i0 * k + (r0 + 1)) = o + (i0 * k + r0) + 1 by omega] at this
  have := key (enc a) 0 (by rw [he]; omega) fun r x hx => by
   have := h 0 a (by simp) r x hx
   simpa using this
  simpa using this
theorem Asg : ∀ {l : List AV} {vs : List Value},RL C0 0 w l vs -> ∀ (r : Nat) (x : AV),l[r]? = some x -> ∃ v,vs[r]? = some v /\ R C0 0 w x v
 | [],_,_,r,x,h => by simp at h
 | y :: l,[],h,_,_,_ => by unfold RL at h; exact h.elim
 | y :: l,v :: vs,h,r,x,hx => by
  unfold RL at h;cases r with
  | zero => simp at hx; subst hx; exact ⟨v,by simp,h.1⟩
  | succ r => simp at hx; obtain ⟨u,q1,q2⟩ := Asg h.2 r x hx; exact ⟨u,by simpa using q1,q2⟩
theorem Lb {α : Type} {enc : α -> List AV} {G : α -> Prop} {n t e k : Nat} (ht : Tryz.prog.underlying t = some (.slice e)) (hc : Tryz.prog.cellsOf e = k) (hk : 0 < k) (he : ∀ a,(enc a).length = k) (hE : ∀ m,m + 1 = n -> RdN eh w hd m e k (Fm G enc)) :
  RdN eh w hd n t 1 (Fm (fun l : List α => ∀ a ∈ l,G a) fun l => [slV enc k l]) := by
 intro cs x h hl hw
 rcases DataW.trod_slice ht h with ⟨rfl,rfl⟩ | ⟨a,len,cap,elems,rest,n0,hn,rfl,rfl,_,hlc,_,hel0,hel,hsp,_⟩
 ·exact ⟨[slV enc k []],⟨[],fun a h => (by cases h),rfl⟩,by unfold RL; exact ⟨by unfold slV R; exact ⟨none,0,rfl,nl,fun q hq => (by cases hq),by simp,fun _ => rfl,fun ad ha => (by cases ha)⟩,by unfold RL; trivial⟩,fun v hv => by rw [am_.1 hv]; rfl⟩
 ·rw [hc] at hel hsp
  have hws : ∀ y ∈ elems,∀ b ∈ y.1.weights Tryz.prog e,b <= reachBytes := fun y hy b hb => hw b (by
   unfold DataW.weights;rw [ht];refine ak_ _ (cd_ _ ?_)
   have key : ∀ {l : List (DataW H × List MemPlace)},y ∈ l -> b ∈ DataW.weightsAll Tryz.prog e (l.map (·.1)) := by
    intro l
    induction l with
    | nil => intro h; cases h
    | cons z l ih =>
     intro h
     show b ∈ z.1.weights Tryz.prog e ++ DataW.weightsAll Tryz.prog e (l.map (·.1))
     rcases aq_.1 h with rfl | h
     ·exact cd_ _ hb
     ·exact ee_ _ (ih h)
   exact key hy)
  obtain ⟨l,hll,hlp⟩ := Adm (n := len) (P := fun i a' => G a' /\ ∀ (r : Nat) (x : AV),(enc a')[r]? = some x -> ∃ v,w.cell? ((a.add (i * k)).add r) = some v /\ v.oneCell = true /\ R C0 0 w x v) fun i hi => by
   obtain ⟨y,hy⟩ : ∃ y,elems[i]? = some y := ⟨_,an_ Om⟩;have hb := hel i hi;rw [hy,fg_] at hb;obtain ⟨ci,hci,hti⟩ := hb;obtain ⟨c1,c2⟩ := Aao hci;obtain ⟨avs,⟨b,hGb,rfl⟩,h2,h3⟩ := hE n0 hn.symm ci y hti c1 (hws y (ae_ hy));refine ⟨b,hGb,fun r x hx => ?_⟩
   obtain ⟨v,q1,q2⟩ := Asg h2 r x hx;exact ⟨v,c2 r v q1,h3 v (ae_ q1),q2⟩
  refine ⟨[slV enc k l],⟨l,fun b hb => ?_,rfl⟩,?_,fun v hv => by rw [am_.1 hv]; rfl⟩
  ·obtain ⟨i,hi⟩ := List.getElem?_of_mem hb;exact (hlp i b hi).1
  ·unfold RL
   refine ⟨?_,by unfold RL; trivial⟩
   unfold slV R
   refine ⟨some a,cap,by rw [hll],by rw [hll]; exact hlc,fun q hq => (by cases hq),by rw [Dd he],fun hh => (by cases hh),fun ad ha => ?_⟩
   cases ha;refine ⟨fun h0 => ?_,fun _ hh => Ae7 _ hh,?_⟩
   ·by_cases bv : 0 < len
    ·obtain ⟨b,hb⟩ := A6 (l := l) (i := 0) Om
     have hne : 0 < (enc b).length := by rw [he]; exact hk
     obtain ⟨x,hx⟩ := A6 hne;obtain ⟨v,q1,_⟩ := (hlp 0 b hb).2 0 x hx;have := (Us q1).1
     simpa [Addr.add] using this
    ·have hr := (hsp rfl).2 0 Om
     obtain ⟨y,hy⟩ : ∃ y,rest[0]? = some y := ⟨_,an_ (by rw [(hsp rfl).1]; omega)⟩
     rw [hy,fg_] at hr;obtain ⟨ci,hci,_⟩ := hr;obtain ⟨c1,c2⟩ := Aao hci;obtain ⟨v,hv⟩ := A6 (l := ci) (i := 0) Om;have := (Us (c2 0 v hv)).1
     have hl0 : len = 0 := by omega
     subst hl0
     simpa [Addr.add] using this
   ·have := Alk (w := w) (c := a.block) (o := a.off) he l 0 fun i b hb r x hx => by
     obtain ⟨v,q1,q2,q3⟩ := (hlp i b hb).2 r x hx;have q4 := (Us q1).2;rw [(Tu _ r).1,(Tu _ r).2,(Tu a _).1,(Tu a _).2,gk_] at q4
     exact ⟨v,by rw [bq_]; exact q4,q2,q3⟩
    simpa using this
end
noncomputable def Iz (t : TypeId) : Option (List (TypeId × Nat × Nat)) := match Tryz.prog.underlying t with
 | some (.struct fs) => some (fs.toList.map fun f => (f.type,f.offset,Tryz.prog.cellsOf f.type))
 | _ => none
def Ho : Nat -> List (TypeId × Nat × Nat) -> Option Nat
 | o,[] => some o
 | o,(_,off,k) :: r => if off = o then Ho (o + k) r else none
def AllQ : List (List AV -> Prop) -> List AV -> Prop
 | [],avs => avs = []
 | Q :: r,avs => ∃ a b,Q a /\ AllQ r b /\ avs = a ++ b
section
variable {H : Type} {eh : TypeId × Value -> H} {w : World} {hd : Bool}
def RdL (eh : TypeId × Value -> H) (w : World) (hd : Bool) (m : Nat) : List (TypeId × Nat × Nat) -> List (List AV -> Prop) -> Prop
 | [],[] => True
 | (t,_,k) :: r,Q :: s => RdN eh w hd m t k Q /\ RdL eh w hd m r s
 | _,_ => False
theorem I0 {n t k : Nat} {fl : List (TypeId × Nat × Nat)} {Qs : List (List AV -> Prop)} (hf : Iz t = some fl) (hc : Ho 0 fl = some k) (hQ : ∀ m,m + 1 = n -> RdL eh w hd m fl Qs) : RdN eh w hd n t k (AllQ Qs) := by
 intro cs x h hl hw;unfold Iz at hf
 split at hf
 case h_2 => cases hf
 case h_1 fs ht =>
 cases hf;obtain ⟨xs,m,hm,rfl,_,hxl,hxf⟩ := DataW.trod_struct ht h;have hQ := hQ m hm.symm
 have each : ∀ (j : Nat) (f : TypeId × Nat × Nat),(fs.toList.map fun f => (f.type,f.offset,Tryz.prog.cellsOf f.type))[j]? = some f -> ∃ y,DataW.trod eh Tryz.prog w 0 (fun _ => true) hd m f.1 ((cs.drop f.2.1).take f.2.2) = some y /\ ∀ b ∈ y.1.weights Tryz.prog f.1,b <= reachBytes := by
  intro j f hj;rw [bp_,do_] at hj;obtain ⟨g,hg,rfl⟩ := hj;have hj2 := (aa_.1 hg).1
  obtain ⟨y,hy⟩ : ∃ y,xs[j]? = some y := ⟨_,an_ (by rw [hxl]; simpa using hj2)⟩
  have h1 := hxf j g (by simpa using hg)
  rw [hy] at h1
  dsimp only
  refine ⟨y,?_,fun b hb => hw b ?_⟩
  ·exact h1
  unfold DataW.weights;rw [ht]
  exact DataW.weights_mem_each (P := Tryz.prog) (j := j) (t := g.type) (d := y.1) (by rw [bp_,hg,dw_]) (by rw [bp_,hy,dw_]) b hb
 have key : ∀ (fl : List (TypeId × Nat × Nat)) (Qs : List (List AV -> Prop)) (o : Nat),(∀ (j : Nat) (f : TypeId × Nat × Nat),fl[j]? = some f -> ∃ y,DataW.trod eh Tryz.prog w 0 (fun _ => true) hd m f.1 ((cs.drop f.2.1).take f.2.2) = some y /\ ∀ b ∈ y.1.weights Tryz.prog f.1,b <= reachBytes) ->
   Ho o fl = some cs.length -> RdL eh w hd m fl Qs -> ∃ avs,AllQ Qs avs /\ RL C0 0 w avs (cs.drop o) /\ ∀ v ∈ cs.drop o,v.oneCell = true := by
  intro fl
  induction fl with
  | nil =>
   intro Qs o _ hch hr;simp only [Ho,ad_] at hch;subst hch;cases Qs with
   | nil => exact ⟨[],rfl,by rw [eq_]; unfold RL; trivial,by rw [eq_]; intro v hv; cases hv⟩
   | cons _ _ => exact hr.elim
  | cons f fl ih =>
   intro Qs o he hch hr;obtain ⟨t0,off,k0⟩ := f;cases Qs with
   | nil => exact hr.elim
   | cons Q Qs =>
    unfold Ho at hch
    split at hch
    case isFalse => cases hch
    case isTrue ho =>
    subst ho
    have eo : ∀ (fl : List (TypeId × Nat × Nat)) (o e : Nat),Ho o fl = some e -> o <= e := by
     intro fl
     induction fl with
     | nil => intro o e h; simp only [Ho,ad_] at h; omega
     | cons f fl ih =>
      intro o e h;obtain ⟨_,off,k⟩ := f;unfold Ho at h
      split at h
      ·have := ih _ _ h; omega
      ·cases h
    have hle := eo _ _ _ hch;obtain ⟨y,hy,hyw⟩ := he 0 _ rfl
    obtain ⟨a,ha,hra,hoa⟩ := hr.1 _ y hy (by show ((cs.drop off).take k0).length = k0; rw [bn_,cu_]; omega) hyw
    obtain ⟨b,hb,hrb,hob⟩ := ih Qs (off + k0) (fun j f hj => he (j + 1) f (by simpa using hj)) hch hr.2
    have e0 : cs.drop off = (cs.drop off).take k0 ++ cs.drop (off + k0) := by rw [← dh_,c_]
    refine ⟨a ++ b,⟨a,b,ha,hb,rfl⟩,?_,?_⟩
    ·rw [e0]; exact hra.append hrb
    ·rw [e0];intro v hv
     rcases b_.1 hv with hv | hv
     ·exact hoa v hv
     ·exact hob v hv
 have := key _ Qs 0 each (by rw [hc,hl]) hQ
 simpa using this
theorem RdN.mono {n t k : Nat} {Q Q' : List AV -> Prop} (h : RdN eh w hd n t k Q) (hq : ∀ avs,Q avs -> Q' avs) : RdN eh w hd n t k Q' := fun cs x h1 h2 h3 => by
 obtain ⟨avs,q1,q2,q3⟩ := h cs x h1 h2 h3;exact ⟨avs,hq _ q1,q2,q3⟩
end
section
variable {H : Type} {eh : TypeId × Value -> H} {w : World} {hd : Bool}
theorem ut4 : Tryz.prog.underlying 4 = some .bool := Kr
theorem ut9 : Tryz.prog.underlying 9 = some .string := Kr
theorem ut22 : Tryz.prog.underlying 22 = some (.slice 9) := Kr
theorem ut23 : Tryz.prog.underlying 23 = some (.slice 78) := Kr
theorem ut26 : Tryz.prog.underlying 26 = some (.slice 28) := Kr
theorem ut75 : Tryz.prog.underlying 75 = some (.slice 80) := Kr
theorem ut76 : Tryz.prog.underlying 76 = some (.slice 301) := Kr
theorem ct9 : Tryz.prog.cellsOf 9 = 1 := Kr
theorem ct28 : Tryz.prog.cellsOf 28 = 2 := Kr
theorem ct78 : Tryz.prog.cellsOf 78 = 8 := Kr
theorem ct80 : Tryz.prog.cellsOf 80 = 3 := Kr
theorem ctP : Tryz.prog.cellsOf 301 = 2 := Kr
theorem fl25 : Iz 25 = some [(22,0,1),(22,1,1),(23,2,1)] := Kr
theorem fl28 : Iz 28 = some [(9,0,1),(26,1,1)] := Kr
theorem fl80 : Iz 80 = some [(9,0,1),(4,1,1),(22,2,1)] := Kr
theorem flP : Iz 301 = some [(9,0,1),(9,1,1)] := Kr
theorem fl78 : Iz 78 = some [(9,0,1),(4,1,1),(75,2,1),(76,3,1),(22,4,1),(75,5,1),(76,6,1),(22,7,1)] := Kr
def Nt {α : Type} (_ : α) : Prop := True
theorem Tv {n : Nat} : RdN eh w hd n 22 1 (Fm (Nt (α := List Str)) fun l => [Aq l]) :=
 (Lb ut22 ct9 Om (fun _ => rfl) fun m _ => O9 ut9).mono fun avs ⟨l,_,h⟩ => ⟨l,trivial,h⟩
theorem Arl {n : Nat} : RdN eh w hd n 301 2 (Fm Nt eP) :=
 (I0 (Qs := [Fm Ur e1,Fm Ur e1]) flP rfl fun m _ => ⟨O9 ut9,O9 ut9,trivial⟩).mono fun avs h => by
  obtain ⟨_,_,⟨a,_,rfl⟩,⟨_,_,⟨b,_,rfl⟩,rfl,rfl⟩,rfl⟩ := h;exact ⟨⟨a,b⟩,trivial,rfl⟩
theorem Ahk {n : Nat} : RdN eh w hd n 76 1 (Fm (Nt (α := List Pr)) fun l => [slV eP 2 l]) :=
 (Lb ut76 ctP Om (fun _ => rfl) fun m _ => Arl).mono fun avs ⟨l,_,h⟩ => ⟨l,trivial,h⟩
theorem Atp {n : Nat} : RdN eh w hd n 80 3 (Fm Nt eH) :=
 (I0 (Qs := [Fm Ur e1,Fm (fun _ => True) fun b : Bool => [.bool b],Fm (Nt (α := List Str)) fun l => [Aq l]]) fl80 rfl fun m _ => ⟨O9 ut9,Alj ut4,Tv,trivial⟩).mono fun avs h => by
  obtain ⟨_,_,⟨a,_,rfl⟩,⟨_,_,⟨b,_,rfl⟩,⟨_,_,⟨c,_,rfl⟩,rfl,rfl⟩,rfl⟩,rfl⟩ := h;exact ⟨⟨a,b,c⟩,trivial,rfl⟩
theorem All {n : Nat} : RdN eh w hd n 75 1 (Fm (Nt (α := List Hp)) fun l => [slV eH 3 l]) :=
 (Lb ut75 ct80 Om (fun _ => rfl) fun m _ => Atp).mono fun avs ⟨l,_,h⟩ => ⟨l,trivial,h⟩
theorem Apu {n : Nat} : RdN eh w hd n 78 8 (Fm Nt eF) :=
 (I0 (Qs := [Fm Ur e1,Fm (fun _ => True) fun b : Bool => [.bool b],Fm (Nt (α := List Hp)) fun l => [slV eH 3 l],Fm (Nt (α := List Pr)) fun l => [slV eP 2 l],Fm (Nt (α := List Str)) fun l => [Aq l],
  Fm (Nt (α := List Hp)) fun l => [slV eH 3 l],Fm (Nt (α := List Pr)) fun l => [slV eP 2 l],Fm (Nt (α := List Str)) fun l => [Aq l]]) fl78 rfl fun m _ => ⟨O9 ut9,Alj ut4,All,Ahk,Tv,All,Ahk,Tv,trivial⟩).mono fun avs h => by
  obtain ⟨_,_,⟨a,_,rfl⟩,⟨_,_,⟨b,_,rfl⟩,⟨_,_,⟨c,_,rfl⟩,⟨_,_,⟨d,_,rfl⟩,⟨_,_,⟨e,_,rfl⟩,⟨_,_,⟨f,_,rfl⟩,⟨_,_,⟨g,_,rfl⟩,⟨_,_,⟨i,_,rfl⟩,rfl,rfl⟩,rfl⟩,rfl⟩,rfl⟩,rfl⟩,rfl⟩,rfl⟩,rfl⟩ := h;exact ⟨⟨a,b,c,d,e,f,g,i⟩,trivial,rfl⟩
theorem Anc {n : Nat} : RdN eh w hd n 23 1 (Fm (Nt (α := List Fr)) fun l => [slV eF 8 l]) :=
 (Lb ut23 ct78 Om (fun _ => rfl) fun m _ => Apu).mono fun avs ⟨l,_,h⟩ => ⟨l,trivial,h⟩
theorem rd_db {n : Nat} : RdN eh w hd n 25 3 (Fm (Nt (α := Db)) fun d => [Aq d.consts,Aq d.vars,slV eF 8 d.frames]) :=
 (I0 (Qs := [Fm (Nt (α := List Str)) fun l => [Aq l],Fm (Nt (α := List Str)) fun l => [Aq l],Fm (Nt (α := List Fr)) fun l => [slV eF 8 l]]) fl25 rfl fun m _ => ⟨Tv,Tv,Anc,trivial⟩).mono fun avs h => by
  obtain ⟨_,_,⟨a,_,rfl⟩,⟨_,_,⟨b,_,rfl⟩,⟨_,_,⟨c,_,rfl⟩,rfl,rfl⟩,rfl⟩,rfl⟩ := h;exact ⟨⟨a,b,c⟩,trivial,rfl⟩
theorem Ff.mk {l : Str} {ks : List Ah} (h : Ur l) (hk : ∀ k ∈ ks,Ff k) : Ff (.node l ks) := by
 intro s hs;unfold Ahg at hs
 rcases aq_.1 hs with rfl | hs
 ·exact h
 ·have key : ∀ {ks : List Ah},(∀ k ∈ ks,Ff k) -> s ∈ Aah ks -> s.length <= 281474976710656 := by
   intro ks
   induction ks with
   | nil => intro _ hs; unfold Aah at hs; cases hs
   | cons k r ih =>
    intro hk hs;unfold Aah at hs
    rcases b_.1 hs with hs | hs
    ·exact hk k (ar_ ..) s hs
    ·exact ih (fun x hx => hk x (ak_ _ hx)) hs
  exact key hk hs
theorem X4 : ∀ (n : Nat),RdN eh w hd n 28 2 (Fm Ff eT)
 | 0 => fun cs x h => by simp [DataW.trod] at h
 | 1 => (I0 (Qs := [Fm Ur e1,Fm (fun l : List Ah => ∀ a ∈ l,Ff a) fun l => [slV eT 2 l]]) fl28 rfl fun m hm => ⟨O9 ut9,Lb ut26 ct28 Om eT_len fun m' hm' => by omega,trivial⟩).mono fun avs h => by
  obtain ⟨_,_,⟨a,ha,rfl⟩,⟨_,_,⟨b,hb,rfl⟩,rfl,rfl⟩,rfl⟩ := h;exact ⟨.node a b,Ff.mk ha hb,(Cc a b).symm⟩
 | n + 2 => (I0 (Qs := [Fm Ur e1,Fm (fun l : List Ah => ∀ a ∈ l,Ff a) fun l => [slV eT 2 l]]) fl28 rfl fun m hm => ⟨O9 ut9,Lb ut26 ct28 Om eT_len fun m' hm' => by
   have : m' = n := by omega
   subst this
   exact X4 m',trivial⟩).mono fun avs h => by
  obtain ⟨_,_,⟨a,ha,rfl⟩,⟨_,_,⟨b,hb,rfl⟩,rfl,rfl⟩,rfl⟩ := h;exact ⟨.node a b,Ff.mk ha hb,(Cc a b).symm⟩
end
section
mutual
def Ae8 {H : Type} : DataW H -> List AV
 | .lit (.string s) => [sV s]
 | .lit (.bool b) => [.bool b]
 | .lit (.int k n) => [.int k n]
 | .agg ps => Aap ps
 | _ => [.any]
def Aap {H : Type} : List (DataW H) -> List AV
 | [] => []
 | d :: r => Ae8 d ++ Aap r
end
section
variable {H : Type} {eh : TypeId × Value -> H} {w : World} {hd : Bool}
def RdX (eh : TypeId × Value -> H) (w : World) (hd : Bool) (n : Nat) (t : TypeId) (k : Nat) : Prop :=
 ∀ (cs : List Value) (x : DataW H × List MemPlace),DataW.trod eh Tryz.prog w 0 (fun _ => true) hd n t cs = some x -> cs.length = k -> RL C0 0 w (Ae8 x.1) cs /\ ∀ v ∈ cs,v.oneCell = true
theorem Arm {n t : Nat} (ht : Tryz.prog.underlying t = some .string) : RdX eh w hd n t 1 := by
 intro cs x h hl;obtain ⟨s,rfl,rfl,_⟩ := DataW.trod_string ht h
 exact ⟨by rw [Ae8]; unfold RL; exact ⟨by unfold sV R; exact ⟨s,rfl,rfl⟩,by unfold RL; trivial⟩,fun v hv => by rw [am_.1 hv]; rfl⟩
theorem Apv {n t : Nat} (ht : Tryz.prog.underlying t = some .bool) : RdX eh w hd n t 1 := by
 intro cs x h hl;obtain ⟨b,rfl,rfl⟩ := DataW.trod_bool ht h
 exact ⟨by rw [Ae8]; unfold RL; exact ⟨by unfold R; rfl,by unfold RL; trivial⟩,fun v hv => by rw [am_.1 hv]; rfl⟩
theorem Alm {n t : Nat} {k : IntKind} (ht : Tryz.prog.underlying t = some (.int k)) : RdX eh w hd n t 1 := by
 intro cs x h hl;obtain ⟨i,rfl,rfl,_⟩ := DataW.trod_int ht h
 exact ⟨by rw [Ae8]; unfold RL; exact ⟨by unfold R; rfl,by unfold RL; trivial⟩,fun v hv => by rw [am_.1 hv]; rfl⟩
theorem Aaq {m : Nat} {cs : List Value} : ∀ (fl : List (TypeId × Nat × Nat)) (xs : List (DataW H × List MemPlace)) (o : Nat),xs.length = fl.length ->
  (∀ (j : Nat) (f : TypeId × Nat × Nat),fl[j]? = some f -> RdX eh w hd m f.1 f.2.2 /\ DataW.trod eh Tryz.prog w 0 (fun _ => true) hd m f.1 ((cs.drop f.2.1).take f.2.2) = xs[j]?) -> Ho o fl = some cs.length -> RL C0 0 w (Aap (xs.map (·.1))) (cs.drop o) /\ ∀ v ∈ cs.drop o,v.oneCell = true
 | [],xs,o,hxl,_,hch => by
  simp only [Ho,ad_] at hch;subst hch;rw [dm_.1 hxl]
  exact ⟨by rw [eq_]; show RL C0 0 w (Aap []) []; rw [Aap]; unfold RL; trivial,by rw [eq_]; intro v hv; cases hv⟩
 | (t0,off,k0) :: fl,[],o,hxl,_,_ => by simp at hxl
 | (t0,off,k0) :: fl,y :: xs,o,hxl,he,hch => by
  unfold Ho at hch
  split at hch
  case isFalse => cases hch
  case isTrue ho =>
  subst ho
  have eo : ∀ (fl : List (TypeId × Nat × Nat)) (o e : Nat),Ho o fl = some e -> o <= e := by
   intro fl
   induction fl with
   | nil => intro o e h; simp only [Ho,ad_] at h; omega
   | cons f fl ih =>
    intro o e h;obtain ⟨_,off,k⟩ := f;unfold Ho at h
    split at h
    ·have := ih _ _ h; omega
    ·cases h
  have hle := eo _ _ _ hch;obtain ⟨h1,h2⟩ := he 0 _ rfl
  obtain ⟨hra,hoa⟩ := h1 _ y h2 (by show ((cs.drop off).take k0).length = k0; rw [bn_,cu_]; omega)
  obtain ⟨hrb,hob⟩ := Aaq fl xs (off + k0) (by simpa using hxl) (fun j f hj => by have := he (j + 1) f (by simpa using hj); simpa using this) hch
  have e0 : cs.drop off = (cs.drop off).take k0 ++ cs.drop (off + k0) := by rw [← dh_,c_]
  refine ⟨?_,?_⟩
  ·rw [e0]
   show RL C0 0 w (Aap (y.1 :: xs.map (·.1))) _
   rw [Aap];exact hra.append hrb
  ·rw [e0];intro v hv
   rcases b_.1 hv with hv | hv
   ·exact hoa v hv
   ·exact hob v hv
theorem Ajt {n t k : Nat} {fl : List (TypeId × Nat × Nat)} (hf : Iz t = some fl) (hc : Ho 0 fl = some k) (hQ : ∀ m,m + 1 = n -> ∀ (j : Nat) (f : TypeId × Nat × Nat),fl[j]? = some f -> RdX eh w hd m f.1 f.2.2) : RdX eh w hd n t k := by
 intro cs x h hl;unfold Iz at hf
 split at hf
 case h_2 => cases hf
 case h_1 fs ht =>
 cases hf;obtain ⟨xs,m,hm,rfl,_,hxl,hxf⟩ := DataW.trod_struct ht h
 have := Aaq (cs := cs) (eh := eh) (w := w) (hd := hd) (m := m) _ xs 0 (by rw [hxl,bs_]; simp) (fun j f hj => ⟨hQ m hm.symm j f hj,by
  rw [bp_,do_] at hj;obtain ⟨g,hg,rfl⟩ := hj
  dsimp only
  have h1 := hxf j g (by simpa using hg)
  exact h1⟩) (by rw [hc,hl])
 rw [du_] at this;refine ⟨?_,this.2⟩;rw [Ae8]; exact this.1
end
end
end Go.AM
