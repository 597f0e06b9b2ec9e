/- A part of the proof; shortened by program. -/
import Derived.ProofKit
import Derived.Carry
import Derived.Test.YtcnkdbldfpaebaaGreatDoorP29
set_option maxRecDepth 100000
set_option maxHeartbeats 4000000
set_option linter.unusedSimpArgs false
set_option linter.unusedVariables false
namespace Go.AM
open Go Go.Proofs Go.Proofs.YtcnkdbldfpaebaaGreatDoor Go.ChangeShapes Go.WideShapes Go.ChangeAt Go.WideMaps Go.WideElems Go.RowKit
section
variable {H : Type} {eh : TypeId × Value -> H} {w : World}
set_option maxRecDepth 1000000 in
theorem Vb {t k base : Nat} {fl : List (TypeId × Nat × Nat)} {v : Value} (hf : Hk t = some fl) (hk : Tryz.prog.cellsOf t = k) (hv : Value.okWide Tryz.prog w .any base t v) : ∃ cs : Array Value,v = .agg cs /\ cs.toList.length = k := by
 unfold Hk at hf
 split at hf
 ·rename_i fs ht
  unfold Value.okWide at hv;rw [ht] at hv;obtain ⟨cs,h1,h2,_⟩ := hv
  exact ⟨cs,h1,by rw [← hk,← h2]; simp⟩
 ·cases hf
theorem ct25 : Tryz.prog.cellsOf 25 = 3 := Kr
theorem ct29 : Tryz.prog.cellsOf 29 = 3 := Kr
set_option maxRecDepth 1000000 in
theorem Aj9 {t e base : Nat} {v : Value} (ht : Tryz.prog.underlying t = some (.slice e)) (hv : Value.okWide Tryz.prog w .any base t v) : v.cells = #[v] := by
 obtain ⟨a,l,c,rfl⟩ := okWide_slice (P := Tryz.prog) (e := e) ht hv
 rfl
set_option maxRecDepth 1000000 in
theorem Aq9 {t base : Nat} {v : Value} (ht : Tryz.prog.underlying t = some .string) (hv : Value.okWide Tryz.prog w .any base t v) : v.cells = #[v] := by
 obtain ⟨s,rfl⟩ := okWide_string (P := Tryz.prog) ht hv
 rfl
set_option maxRecDepth 1000000 in
theorem Ara {base : Nat} {v0 v1 v2 v3 v4 v5 : Value} {d0 d1 d2 d3 d4 d5 : DataW H} {p0 p1 p2 p3 p4 p5 : List MemPlace} {ts : List TypeId} {gs : List (DataW H)} (hv0 : Value.okWide Tryz.prog w .any base 25 v0) (hv1 : Value.okWide Tryz.prog w .any base 29 v1) (hv2 : Value.okWide Tryz.prog w .any base 32 v2) (hv3 : Value.okWide Tryz.prog w .any base 32 v3)
  (hv4 : Value.okWide Tryz.prog w .any base 9 v4) (hv5 : Value.okWide Tryz.prog w .any base 33 v5)
  (h0 : DataW.Trod eh Tryz.prog w 0 (fun _ => true) true 25 v0 d0 p0) (h1 : DataW.Trod eh Tryz.prog w 0 (fun _ => true) true 29 v1 d1 p1) (h2 : DataW.Trod eh Tryz.prog w 0 (fun _ => true) true 32 v2 d2 p2) (h3 : DataW.Trod eh Tryz.prog w 0 (fun _ => true) true 32 v3 d3 p3)
  (h4 : DataW.Trod eh Tryz.prog w 0 (fun _ => true) true 9 v4 d4 p4) (h5 : DataW.Trod eh Tryz.prog w 0 (fun _ => true) true 33 v5 d5 p5)
  (hw : (DataW.weightsEach Tryz.prog ([25,29,32,32,9,33] ++ ts) ([d0,d1,d2,d3,d4,d5] ++ gs)).all (· <= reachBytes) = true) : ∃ (d : Db) (m : Md) (t b : Au) (x : Str) (l : List Vl),RL C0 0 w [dbV d,mdV m,Bg t,Bg b,sV x,slV eVl 2 l] [v0,v1,v2,v3,v4,v5] := by
 have hw' : ∀ (j : Nat) (t : TypeId) (d : DataW H),([25,29,32,32,9,33] ++ ts)[j]? = some t -> ([d0,d1,d2,d3,d4,d5] ++ gs)[j]? = some d -> ∀ b ∈ d.weights Tryz.prog t,b <= reachBytes := fun j t d ht hd b hb => by
  have := bu_.1 hw b (DataW.weights_mem_each ht hd b hb)
  simpa using this
 obtain ⟨c0,rfl,l0⟩ := Vb fl25 ct25 hv0;obtain ⟨c1,rfl,l1⟩ := Vb fl29 ct29 hv1;obtain ⟨c2,rfl,l2⟩ := Vb fl32 ct32 hv2;obtain ⟨c3,rfl,l3⟩ := Vb fl32 ct32 hv3;have e4 := Aq9 ut9 hv4;have e5 := Aj9 ut33 hv5;obtain ⟨n0,h0⟩ := h0;obtain ⟨n1,h1⟩ := h1;obtain ⟨n2,h2⟩ := h2;obtain ⟨n3,h3⟩ := h3;obtain ⟨n4,h4⟩ := h4;obtain ⟨n5,h5⟩ := h5;rw [e4] at h4;rw [e5] at h5;obtain ⟨_,⟨d,_,rfl⟩,r0,o0⟩ := rd_db c0.toList _ h0 l0 (hw' 0 25 d0 rfl rfl);obtain ⟨_,⟨m,_,rfl⟩,r1,o1⟩ := rd_md c1.toList _ h1 l1 (hw' 1 29 d1 rfl rfl);obtain ⟨_,⟨t,_,rfl⟩,r2,o2⟩ := Afb n2 c2.toList _ h2 l2 (hw' 2 32 d2 rfl rfl);obtain ⟨_,⟨b,_,rfl⟩,r3,o3⟩ := Afb n3 c3.toList _ h3 l3 (hw' 3 32 d3 rfl rfl);obtain ⟨_,⟨x,_,rfl⟩,r4,o4⟩ := L1 ut9 [v4] _ h4 rfl (hw' 4 9 d4 rfl rfl);obtain ⟨_,⟨l,_,rfl⟩,r5,o5⟩ := As1 [v5] _ h5 rfl (hw' 5 33 d5 rfl rfl);refine ⟨d,m,t,b,x,l,?_⟩;unfold RL
 refine ⟨by unfold dbV R; exact ⟨c0,rfl,r0,o0⟩,?_⟩
 unfold RL
 refine ⟨by unfold mdV R; exact ⟨c1,rfl,r1,o1⟩,?_⟩
 unfold RL
 refine ⟨by unfold Bg R; exact ⟨c2,rfl,r2,o2⟩,?_⟩
 unfold RL
 refine ⟨by unfold Bg R; exact ⟨c3,rfl,r3,o3⟩,?_⟩
 have r4' := r4;unfold e1 RL at r4';unfold RL;exact ⟨r4'.1,r5⟩
end
section
open Go Go.Proofs
def fzL (f : AV -> AV -> Bool) : List AV -> List AV -> Bool
 | [],[] => true
 | x :: r,y :: s => f x y && fzL f r s
 | _,_ => false
def wkS (f : AV -> AV -> Bool) (a b : AV) : Bool := match a,b with
 | .sv l sz len _,.sv l' sz' len' none => Nat.beq sz sz' && Nat.beq len len' && fzL f l l'
 | .agg l,.agg l' => fzL f l l'
 | .nil (.slice none 0 0),.sv [] _ 0 none => true
 | a,b => AV.beq a b
def wkA : Nat -> AV -> AV -> Bool
 | 0,_,_ => false
 | n + 1,a,b => wkS (wkA n) a b
section
variable {C : Ctx} {N : Nat} {w : World} {f : AV -> AV -> Bool}
theorem RL.wk (hf : ∀ a b x,f a b = true -> R C N w a x -> R C N w b x) : ∀ (l m : List AV) (xs : List Value),fzL f l m = true -> RL C N w l xs -> RL C N w m xs
 | [],[],xs,_,h => h
 | x :: r,y :: s,[],_,h => by unfold RL at h; exact h.elim
 | x :: r,y :: s,v :: vs,hz,h => by
  simp only [fzL,ad_] at hz;unfold RL at h ⊢;exact ⟨hf x y v hz.1 h.1,RL.wk hf r s vs hz.2 h.2⟩
 | [],_ :: _,_,h,_ => by cases h
 | _ :: _,[],_,h,_ => by cases h
theorem RC.wk (hf : ∀ a b x,f a b = true -> R C N w a x -> R C N w b x) {c : Nat} : ∀ (l m : List AV) (o : Nat),fzL f l m = true -> RC C N w c l o -> RC C N w c m o /\ l.length = m.length
 | [],[],_,_,h => ⟨h,rfl⟩
 | x :: r,y :: s,o,hz,h => by
  simp only [fzL,ad_] at hz;unfold RC at h ⊢;obtain ⟨⟨v,h1,h2,h3⟩,h4⟩ := h;obtain ⟨k1,k2⟩ := RC.wk hf r s (o + 1) hz.2 h4
  exact ⟨⟨⟨v,h1,h2,hf x y v hz.1 h3⟩,k1⟩,by simp [k2]⟩
 | [],_ :: _,_,h,_ => by cases h
 | _ :: _,[],_,h,_ => by cases h
theorem Amd : ∀ (l m : List AV),fzL f l m = true -> l.length = m.length
 | [],[],_ => rfl
 | _ :: r,_ :: s,h => by simp only [fzL,ad_] at h; simp [Amd r s h.2]
 | [],_ :: _,h => by cases h
 | _ :: _,[],h => by cases h
theorem R.wk : ∀ (n : Nat) (a b : AV) (x : Value),wkA n a b = true -> R C N w a x -> R C N w b x
 | 0,_,_,_,h,_ => by unfold wkA at h; cases h
 | n + 1,a,b,x,h,hr => by
  rw [wkA] at h;unfold wkS at h
  split at h
  ·simp only [ad_] at h;obtain ⟨⟨h1,h2⟩,h3⟩ := h;have h1 := aa_ h1;have h2 := aa_ h2;subst h1 h2;have hl := Amd _ _ h3;unfold R at hr ⊢;obtain ⟨ado,k,q1,q2,q3,q4,q5,q6⟩ := hr
   refine ⟨ado,k,q1,q2,fun q hq => (by cases hq),by rw [← hl]; exact q4,q5,fun ad ha => ?_⟩
   obtain ⟨p1,p2,p3⟩ := q6 ad ha;refine ⟨p1,fun hne => p2 fun he => hne ?_,(RC.wk (fun a b x => R.wk n a b x) _ _ _ h3 p3).1⟩
   rw [he] at hl;exact dj_.1 hl.symm
  ·unfold R at hr ⊢;obtain ⟨q,q1,q2,q3⟩ := hr;exact ⟨q,q1,RL.wk (fun a b x => R.wk n a b x) _ _ _ h q2,q3⟩
  ·unfold R at hr ⊢
   exact ⟨none,0,hr.1,nl,fun q hq => (by cases hq),by simp,fun _ => rfl,fun ad ha => (by cases ha)⟩
  ·have := AV.beq_eq _ _ h;subst this; exact hr
end
theorem Ck.of_wk {f : Nat} {args' : List AV} {u : AV} (hc : ∀ τ,A6 Ew f args' τ (fun v τ' => v = u /\ τ' = τ)) :
  Ck Ew f (fun args J => match fzL (wkA 12) args args' with | true => some (u,J) | false => none) := fun C w J args vs v J' hs hg ha h => by
 dsimp only at h
 split at h
 ·rename_i hz
  cases h;obtain ⟨h1,h2⟩ := hc J C w vs hs hg (RL.wk (fun a b x => R.wk 12 a b x) _ _ _ hz ha)
  refine ⟨h1,h2.mono fun e w' he => ?_⟩
  cases e with
  | returned x => obtain ⟨v,τ',C',⟨rfl,rfl⟩,k1,k2,k3⟩ := he; exact ⟨C',k1,k2,k3⟩
  | panicked _ => exact he.elim
  | outgrown => exact he.elim
 ·cases h
def dA : Db := ⟨[[119,102,102],[124,45],[40],[41],[45,62],[45,46]],[[112,104],[112,115],[99,104]],[⟨[119,105],false,[⟨[119,112,104],true,[[119,102,102],[112,104]]⟩,⟨[119,112,115],true,[[119,102,102],[112,115]]⟩],[],[[119,102,102],[40],[112,104],[45,62],[112,115],[41]],[⟨[119,99,104],true,[[119,102,102],[99,104]]⟩],[],[]⟩,
 ⟨[119,110],false,[⟨[119,112,104],true,[[119,102,102],[112,104]]⟩],[],[[119,102,102],[45,46],[112,104]],[⟨[119,112,115],true,[[119,102,102],[112,115]]⟩,⟨[119,99,104],true,[[119,102,102],[99,104]]⟩],[],[]⟩,
 ⟨[97,120,45,49],false,[⟨[119,112,104],true,[[119,102,102],[112,104]]⟩,⟨[119,112,115],true,[[119,102,102],[112,115]]⟩],[],[[124,45],[40],[112,104],[45,62],[40],[112,115],[45,62],[112,104],[41],[41]],[⟨[119,99,104],true,[[119,102,102],[99,104]]⟩],[],[]⟩]⟩
def rsA : List Rl := [⟨[119,112,104],[119,102,102],[⟨[112,104],[],0⟩],true⟩,⟨[119,112,115],[119,102,102],[⟨[112,115],[],0⟩],true⟩,⟨[119,99,104],[119,102,102],[⟨[99,104],[],0⟩],true⟩,
 ⟨[119,105],[119,102,102],[⟨[40],[],0⟩,⟨[],[119,102,102],0⟩,⟨[45,62],[],0⟩,⟨[],[119,102,102],1⟩,⟨[41],[],0⟩],false⟩,⟨[119,110],[119,102,102],[⟨[45,46],[],0⟩,⟨[],[119,102,102],0⟩],false⟩]
def gA : Gr := ⟨[[119,102,102]],rsA⟩
theorem Arb {l : List Int} (h : l.Pairwise fun x y => decide (x <= y) = true) : Ef l = l := List.mergeSort_of_pairwise h
theorem vA : ∀ r ∈ rsA,Gx gA r = true := by
 intro r hr
 have hp : (Dv r).Pairwise fun x y => decide (x <= y) = true := by revert r; decide +kernel
 unfold Gx;rw [Arb hp];clear hp
 revert r
 decide +kernel
theorem Ah8 {g : Gr} : ∀ {l : List Rl} {m : SM Bool},(∀ r ∈ l,Gx g r = true) -> (l.foldr (fun r (k : SM Bool -> Bool) m => !m.has r.label && k (m.put r.label true)) (fun _ => true)) m = true -> O0 g l m = false
 | [],_,_,_ => rfl
 | r :: l,m,h,h2 => by
  simp only [List.foldr_cons,ad_,bt_] at h2;unfold O0
  rw [h r (by simp),h2.1,Ah8 (fun x hx => h x (ak_ _ hx)) h2.2]; rfl
theorem chkA : Gy gA = 0 := by
 unfold Gy
 rw [if_neg (by decide +kernel),if_neg (by decide +kernel),show O0 gA gA.rules [] = false from Ah8 vA (by decide +kernel)]; rfl
theorem As4 : Dt dA = 0 := Kr
theorem varsA : O2 (Hx (B2 dA) []) dA.vars zG = some ⟨[[119,102,102]],rsA.take 3⟩ := Kr
theorem As5 : Gt dA.frames ⟨[[119,102,102]],rsA.take 3⟩ = some gA := Kr
theorem ofA : ofF dA = (gA,0) := by
 unfold ofF
 rw [if_neg (by rw [As4]; decide),varsA]
 simp only;rw [As5];simp only
 rw [if_neg (by rw [chkA]; decide)]
theorem Au1 : Aap dA 15 60 = true := Kr
theorem grbA : GrB gA := ⟨by decide,by decide,by decide⟩
theorem dbA : DbB dA /\ dA.vars.length + dA.frames.length < 1000000 := Ahz Au1
def s47 (args : List AV) (J : Sto) : Res := match fzL (wkA 12) args [dbV dA] with | true => some (.tup [grV gA,iV 0],J) | false => none
theorem f47s : Ck Ew 47 s47 := Ck.of_wk fun τ => by have := f47 dA τ dbA.1 dbA.2; rw [ofA] at this; exact this
def s71 (args : List AV) (J : Sto) : Res := match fzL (wkA 12) args [grV gA] with | true => some (iV 0,J) | false => none
theorem f71s : Ck Ew 71 s71 := Ck.of_wk fun τ => by have := f71 gA τ grbA; rw [chkA] at this; exact this
def Anz (f : Nat) : Option (List AV -> Sto -> Res) := match Nat.beq f 47 with
 | true => some s47
 | false => match Nat.beq f 71 with
  | true => some s71
  | false => none
def rgA (f : Nat) : Bool := Nat.beq f 45 || Nat.beq f 63 || Nat.beq f 89 || Nat.beq f 103 || Nat.beq f 130
noncomputable def EB : Env := { P := Tryz.prog,gl := glW,sum := Anz,dsum := fun _ => none,byref := fun _ => false,rg := rgA }
theorem N0 {E : Env} (hP : E.P = Tryz.prog) (hg : E.gl = glW) (hh : E.hold = fun _ => none) (hl : E.loops = []) (f : Nat) (s : List AV -> Sto -> Res) (h : Anz f = some s) : Ck E f s := by
 unfold Anz at h
 split at h
 ·rename_i hb
  cases h;have := aa_ hb;subst this;exact f47s.env hP.symm hg.symm hh.symm hl.symm
 ·split at h
  ·rename_i hb
   cases h;have := aa_ hb;subst this;exact f71s.env hP.symm hg.symm hh.symm hl.symm
  ·cases h
theorem recB (lf n : Nat) : Bc EB (H5 EB lf n) :=
 Jf (E := EB) (show Tryz.prog.follows .mixedOrders = true from A1) (fun l Rr h => Kl A1 h) (fun f fn h => Tx f fn h) (fun f s h => N0 rfl rfl rfl rfl f s h) rfl (fun f d h => by cases h) lf n
end
end Go.AM
