/- A part of the proof; shortened by program. -/
import Derived.Test.YtolkkkghemedjaaGreatDoorP09
set_option maxRecDepth 100000
set_option maxHeartbeats 4000000
set_option linter.unusedSimpArgs false
set_option linter.unusedVariables false
namespace Go.AM
open Go Go.Proofs
def d57 (args : List AV) (U : Sto) : Option Sto := match args with | [_] => some U | _ => none
theorem Am9 {E : Env} (hP : E.P = Tryz.prog) : Aea E 57 d57 := by
 intro C w U args vs U' hs hg bj h;unfold d57 at h
 split at h
 ·cases h;have bv := bj.length
  have hsz : vs.size = 1 := by simpa using bv.symm
  have hf : E.P.funcs[57]? = some Tryz.f57 := by rw [hP]; exact Tryz.func57
  refine ⟨⟨_,hf,by kernel_rfl,by kernel_rfl⟩,?_⟩
  refine callsD_of_wpS hf Ai4 fun c₀ cs hu => ?_
  refine wpS_seq ?_;rw [Acw];refine wpS_region ?_;have ew : List.range (#[Qa] : Array Oper).size = [0] := rfl
  have hw : Region.wanted Qa (yielded #[Qa] (vs ++ Array.replicate (Tryz.f57.ntmps - vs.size) undef)) = true := by
   unfold Region.wanted; rw [Z2]
  have hx : (execOp ({ tmps := vs ++ Array.replicate (Tryz.f57.ntmps - vs.size) undef,defers := [] } : Act).eval Qa).run E.P w = .ok .recover w := by
   unfold execOp;rw [Akz]
   simp [resolve,go_sem,invoke,builtin]
  have hrd : recoverD (c₀ :: cs) = none := by simp [recoverD,hu]
  rw [ew];simp only [wpOpsS];have h0 : (#[Qa] : Array Oper)[0]? = some Qa := rfl;simp only [h0,hw,if_true,hx,hrd];rw [Agl];have hn : Tryz.f57.ntmps = 19 := Kr;have dm : Tryz.f57.results = #[] := Kr
  have st : SSt { Ew with P := E.P,gl := fun _ => none,hold := fun _ => none } C w ⟨Ai2,19,[],U⟩ (({ tmps := vs ++ Array.replicate (Tryz.f57.ntmps - vs.size) undef,defers := [] } : Act).put (some 6) .nilIface) := by
   refine ⟨hs,⟨fun g cs hg => (by cases hg),fun c P hh => (by cases hh)⟩,fun i v hv => ?_,?_,?_⟩
   ·simp only [Ai2,de_] at hv
    split at hv
    ·rename_i hi
     cases hv; subst hi;simp only [Act.put]
     have : ((vs ++ Array.replicate (Tryz.f57.ntmps - vs.size) undef).setIfInBounds 6 Value.nilIface).getD 6 undef = .nilIface := by
      rw [bd_,Array.getElem?_setIfInBounds_self]
      simp [hsz,hn]
     rw [this];unfold R; exact ⟨rfl,rfl⟩
    ·simp [Tr.get] at hv
   ·simp [Act.put,hsz,hn]
   ·simp only [Act.put]; unfold DR; trivial
  have gc := Oa (H9 { Ew with P := E.P,gl := fun _ => none,hold := fun _ => none }) (Po (by show E.P.follows _ = _; rw [hP]; exact E8) L0 (H9 _)) 1 Ui C w _ _ _ st (by rw [hP]; exact As7 U)
  refine wpS_of_wp (wp_mono gc fun e a' w' hq => ?_)
  obtain ⟨y,hy,C',hye,hst,bh⟩ := hq;rw [am_] at hy;subst hy;subst hye
  have hds : a'.defers = [] := by
   have hd := hst.dfs;cases hds : a'.defers with
   | nil => rfl
   | cons d ds => rw [hds] at hd; unfold DR at hd; exact hd.elim
  obtain ⟨x,k1,k2⟩ := C6 (fn := Tryz.f57) hst.sim hst.tmps (vs := []) (by rw [dm]; rfl)
  exact ⟨hds,.returning,by rw [← hu],x,k1,rfl,C',hst.sim,bh⟩
 ·cases h
def Ana (f : Nat) : Option (List AV -> Sto -> Option Sto) := match Nat.beq f 57 with | true => some d57 | false => none
theorem Ajq {E : Env} (hP : E.P = Tryz.prog) (hd : E.dsum = Ana) (f : Nat) (d : List AV -> Sto -> Option Sto) (h : E.dsum f = some d) : Aea E f d := by
 rw [hd] at h;unfold Ana at h
 split at h
 ·rename_i hb
  cases h;have := ac_ hb;subst this;exact Am9 hP
 ·cases h
theorem Anb : Ana Fo = none := Kr
theorem Aal {E : Env} (hP : E.P = Tryz.prog) (hd : E.dsum = Ana) (ff : ∀ f s,E.sum f = some s -> Ev E f s) (lf n : Nat) : Be E (Jq E lf n) :=
 Ob (fun Rr h => Po (by rw [hP]; exact E8) Rr h) (fun f fn h => Oh f fn (by rw [← hP]; exact h)) ff (by rw [hd]; exact Anb) (Ajq hP hd) lf n
def fzL (f : AV -> AV -> Bool) : List AV -> List AV -> Bool
 | [],[] => true
 | x :: r,y :: s => f x y && fzL f r s
 | _,_ => false
def fzB (U : Sto) : Nat -> AV -> AV -> Bool
 | 0,_,_ => false
 | n + 1,.sr a off sz len _,.sv l sz' len' none => Nat.beq sz sz' && Nat.beq len len' && (match U.get a with | some (.cells vs) => (match C7 (len * sz) (vs.drop off) with | some cs => fzL (fzB U n) cs l | none => false) | _ => false)
 | n + 1,.sv l sz len _,.sv l' sz' len' none => Nat.beq sz sz' && Nat.beq len len' && fzL (fzB U n) l l'
 | n + 1,.agg l,.agg l' => fzL (fzB U n) l l'
 | _ + 1,a,b => AV.beq a b && AV.und (nx U) b
theorem Aam {U τ : Sto} {f : AV -> AV -> Bool} (hf : ∀ a b,f a b = true -> Fz U τ a b) : ∀ (l m : List AV),fzL f l m = true -> FzL U τ l m
 | [],[],_ => .nil
 | x :: r,y :: s,h => by
  simp only [fzL,af_] at h;exact .cons (hf x y h.1) (Aam hf r s h.2)
 | [],_ :: _,h => by cases h
 | _ :: _,[],h => by cases h
theorem Ae6 (U : Sto) : ∀ (n : Nat) (a b : AV),fzB U n a b = true -> Fz U ⟨.e,nx U⟩ a b
 | 0,_,_,h => by unfold fzB at h; cases h
 | n + 1,a,b,h => by
  unfold fzB at h
  split at h
  ·cases h
  ·simp only [af_] at h;obtain ⟨⟨h1,h2⟩,h3⟩ := h;have h1 := ac_ h1;have h2 := ac_ h2;subst h1 h2
   split at h3
   ·rename_i vs hg
    split at h3
    ·rename_i cs ht
     exact .sr hg rfl ht (Aam (fun a b => Ae6 U _ a b) _ _ h3)
    ·cases h3
   ·cases h3
  ·simp only [af_] at h;obtain ⟨⟨h1,h2⟩,h3⟩ := h;have h1 := ac_ h1;have h2 := ac_ h2;subst h1 h2
   exact .sv (fun q hq => by cases hq) (Aam (fun a b => Ae6 U _ a b) _ _ h3)
  ·exact .agg (Aam (fun a b => Ae6 U _ a b) _ _ h)
  ·simp only [af_] at h;have := AV.beq_eq _ _ h.1;subst this;exact .same h.2
def rsA : List Rl := [⟨[119,112,104],[119,102,102],[⟨[112,104],[],0⟩],true⟩,⟨[119,112,115],[119,102,102],[⟨[112,115],[],0⟩],true⟩,⟨[119,99,104],[119,102,102],[⟨[99,104],[],0⟩],true⟩,
 ⟨[119,105],[119,102,102],[⟨[40],[],0⟩,⟨[],[119,102,102],0⟩,⟨[45,62],[],0⟩,⟨[],[119,102,102],1⟩,⟨[41],[],0⟩],false⟩,⟨[119,110],[119,102,102],[⟨[45,46],[],0⟩,⟨[],[119,102,102],0⟩],false⟩]
def gA : Gr := ⟨[[119,102,102]],rsA⟩
theorem Apt {l : List Int} (h : l.Pairwise fun x y => decide (x <= y) = true) : Dm l = l := List.mergeSort_of_pairwise h
theorem vA : ∀ r ∈ rsA,Gv gA r = true /\ r.parts.length < 1000000 := by
 intro r hr
 have hp : (D7 r).Pairwise fun x y => decide (x <= y) = true := by revert r; decide +kernel
 unfold Gv;rw [Apt hp];clear hp
 revert r
 decide +kernel
def s157 (args : List AV) (U : Sto) : Res := match rsA.any fun r => fzL (fzB U 8) args [.agg (eR r),grV gA] with | true => some (.bool true,U) | false => none
theorem f157s : Ev Ew 157 s157 := fun C w U args vs v U' hs hg ha h => by
 unfold s157 at h
 split at h
 ·rename_i hb
  cases h;obtain ⟨r,hr,hz⟩ := fo_.1 hb;have hv := vA r hr
  have hc := f157 r gA ⟨.e,nx U⟩ hv.2 (by decide)
  rw [hv.1] at hc
  obtain ⟨h1,h2⟩ := Ao.view (u := .bool true) (fun C C' N N' w x h => by unfold R at h ⊢; exact h) (Aam (fun a b => Ae6 U 8 a b) _ _ hz) hc C w vs hs hg ha
  refine ⟨h1,h2.mono fun e w' he => ?_⟩
  cases e with
  | returned x => obtain ⟨u,τ,C',⟨rfl,rfl⟩,k1,k2,k3⟩ := he; exact ⟨C',k1,k2,k3⟩
  | panicked _ => exact he.elim
  | outgrown => exact he.elim
 ·cases h
def sumB (f : Nat) : Option (List AV -> Sto -> Res) := match Nat.beq f 261 with
 | true => some (Akf [] (.agg Ix))
 | false => match Nat.beq f 157 with
  | true => some s157
  | false => none
noncomputable def EB : Env := { P := Tryz.prog,gl := glW,sum := sumB,dsum := Ana,byref := fun t => Nat.beq t 194,hold := Zc }
theorem Aan {E : Env} (hP : E.P = Tryz.prog) (hg : E.gl = glW) (hh : E.hold = Zc) (f : Nat) (s : List AV -> Sto -> Res) (h : sumB f = some s) : Ev E f s := by
 unfold sumB at h
 split at h
 ·rename_i hb
  cases h;have := ac_ hb;subst this;exact s261.env hP.symm hg.symm hh.symm
 ·split at h
  ·rename_i hb
   cases h;have := ac_ hb;subst this;exact f157s.env hP.symm hg.symm hh.symm
  ·cases h
theorem recB (lf n : Nat) : Be EB (Jq EB lf n) := Aal rfl rfl (Aan rfl rfl rfl) lf n
def dbA : AV := (.agg [(.sv [(.str [119,102,102]),(.str [124,45]),(.str [40]),(.str [41]),(.str [45,62]),(.str [45,46])] 1 6 (some 6)),(.sv [(.str [112,104]),(.str [112,115]),(.str [99,104])] 1 3 
 (some 3)),(.sv [(.str [119,105]),(.bool false),(.sv [(.str [119,112,104]),(.bool true),(.sv [(.str [119,102,102]),(.str [112,104])] 1 2 (some 2)),(.str [119,112,115]),(.bool true),
 (.sv [(.str [119,102,102]),(.str [112,115])] 1 2 (some 2))] 3 2 (some 2)),(.nil (.slice none 0 0)),(.sv [(.str [119,102,102]),(.str [40]),(.str [112,104]),(.str [45,62]),(.str [112,
 115]),(.str [41])] 1 6 (some 6)),(.sv [(.str [119,99,104]),(.bool true),(.sv [(.str [119,102,102]),(.str [99,104])] 1 2 (some 2))] 3 1 (some 1)),(.nil (.slice none 0 0)),(.nil (.slice none 
 0 0)),(.str [119,110]),(.bool false),(.sv [(.str [119,112,104]),(.bool true),(.sv [(.str [119,102,102]),(.str [112,104])] 1 2 (some 2))] 3 1 (some 1)),(.nil (.slice none 0 0)),(.sv 
 [(.str [119,102,102]),(.str [45,46]),(.str [112,104])] 1 3 (some 3)),(.sv [(.str [119,112,115]),(.bool true),(.sv [(.str [119,102,102]),(.str [112,115])] 1 2 (some 2)),(.str [119,99,
 104]),(.bool true),(.sv [(.str [119,102,102]),(.str [99,104])] 1 2 (some 2))] 3 2 (some 2)),(.nil (.slice none 0 0)),(.nil (.slice none 0 0)),(.str [97,120,45,49]),(.bool false),(.sv 
 [(.str [119,112,104]),(.bool true),(.sv [(.str [119,102,102]),(.str [112,104])] 1 2 (some 2)),(.str [119,112,115]),(.bool true),(.sv [(.str [119,102,102]),(.str [112,115])] 1 2 (some 
 2))] 3 2 (some 2)),(.nil (.slice none 0 0)),(.sv [(.str [124,45]),(.str [40]),(.str [112,104]),(.str [45,62]),(.str [40]),(.str [112,115]),(.str [45,62]),(.str [112,104]),(.str [41]),
 (.str [41])] 1 10 (some 10)),(.sv [(.str [119,99,104]),(.bool true),(.sv [(.str [119,102,102]),(.str [99,104])] 1 2 (some 2))] 3 1 (some 1)),(.nil (.slice none 0 0)),(.nil (.slice none 0 
 0))] 8 3 (some 3))])
def v49 : AV := (.tup [(.agg [(.sr 0 0 1 1 none),(.sr 1 0 4 5 none),(.mp 2)]),(.int .i64 0)])
def o49 : List AO := [(.cells [(.str [119,102,102])]),(.cells [(.str [119,112,104]),(.str [119,102,102]),(.sv [(.str [112,104]),(.str []),(.int .i64 0)] 3 1 (some 1)),(.bool true),(.str [119,112,115]),
 (.str [119,102,102]),(.sv [(.str [112,115]),(.str []),(.int .i64 0)] 3 1 (some 1)),(.bool true),(.str [119,99,104]),(.str [119,102,102]),(.sv [(.str [99,104]),(.str []),(.int .i64 0)] 
 3 1 (some 1)),(.bool true),(.str [119,105]),(.str [119,102,102]),(.sr 3 0 3 5 none),(.bool false),(.str [119,110]),(.str [119,102,102]),(.sr 4 0 3 2 none),(.bool false)]),(.map 9 
 [((.str [119,99,104]),(.agg [(.str [119,99,104]),(.str [119,102,102]),(.sv [(.str [99,104]),(.str []),(.int .i64 0)] 3 1 (some 1)),(.bool true)])),((.str [119,105]),(.agg [(.str [119,
 105]),(.str [119,102,102]),(.sr 3 0 3 5 none),(.bool false)])),((.str [119,110]),(.agg [(.str [119,110]),(.str [119,102,102]),(.sr 4 0 3 2 none),(.bool false)])),((.str [119,112,
 104]),(.agg [(.str [119,112,104]),(.str [119,102,102]),(.sv [(.str [112,104]),(.str []),(.int .i64 0)] 3 1 (some 1)),(.bool true)])),((.str [119,112,115]),(.agg [(.str [119,112,115]),
 (.str [119,102,102]),(.sv [(.str [112,115]),(.str []),(.int .i64 0)] 3 1 (some 1)),(.bool true)]))] 5),(.cells [(.str [40]),(.str []),(.int .i64 0),(.str []),(.str [119,102,102]),(.int 
 .i64 0),(.str [45,62]),(.str []),(.int .i64 0),(.str []),(.str [119,102,102]),(.int .i64 1),(.str [41]),(.str []),(.int .i64 0)]),(.cells [(.str [45,46]),(.str []),(.int .i64 0),(.str 
 []),(.str [119,102,102]),(.int .i64 0)])]
theorem run49 : Af2 [290,324,341,310,322] (Jq EB 1000 40 49 [dbA] ⟨.e,0⟩) = some (v49,o49) := Kr
theorem Ajr : AV.closeds [dbA] = true := Kr
theorem f49s : Ev EB 49 (S9 [dbA] v49 o49) := Ac5 (recB 1000 40) Ac6 Ajr (by decide) run49
end Go.AM
