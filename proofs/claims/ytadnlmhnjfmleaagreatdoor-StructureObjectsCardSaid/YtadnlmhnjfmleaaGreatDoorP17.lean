/- A part of the proof; shortened by program. -/
import Derived.Test.YtadnlmhnjfmleaaGreatDoorP15
import Derived.Test.YtadnlmhnjfmleaaGreatDoorP16
set_option maxRecDepth 100000
set_option maxHeartbeats 4000000
set_option linter.unusedSimpArgs false
set_option linter.unusedVariables false
namespace Go.AM
open Go Go.Proofs
theorem f182 (J : Sto) : Cv 182 [] J (.agg Ja) := s182.callTo rfl
def clsN (n : Nat) : Nat := match Ja[n]? with | some (.int _ (.ofNat k)) => k | _ => 0
theorem Ajo : Ja.length = 256 := Kr
theorem Ajp : Ja.all (fun v => match v with | .int .u8 (.ofNat _) => true | _ => false) = true := Kr
theorem Amu (b : UInt8) : Ja.drop (b.toNat * 1) = .int .u8 (.ofNat (clsN b.toNat)) :: Ja.drop (b.toNat + 1) := by
 have hb : b.toNat < Ja.length := by rw [Ajo]; exact b.toNat_lt
 rw [ex_,ay_ hb]
 congr 1
 have h := br_.1 Ajp _ (List.getElem_mem hb);unfold clsN;rw [ao_ hb]
 generalize Ja[b.toNat] = v at h ⊢
 split at h
 ·rfl
 ·cases h
theorem f64 (l : List Str) (s : Str) (J : Sto) (hb : l.length < 4611686018427387904) : Cv 64 [slV (fun s => [sV s]) 1 l,sV s] J (iV (Ap (fun x => decide (s = x)) l 0)) := by
 refine Ak Tryz.func64 rfl rfl fun hw _ => ?_
 refine G12 ?_;refine Bh l.length (fun i => [(0,slV (fun s => [sV s]) 1 l),(1,sV s),(7,iV (.ofNat l.length)),(8,iV (.ofNat i))]) (fun i J' => J' = J /\ Ap (fun x => decide (s = x)) l 0 = Ap (fun x => decide (s = x)) (l.drop i) i) SL ⟨rfl,rfl⟩ ?_  -- reads [8,7,9,10,1,0,5,12,13,14,11,15,16,17,18]
 rintro i J' hi ⟨rfl,hf⟩;refine G5 ?_;refine Ab rfl ?_ ?_ <;> intro h
 ·have hlt : i < l.length := by simpa using h
  obtain ⟨a,ha⟩ : ∃ a,l[i]? = some a := ⟨_,ao_ hlt⟩
  have hd : l.drop i = a :: l.drop (i + 1) := by
   obtain ⟨h1,rfl⟩ := ad_.1 ha;exact ay_ h1
  iterate 17 refine G ?_
  refine Ab rfl (fun h' => ?_) (fun h' => ?_)
  ·refine G6 ?_;refine A2 hw rfl ?_;rw [hf,hd]; simp only [Ap,h',cond_true]; rfl
  ·refine G2 ?_;refine O1 (Ek (p := i) (q := 1) okC rfl rfl Om) ?_;refine G2 ?_;refine ⟨hlt,SL,rfl,?_⟩;rw [hf,hd]; simp only [Ap,h',cond_false]
 ·have hge : l.length <= i := by simpa using h
  refine G6 ?_;refine A2 hw rfl ?_;rw [hf,ah_ hge]; rfl
theorem byW (e : Nat) : Ew.byref e = false := rfl
def eB (n : Nat) : List AV := [.int .u8 (.ofNat n)]
theorem f198 (l : List Nat) (s : Nat) (J : Sto) (hb : l.length < 4611686018427387904) : Cv 198 [slV eB 1 l,.int .u8 (.ofNat s)] J (iV (Ap (fun x => decide (Int.ofNat s = Int.ofNat x)) l 0)) := by
 refine Ak Tryz.func198 rfl rfl fun hw _ => ?_
 refine G12 ?_;refine Bh l.length (fun i => [(0,slV eB 1 l),(1,.int .u8 (.ofNat s)),(7,iV (.ofNat l.length)),(8,iV (.ofNat i))]) (fun i J' => J' = J /\ Ap (fun x => decide (Int.ofNat s = Int.ofNat x)) l 0 = Ap (fun x => decide (Int.ofNat s = Int.ofNat x)) (l.drop i) i) SL ⟨rfl,rfl⟩ ?_  -- reads [8,7,9,10,1,0,5,12,13,14,11,15,16,17,18]
 rintro i J' hi ⟨rfl,hf⟩;refine G5 ?_;refine Ab rfl ?_ ?_ <;> intro h
 ·have hlt : i < l.length := by simpa using h
  obtain ⟨a,ha⟩ : ∃ a,l[i]? = some a := ⟨_,ao_ hlt⟩
  have hd : l.drop i = a :: l.drop (i + 1) := by
   obtain ⟨h1,rfl⟩ := ad_.1 ha;exact ay_ h1
  iterate 17 refine G ?_
  refine Ab rfl (fun h' => ?_) (fun h' => ?_)
  ·refine G6 ?_;refine A2 hw rfl ?_;rw [hf,hd]; simp only [Ap,h',cond_true]; rfl
  ·refine G2 ?_;refine O1 (Ek (p := i) (q := 1) okC rfl rfl Om) ?_;refine G2 ?_;refine ⟨hlt,SL,rfl,?_⟩;rw [hf,hd]; simp only [Ap,h',cond_false]
 ·have hge : l.length <= i := by simpa using h
  refine G6 ?_;refine A2 hw rfl ?_;rw [hf,ah_ hge]; rfl
theorem f46 (l : List Str) (s : Str) (J : Sto) (hb : l.length < 4611686018427387904) : Cv 46 [slV (fun s => [sV s]) 1 l,sV s] J (.bool (l.any fun x => decide (s = x))) := by
 refine Ak Tryz.func46 rfl rfl fun hw _ => ?_
 refine G8 ?_;refine Af rfl rfl rfl rfl (f64 l s J hb) ?_;refine G4 ?_;refine A2 hw rfl ?_;exact congrArg AV.bool (D2 l)
theorem f183 (l : List Nat) (s : Nat) (J : Sto) (hb : l.length < 4611686018427387904) : Cv 183 [slV eB 1 l,.int .u8 (.ofNat s)] J (.bool (l.any fun x => decide (Int.ofNat s = Int.ofNat x))) := by
 refine Ak Tryz.func183 rfl rfl fun hw _ => ?_
 refine G8 ?_;refine Af rfl rfl rfl rfl (f198 l s J hb) ?_;refine G4 ?_;refine A2 hw rfl ?_;exact congrArg AV.bool (D2 l)
def okB (perm : List Nat) (b : UInt8) : Bool := perm.any fun x => decide (Int.ofNat (clsN b.toNat) = Int.ofNat x)
def Kt (perm : List Nat) (s : Str) : Bool := !(decide (s = []) || decide ((60 : Int) < Int.ofNat s.length)) && s.all (okB perm)
theorem f162 (s : Str) (perm : List Nat) (J : Sto) (hb : perm.length < 4611686018427387904) : Cv 162 [sV s,slV eB 1 perm] J (.bool (Kt perm s)) := by
 refine Ak Tryz.func162 rfl rfl fun hw _ => ?_
 refine G10 ?_;refine TOr 3 ?_ (fun hg => ?_) ?_
 rotate_left
 ·iterate 3 refine Gn hg ?_
  exact Ez
 refine G ?_;refine Ab rfl ?_ ?_ <;> intro h
 ·refine G5 ?_;refine A2 hw rfl ?_;rw [Kt,h]; rfl
 ·refine G3 ?_;refine Af rfl rfl rfl rfl (f182 J) ?_;refine G10 ?_;refine Bh s.length (fun i => [(0,sV s),(1,slV eB 1 perm),(5,.pv Ja),(16,iV (.ofNat s.length)),(17,iV (.ofNat i))]) (fun i J' => J' = J /\ s.all (okB perm) = (s.drop i).all (okB perm)) SL ⟨rfl,rfl⟩ ?_  -- reads [17,16,18,19,1,0,6,21,22,5,23,24,20,25,26,27,28]
  rintro i J' hi ⟨rfl,hf⟩;refine G5 ?_;refine Ab rfl ?_ ?_ <;> intro h1
  ·have hlt : i < s.length := by simpa using h1
   obtain ⟨a,ha⟩ : ∃ a,s[i]? = some a := ⟨_,ao_ hlt⟩
   have hd : s.drop i = a :: s.drop (i + 1) := by
    obtain ⟨h1,rfl⟩ := ad_.1 ha;exact ay_ h1
   iterate 13 refine G ?_
   refine O1 (Aq9 st9 rfl rfl ha) (O1 (I0 (n := a.toNat) ar334 rfl rfl a.toNat_lt rfl) (O1 (Ah (v := .int .u8 (.ofNat (clsN a.toNat))) ldC rfl rfl (by show Be 1 false (Ja.drop (a.toNat * 1)) = _; rw [Amu]; rfl)) ?_))
   refine Af rfl rfl rfl rfl (f183 perm _ _ hb) ?_;refine G2 ?_;refine Ab rfl ?_ ?_ <;> intro h2
   ·refine G5 ?_;refine A2 hw rfl ?_
    rw [Kt,h,hf,hd,dg_,show okB perm a = false by simpa [okB] using h2]; rfl
   ·refine G2 ?_
    refine O1 (Ek (p := i) (q := 1) okC rfl rfl (by simp at h; omega)) ?_
    refine G2 ?_;refine ⟨hlt,SL,rfl,?_⟩
    rw [hf,hd,dg_,show okB perm a = true by simpa [okB] using h2]; rfl
  ·have hge : s.length <= i := by simpa using h1
   refine G6 ?_;refine A2 hw rfl ?_;rw [Kt,h,hf,ah_ hge]; rfl
theorem f132 (s : Str) (J : Sto) : Cv 132 [sV s] J (.bool (Kt [2] s)) := by
 refine Ak Tryz.func132 rfl rfl fun hw _ => ?_
 refine G7 ?_
 refine Dz (Ay elC byW rfl rfl rfl) (Fk (len := 1)) rfl rfl (Af rfl rfl rfl rfl (f162 s [2] J (by decide)) ?_)
 refine G3 ?_;refine A2 hw rfl ?_;exact rfl
theorem Amv (s : Str) (J : Sto) : Cv 130 [sV s] J (.bool (Kt [2,3] s)) := by
 refine Ak Tryz.func130 rfl rfl fun hw _ => ?_
 refine G7 ?_
 refine Dz (Ay elC byW rfl rfl rfl) (Fk (len := 2)) rfl rfl (Af rfl rfl rfl rfl (f162 s [2,3] J (by decide)) ?_)
 refine G3 ?_;refine A2 hw rfl ?_;exact rfl
def Aaf (h : Hp) : Bool := decide ((60 : Int) < Int.ofNat h.text.length)
def Ao5 (s : Str) : Bool := decide ((400 : Int) < Int.ofNat s.length)
theorem f20 (s : Str) (J : Sto) : Cv 20 [sV s] J (.bool (Ao5 s)) := by
 refine Ak Tryz.func20 rfl rfl fun hw _ => ?_
 refine G12 ?_;refine A2 hw rfl ?_;exact rfl
theorem f17 (h : Hp) (J : Sto) : Cv 17 [.agg (eH h)] J (.bool (Aaf h)) := by
 refine Ak Tryz.func17 rfl rfl fun hw _ => ?_
 iterate 14 refine G ?_
 refine A2 hw rfl ?_;exact rfl
def bigF (words : Int) (f : Fr) : Bool :=
 decide (words < Int.ofNat f.proof.length) || decide ((60 : Int) < Int.ofNat f.text.length) || decide ((60 : Int) < Int.ofNat f.hyps.length) || decide ((60 : Int) < Int.ofNat f.dummies.length) || decide ((200 : Int) < Int.ofNat f.apart.length) ||
  decide ((300 : Int) < Int.ofNat f.wide.length) || f.hyps.any Aaf || f.dummies.any Aaf || f.proof.any Ao5
def Aag (d : Db) (frames words : Int) : Bool :=
 decide (Int.ofNat d.frames.length <= frames) && decide (Int.ofNat d.consts.length <= (200 : Int)) && decide (Int.ofNat d.vars.length <= (60 : Int)) && !(d.frames.any (bigF words))
theorem f16 (f : Fr) (words : Int) (J : Sto) (hw' : words < 1000000) : Cv 16 [.agg (eF f),.pv [iV words]] J (.bool (bigF words f)) := by
 refine Ak Tryz.func16 rfl rfl fun hw _ => ?_
 iterate 17 refine G ?_
 refine TOr 4 ?_ (fun hg => ?_) ?_
 rotate_left
 ·iterate 4 refine Gn hg ?_
  exact Ez
 refine G ?_;refine TOr 4 ?_ (fun hg => ?_) ?_
 rotate_left
 ·iterate 4 refine Gn hg ?_
  exact Ez
 refine G ?_;refine TOr 4 ?_ (fun hg => ?_) ?_
 rotate_left
 ·iterate 4 refine Gn hg ?_
  exact Ez
 refine G ?_;refine TOr 4 ?_ (fun hg => ?_) ?_
 rotate_left
 ·iterate 4 refine Gn hg ?_
  exact Ez
 refine G ?_;refine TOr 4 ?_ (fun hg => ?_) ?_
 rotate_left
 ·iterate 4 refine Gn hg ?_
  exact Ez
 refine G ?_;refine TOr 4 ?_ (fun hg => ?_) ?_
 rotate_left
 ·iterate 3 refine Gn hg ?_
  refine Bg rfl rfl rfl (by rw [hg]; rfl) rfl rfl rfl rfl (f18 Aaf f.hyps 17 [] J (by simp at hg; omega) (fun a _ => f17 a J)) ?_
  exact Ez
 refine G ?_;refine TOr 4 ?_ (fun hg => ?_) ?_
 rotate_left
 ·iterate 3 refine Gn hg ?_
  refine Bg rfl rfl rfl (by rw [hg]; rfl) rfl rfl rfl rfl (f18 Aaf f.dummies 17 [] J (by simp at hg; omega) (fun a _ => f17 a J)) ?_
  exact Ez
 refine G ?_;refine TOr 3 ?_ (fun hg => ?_) ?_
 rotate_left
 ·iterate 2 refine Gn hg ?_
  refine Bg rfl rfl rfl (by rw [hg]; rfl) rfl rfl rfl rfl (f19 Ao5 f.proof 20 [] J (by simp at hg; omega) (fun a _ => f20 a J)) ?_
  exact Ez
 refine G3 ?_;refine A2 hw rfl ?_;exact rfl
theorem f9 (d : Db) (frames words : Int) (J : Sto) (h1 : frames < 1000000) (h2 : words < 1000000) : Cv 4 [dbV d,iV frames,iV words] J (.bool (Aag d frames words)) := by
 refine Ak Tryz.func4 rfl rfl fun hw _ => ?_
 refine G12 ?_;refine O1 (Rx okC rfl rfl) ?_;refine G ?_;refine TAn 4 ?_ (fun hg => ?_) ?_
 rotate_left
 ·iterate 3 refine Gn hg ?_
  refine On hg (Rx (q := 200) okC rfl rfl) ?_;exact Ez
 refine G ?_;refine TAn 4 ?_ (fun hg => ?_) ?_
 rotate_left
 ·iterate 3 refine Gn hg ?_
  refine On hg (Rx (q := 60) okC rfl rfl) ?_;exact Ez
 refine G ?_;refine TAn 5 ?_ (fun hg => ?_) ?_
 rotate_left
 ·iterate 3 refine Gn hg ?_
  refine Bg rfl rfl rfl (by rw [hg]; rfl) rfl rfl rfl rfl (f15 (bigF words) d.frames 16 [.pv [iV words]] J (by simp at hg; omega) (fun a _ => f16 a words J h2)) ?_
  refine Gn hg ?_;exact Ez
 refine G3 ?_;refine A2 hw rfl ?_;exact rfl
theorem f23n (lb : Str) (ks : List As) (n : Int) (J : Sto) (a : Nat) (hn : 0 <= n) (hn2 : n <= 1000) (hc : J.cells a = some [.fn (.func 23) [] [.pr a 0]])
  (ih : ∀ t ∈ ks,∀ (n : Int),0 <= n -> n <= 1000 -> Cv 23 [Bp t,iV n,.pr a 0] J (iV (Ls t n))) : Cv 23 [Bp (.node lb ks),iV n,.pr a 0] J (iV (Ls (.node lb ks) n)) := by
 simp only [Bp,Jr];refine Ak Tryz.func23 rfl rfl fun hw _ => ?_
 refine G8 ?_;refine O1 (Akr (p := n) (q := 1) okC rfl rfl Om Om) ?_;refine G8 ?_
 refine Dt (α := Nat × Int) (fun x => [(1,iV x.2),(2,.pr a 0),(3,.pv [sV lb,slV eT 2 ks]),(6,iV (.ofNat x.1))]) (fun x J' => J' = J /\ x.1 <= ks.length /\ -1 <= x.2 /\ x.2 + x.1 <= n - 1 /\ M7 ks (n - 1) = M7 (ks.drop x.1) x.2) (fun x => ks.length - x.1) (0,n - 1) SL ⟨rfl,by omega,by omega,by simp,rfl⟩ ?_  -- reads [6,3,10,11,9,12,13,1,15,14,16,17,2,21,22,23,24,20,25,26,27,18,19]
 rintro ⟨i,left⟩ J' ⟨rfl,hi,hl1,hl2,hf⟩;simp only at hi hl1 hl2 hf;refine G9 ?_;refine TAn 2 ?_ (fun hg => ?_) ?_
 rotate_left
 ·iterate 2 refine Gn hg ?_
  exact Ez
 refine G ?_;refine Ab rfl ?_ ?_ <;> intro h
 ·have hlt : i < ks.length /\ 0 <= left := by simpa using h
  obtain ⟨k,hk⟩ : ∃ k,ks[i]? = some k := ⟨_,ao_ hlt.1⟩
  have hd : ks.drop i = k :: ks.drop (i + 1) := by
   obtain ⟨h1,rfl⟩ := ad_.1 hk;exact ay_ h1
  have hfk := Ak0 k left hlt.2;refine G3 ?_;refine XS (l := [(23,[Bp k,iV left,.pr a 0],J',iV (Ls k left),J')]) ⟨ih k (af_ hk) left hlt.2 Om,trivial⟩ ?_
  refine DF (Ah (cs := [.fn (.func 23) [] [.pr a 0]]) ldC rfl (by simp [Cn,hc]) rfl) ?_
  refine G3 ?_;refine DF (Bn elC B2 rfl rfl hk) (DF (Ah ldC rfl rfl (B4 (B2 k) _)) ?_);refine G6 ?_;refine O1 (Ek (p := i) (q := 1) okC rfl rfl Om) ?_;refine G2 ?_
  refine ⟨(i + 1,Ls k left),by simp only; omega,SL,rfl,by simp only; omega,hfk.1,by simp only; omega,?_⟩
  rw [hf,hd,Amo,if_pos hlt.2]
 ·refine G7 ?_;refine A2 hw rfl ?_
  have hh : ks.length <= i ∨ left < 0 := by
   have : ¬ (i < ks.length /\ 0 <= left) := by simpa using h
   omega
  unfold Ls;rw [hf]
  rcases hh with hh | hh
  ·rw [ah_ hh]; unfold M7; rfl
  ·rw [Ag4 hh]; rfl
theorem f23 : ∀ (t : As) (n : Int) (J : Sto) (a : Nat),0 <= n -> n <= 1000 -> J.cells a = some [.fn (.func 23) [] [.pr a 0]] -> Cv 23 [Bp t,iV n,.pr a 0] J (iV (Ls t n)) := by
 intro t n J a
 revert n
 refine As.ind' (P := fun t => ∀ n : Int,0 <= n -> n <= 1000 -> J.cells a = some [.fn (.func 23) [] [.pr a 0]] -> Cv 23 [Bp t,iV n,.pr a 0] J (iV (Ls t n))) ?_ t
 intro l ks ih n h1 h2 hc;exact f23n l ks n J a h1 h2 hc fun t ht n h1 h2 => ih t ht n h1 h2 hc
def fewB (t : As) (most : Int) : Bool := decide (0 <= Ls t most)
theorem f6 (t : As) (most : Int) (J : Sto) (h0 : 0 <= most) (h1 : most <= 1000) : Cv 6 [Bp t,iV most] J (.bool (fewB t most)) := by
 refine Ak Tryz.func6 rfl rfl fun hw _ => ?_
 refine G7 ?_;refine O1 (B6 ziC) ?_;refine G4 ?_;refine O1 (A6 (vs := [.nil .nilFunc]) (vs' := [.fn (.func 23) [] [.pr (nx J) 0]]) ldC rfl rfl rfl Bj rfl) ?_;refine G3 ?_
 refine O1 (Ah (cs := [.fn (.func 23) [] [.pr (nx J) 0]]) ldC rfl (by simp [Cn,Sto.cells,a_]) rfl) ?_
 refine G2 ?_
 refine Af rfl rfl rfl rfl (f23 t most _ (nx J) h0 h1 (by simp [Sto.cells,a_])) ?_
 refine G4 ?_;refine ⟨_,rfl,_,_,as_ hw ((Below.rfl'.new nl _).set nl _),nl,.same rfl,?_,rfl⟩;exact rfl
structure Kn where
 consts : SM Bool
 vars : SM Bool
 frames : SM Bool
 hyps : SM Hp
 types : SM Str
def hV (h : Hp) : AV := .agg (eH h)
def knV (m : Nat) : AV := .pv [.mp m,.mp (m + 1),.mp (m + 2),.mp (m + 3),.mp (m + 4)]
structure Gc (J : Sto) (m : Nat) (k : Kn) : Prop where
 c : Eo J m k.consts
 v : Eo J (m + 1) k.vars
 f : Eo J (m + 2) k.frames
 h : A8 hV J (m + 3) k.hyps
 t : A8 sV J (m + 4) k.types
def Kn.isSym (k : Kn) (s : Str) : Bool := k.consts.has s || k.vars.has s
theorem Ahb (m : Nat) (k : Kn) (s : Str) (J : Sto) (hk : Gc J m k) : Cv 131 [knV m,sV s] J (.bool (k.isSym s)) := by
 refine Ak Tryz.func131 rfl rfl fun hw _ => ?_
 refine G11 ?_;refine O1 (Cr st9 Cd rfl hk.c rfl) ?_;refine G ?_;refine TOr 6 ?_ (fun hg => ?_) ?_
 rotate_left
 ·iterate 5 refine Gn hg ?_
  refine On hg (Cr st9 Cd rfl hk.v rfl) ?_;exact Ez
 refine G3 ?_;refine A2 hw rfl ?_;exact rfl
theorem f164 (m : Nat) (k : Kn) (s : Str) (J : Sto) (hk : Gc J m k) : Cv 164 [sV s,.pv [knV m]] J (.bool (!k.isSym s)) := by
 refine Ak Tryz.func164 rfl rfl fun hw _ => ?_
 refine G8 ?_;refine Af rfl rfl rfl rfl (Ahb m k s _ hk) ?_;refine G4 ?_;refine A2 hw rfl ?_;exact rfl
def Kn.textF (k : Kn) (l : List Str) : Int :=
 if l = [] ∨ (200 : Int) < Int.ofNat l.length then 2 else if (!k.consts.has (l.headD []) || l.tail.any fun s => !k.isSym s) then 12 else 0
theorem f135 (m : Nat) (k : Kn) (l : List Str) (J : Sto) (hk : Gc J m k) (hb : l.length < 4611686018427387904) : Cv 135 [knV m,Aj l] J (iV (k.textF l)) := by
 refine Ak Tryz.func135 rfl rfl fun hw _ => ?_
 iterate 13 refine G ?_
 refine TOr 3 ?_ (fun hg => ?_) ?_
 rotate_left
 ·iterate 3 refine Gn hg ?_
  exact Ez
 refine G2 ?_;refine Ab rfl ?_ ?_ <;> intro h
 ·refine G5 ?_;refine A2 hw rfl ?_
  rw [Kn.textF,if_pos (by cases l with | nil => exact .inl rfl | cons a r => right; simp at h ⊢; omega)]; rfl
 ·obtain ⟨a,r,rfl⟩ : ∃ a r,l = a :: r := by cases l with | nil => simp at h | cons a r => exact ⟨a,r,rfl⟩
  have hn : ¬ (a :: r = [] ∨ (200 : Int) < Int.ofNat (a :: r).length) := by simp at h ⊢; omega
  refine D3 [(14,.bool (!k.consts.has a || r.any fun s => !k.isSym s))] ?_ ?_
  ·rcases al_ (!k.consts.has a) with hg9 | hg9
   ·refine XS (l := []) trivial ?_;refine G5 ?_;refine DF (Bn (i := 0) elC (fun _ => rfl) rfl rfl rfl) ?_
    refine G ?_;refine DF (Cr st9 Cd rfl hk.c rfl) ?_;refine G2 ?_
    refine Wx (w := by simp [hg9]) ?_
    refine Wx (w := by simp [hg9]) ?_
    refine Wx (w := by simp [hg9]) ?_
    refine Sc (e := true) rfl rfl rfl rfl (by simp [hg9]) rfl rfl ?_
    refine DF (E5 rfl (by simp [hg9]) rfl) ?_
    refine G2 ?_
    exact ⟨⟨congrArg (fun b => some (AV.bool b)) (by simp [hg9]),trivial⟩,sb,rfl⟩
   ·refine XS (l := [(19,[Aj r,.fn (.func 164) [] [.pv [knV m]]],J,.bool (r.any fun s => !k.isSym s),J)]) ⟨f19 (fun s => !k.isSym s) r 164 [.pv [knV m]] J (by simp at hb ⊢; omega) (fun s _ => f164 m k s J hk),trivial⟩ ?_
    refine G5 ?_;refine DF (Bn (i := 0) elC (fun _ => rfl) rfl rfl rfl) ?_
    refine G ?_;refine DF (Cr st9 Cd rfl hk.c rfl) ?_;refine G2 ?_
    refine Wn (w := by simp [hg9]) (Cm rfl) ?_
    refine Wn (w := by simp [hg9]) (Ae7 (a := 1) elC (fun _ => rfl) rfl rfl (by simp)) ?_
    refine Wn (w := by simp [hg9]) (Akn rfl rfl) ?_
    refine Pk (e := true) rfl rfl rfl rfl (by simp [hg9]) rfl rfl (Bo rfl rfl Bx) ?_
    refine DF (Am rfl (by simp [hg9]) rfl) ?_
    refine G2 ?_
    exact ⟨⟨congrArg (fun b => some (AV.bool b)) (by simp [hg9]),trivial⟩,sb,rfl⟩
  refine Ab rfl ?_ ?_ <;> intro h
  ·refine G5 ?_;refine A2 hw rfl ?_
   rw [Kn.textF,if_neg hn,if_pos (by simpa using h)]; rfl
  ·refine G6 ?_;refine A2 hw rfl ?_
   rw [Kn.textF,if_neg hn,if_neg (by simpa using h)]; rfl
def Ahc (m : Nat) (J J' : Sto) : Prop := nx J' = nx J /\ ∀ b,b < m ∨ m + 5 <= b -> J'.get b = J.get b
theorem Ahc.refl {m : Nat} {J : Sto} : Ahc m J J := ⟨rfl,fun _ _ => rfl⟩
theorem Ahc.set {m a : Nat} {J J' : Sto} {o : AO} (h : Ahc m J J') (h1 : m <= a) (h2 : a < m + 5) : Ahc m J (J'.set a o) :=
 ⟨by rw [Ae]; exact h.1,fun b hb => by rw [a_,if_neg Om]; exact h.2 b hb⟩
def Q9 (s : Str) : Bool := Kt [2,3] s
def Sp : List Str -> Kn -> Int × Kn
 | [],k => (0,k)
 | c :: r,k => cond (!Q9 c) (2,k) (cond (k.consts.has c) (6,k) (Sp r { k with consts := k.consts.put c true }))
def Ui : List Str -> Kn -> Int × Kn
 | [],k => (0,k)
 | c :: r,k => cond (!Q9 c) (2,k) (cond (k.isSym c) (6,k) (Ui r { k with vars := k.vars.put c true }))
def K1 (d : Db) (k : Kn) : Int × Kn := if (Sp d.consts k).1 = 0 then Ui d.vars (Sp d.consts k).2 else Sp d.consts k
theorem Av {α : Type} {l : List α} {i : Nat} {a : α} (ha : l[i]? = some a) : l.drop i = a :: l.drop (i + 1) := by
 obtain ⟨h1,rfl⟩ := ad_.1 ha;exact ay_ h1
theorem A3 {α : Type} {l : List α} {i : Nat} (h : i < l.length) : ∃ a,l[i]? = some a := ⟨_,ao_ h⟩
theorem f101 (m : Nat) (k : Kn) (d : Db) (J : Sto) (hk : Gc J m k) (hb : d.consts.length < 4611686018427387904) (hb2 : d.vars.length < 4611686018427387904) : Aq Ew 101 [knV m,dbV d] J fun v J' => v = iV (K1 d k).1 /\ Ahc m J J' /\ Gc J' m (K1 d k).2 := by
 refine Ak Tryz.func101 rfl rfl fun hw hu0 => ?_
 iterate 14 refine G ?_
 refine Bh d.consts.length (fun i0 => [(0,knV m),(3,.pv [Aj d.consts,Aj d.vars,slV eF 8 d.frames]),(10,Aj d.consts),(11,iV (.ofNat d.consts.length)),(12,iV (.ofNat i0))]) (fun i0 J0 => ∃ ki,Ahc m J J0 /\ Gc J0 m ki /\ Sp d.consts k = Sp (d.consts.drop i0) ki) SL ⟨k,.refl,hk,rfl⟩ ?_
 rintro i0 J0 hi0 ⟨k0,hu0,hk0,hf0⟩;refine G5 ?_;refine Ab rfl ?_ ?_ <;> intro h1
 ·have bc : i0 < d.consts.length := by simpa using h1
  obtain ⟨a0,ha0⟩ := A3 bc;have hd0 := Av ha0;obtain ⟨ver0,mc⟩ := hk0.c
  iterate 13 refine G ?_
  refine Af rfl rfl rfl rfl (Amv a0 _) ?_;refine G2 ?_;refine Ab rfl ?_ ?_ <;> intro h2
  ·refine G4 ?_;refine Co fun hw' => ?_
   refine G ?_
   exact ⟨_,rfl,_,_,ag_ hw' nl (fun _ _ => rfl),by rw [hu0.1]; exact nl,.same rfl,by rw [K1,hf0,hd0,Sp,Q9,h2]; rfl,hu0,by rw [K1,hf0,hd0,Sp,Q9,h2]; exact hk0⟩
  ·refine G9 ?_;refine O1 (Cr st9 Cd rfl hk0.c rfl) ?_;refine G ?_;refine Ab rfl ?_ ?_ <;> intro h3
   ·refine G4 ?_;refine Co fun hw' => ?_
    refine G ?_
    exact ⟨_,rfl,_,_,ag_ hw' nl (fun _ _ => rfl),by rw [hu0.1]; exact nl,.same rfl,by rw [K1,hf0,hd0,Sp,Q9,h2,h3]; rfl,hu0,by rw [K1,hf0,hd0,Sp,Q9,h2,h3]; exact hk0⟩
   ·refine G7 ?_
    refine O1 (Ec (v := true) st9 Cd rfl mc rfl rfl (fun te k1 k2 => by first | exact Ex k1 k2 | exact Ey k1 k2 | exact Fc k1 k2 | exact Fe k1 k2 | exact E1 k1 k2 rfl)) ?_
    refine G5 ?_
    refine ⟨bc,SL,{ k0 with consts := k0.consts.put a0 true },hu0.set Om Om,⟨.put,hk0.v.set Om,hk0.f.set Om,hk0.h.set Om,hk0.t.set Om⟩,by rw [hf0,hd0,Sp,Q9,h2,h3]; rfl⟩
 ·have bm : d.consts.length <= i0 := by simpa using h1
  have hs : K1 d k = Ui d.vars k0 := by rw [K1,hf0,ah_ bm]; rfl
  refine G10 ?_;refine Bh d.vars.length (fun i2 => [(0,knV m),(32,Aj d.vars),(33,iV (.ofNat d.vars.length)),(34,iV (.ofNat i2))]) (fun i2 J2 => ∃ ki,Ahc m J J2 /\ Gc J2 m ki /\ Ui d.vars k0 = Ui (d.vars.drop i2) ki) SL ⟨k0,hu0,hk0,rfl⟩ ?_
  rintro i2 J2 hi2 ⟨k2,hu2,hk2,hf2⟩;refine G5 ?_;refine Ab rfl ?_ ?_ <;> intro h2
  ·have bz : i2 < d.vars.length := by simpa using h2
   obtain ⟨a2,ha2⟩ := A3 bz;have hd2 := Av ha2;obtain ⟨ver2,md⟩ := hk2.v
   iterate 13 refine G ?_
   refine Af rfl rfl rfl rfl (Amv a2 _) ?_;refine G2 ?_;refine Ab rfl ?_ ?_ <;> intro h3
   ·refine G4 ?_;refine Co fun hw' => ?_
    refine G ?_
    exact ⟨_,rfl,_,_,ag_ hw' nl (fun _ _ => rfl),by rw [hu2.1]; exact nl,.same rfl,by rw [hs,hf2,hd2,Ui,Q9,h3]; rfl,hu2,by rw [hs,hf2,hd2,Ui,Q9,h3]; exact hk2⟩
   ·refine G6 ?_;refine Af rfl rfl rfl rfl (Ahb m k2 a2 _ hk2) ?_;refine G ?_;refine Ab rfl ?_ ?_ <;> intro h4
    ·refine G4 ?_;refine Co fun hw' => ?_
     refine G ?_
     exact ⟨_,rfl,_,_,ag_ hw' nl (fun _ _ => rfl),by rw [hu2.1]; exact nl,.same rfl,by rw [hs,hf2,hd2,Ui,Q9,h3,h4]; rfl,hu2,by rw [hs,hf2,hd2,Ui,Q9,h3,h4]; exact hk2⟩
    ·refine G7 ?_
     refine O1 (Ec (v := true) st9 Cd rfl md rfl rfl (fun te k1 k2 => by first | exact Ex k1 k2 | exact Ey k1 k2 | exact Fc k1 k2 | exact Fe k1 k2 | exact E1 k1 k2 rfl)) ?_
     refine G5 ?_
     refine ⟨bz,SL,{ k2 with vars := k2.vars.put a2 true },hu2.set Om Om,⟨hk2.c.set Om,.put,hk2.f.set Om,hk2.h.set Om,hk2.t.set Om⟩,by rw [hf2,hd2,Ui,Q9,h3,h4]; rfl⟩
  ·have b9 : d.vars.length <= i2 := by simpa using h2
   refine G5 ?_;refine Co fun hw' => ?_
   refine G ?_
   exact ⟨_,rfl,_,_,ag_ hw' nl (fun _ _ => rfl),by rw [hu2.1]; exact nl,.same rfl,by rw [hs,hf2,ah_ b9]; rfl,hu2,by rw [hs,hf2,ah_ b9]; exact hk2⟩
theorem bo4 : X3 Ew.P 4 = true := Kr
theorem Bb {α : Type} {l : List α} {i : Nat} {a : α} (ha : l[i]? = some a) : l.take (i + 1) = l.take i ++ [a] := by rw [List.take_add_one,ha]; rfl
theorem keyP (p : Pr) : Hi Ew.P 119 (.agg (eP p)) = some (.agg [kS p.a,kS p.b]) := Kr
theorem Ak7 (p q : Pr) : Key.eq (.agg [kS p.a,kS p.b]) (.agg [kS q.a,kS q.b]) = decide (p = q) := by
 show cond (Key.eq (kS p.a) (kS q.a)) (cond (Key.eq (kS p.b) (kS q.b)) true false) false = _
 rw [Acq,Acq];obtain ⟨a,b⟩ := p;obtain ⟨c,d⟩ := q
 by_cases h1 : a = c <;> by_cases h2 : b = d <;> simp [h1,h2]
theorem f147 (l m : List Str) (J : Sto) (hb : m.length < 4611686018427387904) : Cv 147 [Aj l,Aj m] J (.bool (decide (l = m))) := by
 refine Ak Tryz.func147 rfl rfl fun hw hu0 => ?_
 iterate 13 refine G ?_
 refine Ab rfl ?_ ?_ <;> intro h1
 ·refine G5 ?_;refine A2 hw rfl ?_
  exact congrArg AV.bool (decide_eq_false (fun hh => by subst hh; simp at h1)).symm
 ·have bn : l.length = m.length := by simp at h1; omega
  refine G9 ?_;refine Bh l.length (fun i0 => [(0,Aj l),(1,Aj m),(12,iV (.ofNat l.length)),(13,iV (.ofNat i0))]) (fun i0 J0 => J0 = J /\ l.take i0 = m.take i0) SL ⟨rfl,rfl⟩ ?_
  rintro i0 J0 hi0 ⟨rfl,hf0⟩;refine G5 ?_;refine Ab rfl ?_ ?_ <;> intro h2
  ·have bc : i0 < l.length := by simpa using h2
   obtain ⟨a0,ha0⟩ := A3 bc;have hd0 := Av ha0
   obtain ⟨b,hb0⟩ := A3 (show i0 < m.length by omega)
   refine G9 ?_;refine X0 ?_;refine G8 ?_;refine DF (Lr okC rfl rfl) ?_;refine G ?_;refine ⟨rfl,rfl,?_⟩;refine Ab rfl ?_ ?_ <;> intro h3
   ·refine G5 ?_;refine A2 hw rfl ?_
    exact congrArg AV.bool (decide_eq_false (fun hh => by
     have h4 : a0 ≠ b := (by simpa using h3)
     subst hh; rw [ha0] at hb0; cases hb0; exact h4 rfl)).symm
   ·refine G5 ?_
    refine ⟨bc,SL,rfl,(have h4 : a0 = b := (by simpa using h3); by rw [Bb ha0,Bb hb0,hf0,h4])⟩
  ·have bm : l.length <= i0 := by simpa using h2
   refine G6 ?_;refine A2 hw rfl ?_
   exact congrArg AV.bool (decide_eq_true (by rw [ar_ bm,ar_ Om] at hf0; exact hf0)).symm
theorem f168 (l m : List Pr) (J : Sto) (hb : m.length < 4611686018427387904) : Cv 168 [slV eP 2 l,slV eP 2 m] J (.bool (decide (l = m))) := by
 refine Ak Tryz.func168 rfl rfl fun hw hu0 => ?_
 iterate 13 refine G ?_
 refine Ab rfl ?_ ?_ <;> intro h1
 ·refine G5 ?_;refine A2 hw rfl ?_
  exact congrArg AV.bool (decide_eq_false (fun hh => by subst hh; simp at h1)).symm
 ·have bn : l.length = m.length := by simp at h1; omega
  refine G9 ?_;refine Bh l.length (fun i0 => [(0,slV eP 2 l),(1,slV eP 2 m),(12,iV (.ofNat l.length)),(13,iV (.ofNat i0))]) (fun i0 J0 => J0 = J /\ l.take i0 = m.take i0) SL ⟨rfl,rfl⟩ ?_
  rintro i0 J0 hi0 ⟨rfl,hf0⟩;refine G5 ?_;refine Ab rfl ?_ ?_ <;> intro h2
  ·have bc : i0 < l.length := by simpa using h2
   obtain ⟨a0,ha0⟩ := A3 bc;have hd0 := Av ha0
   obtain ⟨b,hb0⟩ := A3 (show i0 < m.length by omega)
   refine G9 ?_;refine X0 ?_;refine G8 ?_;refine DF (As6 okC rfl rfl rfl rfl (keyP a0) (keyP b)) ?_;refine G ?_;refine ⟨rfl,rfl,?_⟩;refine Ab rfl ?_ ?_ <;> intro h3
   ·refine G5 ?_;refine A2 hw rfl ?_
    exact congrArg AV.bool (decide_eq_false (fun hh => by
     have h4 : a0 ≠ b := (by rw [Ak7] at h3; simpa using h3)
     subst hh; rw [ha0] at hb0; cases hb0; exact h4 rfl)).symm
   ·refine G5 ?_
    refine ⟨bc,SL,rfl,(have h4 : a0 = b := (by rw [Ak7] at h3; simpa using h3); by rw [Bb ha0,Bb hb0,hf0,h4])⟩
  ·have bm : l.length <= i0 := by simpa using h2
   refine G6 ?_;refine A2 hw rfl ?_
   exact congrArg AV.bool (decide_eq_true (by rw [ar_ bm,ar_ Om] at hf0; exact hf0)).symm
def Ak8 (a b : Hp) : Bool := decide (a.label = b.label) && (a.floating == b.floating) && decide (a.text = b.text)
theorem f107 (a b : Hp) (J : Sto) (hb : b.text.length < 4611686018427387904) : Cv 107 [.agg (eH a),.agg (eH b)] J (.bool (Ak8 a b)) := by
 refine Ak Tryz.func107 rfl rfl fun hw hu0 => ?_
 iterate 14 refine G ?_
 refine TAn 5 ?_ (fun hg => ?_) ?_
 rotate_left
 ·iterate 4 refine Gn hg ?_
  refine On hg (As5 bo4 rfl rfl) ?_;exact Ez
 refine G ?_;refine TAn 5 ?_ (fun hg => ?_) ?_
 rotate_left
 ·iterate 4 refine Gn hg ?_
  refine Bg rfl rfl rfl (by rw [hg]; rfl) rfl rfl rfl rfl (f147 a.text b.text _ hb) ?_
  exact Ez
 refine G3 ?_;refine A2 hw rfl ?_;exact rfl
theorem f146 (l : List Str) (J : Sto) (hb : l.length < 1000000) : Cv 146 [Aj l] J (Aj l) := by
 refine Ak Tryz.func146 rfl rfl fun hw hu0 => ?_
 refine G8 ?_;refine T6 slC rfl rfl fun b hbn => ?_
 refine G ?_;refine Ab rfl ?_ ?_ <;> intro h1
 ·refine G4 ?_;obtain rfl := bk_ (hbn h1);refine G ?_;exact ⟨_,rfl,Aj [],J,ag_ hw nl (fun _ _ => rfl),nl,Dd,rfl,rfl⟩
 ·refine G3 ?_
  obtain ⟨v,τ,dh,br,bh,_⟩ := ed_ (enc := fun s : Str => [sV s]) (sz := 1) (l := ([] : List Str)) (by' := 16) (N := nx J) (fun s => rfl) nl (Own.emp (enc := fun s : Str => [sV s]) (sz := 1)) l (by simp [sizeLim]; omega)
  refine O1 (Ay elC byW rfl rfl rfl) ?_;refine G ?_;refine O1 (A1 elC rfl slC rfl rfl rfl (Uc (enc := fun s : Str => [sV s]) (sz := 1) (fun _ => rfl) _ l) dh) ?_
  refine G3 ?_;exact ⟨_,rfl,Aj l,J,as_ hw bh,nl,br.fz (fun _ => rfl) (fun a ha => hw.none ha) (Br (fun _ => rfl) l),rfl,rfl⟩
theorem f143 (l : List Hp) (J : Sto) (hb : l.length < 1000000) : Aq Ew 143 [slV eH 3 l] J fun v J' => Own J' (nx J) eH 3 l v /\ Below (nx J) J J' := by
 refine Ak Tryz.func143 rfl rfl fun hw hu0 => ?_
 refine G8 ?_;refine T6 slC rfl rfl fun b hbn => ?_
 refine G ?_;refine Ab rfl ?_ ?_ <;> intro h1
 ·refine G4 ?_;obtain rfl := bk_ (hbn h1);refine G ?_;exact ⟨_,rfl,_,J,ag_ hw nl (fun _ _ => rfl),nl,.same rfl,.nil,.rfl'⟩
 ·refine G3 ?_
  obtain ⟨v,τ,dh,br,bh,_⟩ := ed_ (enc := eH) (sz := 3) (l := ([] : List Hp)) (by' := 48) (N := nx J) (fun s => rfl) nl (Own.emp (enc := eH) (sz := 3)) l (by simp [sizeLim]; omega)
  refine O1 (Ay elC byW rfl rfl rfl) ?_;refine G ?_;refine O1 (A1 elC rfl slC rfl rfl rfl (Uc (enc := eH) (sz := 3) (fun _ => rfl) _ l) dh) ?_
  refine G2 ?_;refine Co fun hw' => Akw (i := 2) rfl fun hu => ?_
  refine G ?_;exact ⟨_,rfl,_,_,ag_ hw' nl (fun _ _ => rfl),bh.1,.same hu,br,bh⟩
theorem f186 (l : List Pr) (J : Sto) (hb : l.length < 1000000) : Aq Ew 186 [slV eP 2 l] J fun v J' => Own J' (nx J) eP 2 l v /\ Below (nx J) J J' := by
 refine Ak Tryz.func186 rfl rfl fun hw hu0 => ?_
 refine G8 ?_;refine T6 slC rfl rfl fun b hbn => ?_
 refine G ?_;refine Ab rfl ?_ ?_ <;> intro h1
 ·refine G4 ?_;obtain rfl := bk_ (hbn h1);refine G ?_;exact ⟨_,rfl,_,J,ag_ hw nl (fun _ _ => rfl),nl,.same rfl,.nil,.rfl'⟩
 ·refine G3 ?_
  obtain ⟨v,τ,dh,br,bh,_⟩ := ed_ (enc := eP) (sz := 2) (l := ([] : List Pr)) (by' := 32) (N := nx J) (fun s => rfl) nl (Own.emp (enc := eP) (sz := 2)) l (by simp [sizeLim]; omega)
  refine O1 (Ay elC byW rfl rfl rfl) ?_;refine G ?_;refine O1 (A1 elC rfl slC rfl rfl rfl (Uc (enc := eP) (sz := 2) (fun _ => rfl) _ l) dh) ?_
  refine G2 ?_;refine Co fun hw' => Akw (i := 2) rfl fun hu => ?_
  refine G ?_;exact ⟨_,rfl,_,_,ag_ hw' nl (fun _ _ => rfl),bh.1,.same hu,br,bh⟩
theorem Ku {α : Type} {p : α -> Bool} : ∀ (l : List α) (i : Nat),(Ap p l i = -1 /\ ∀ a ∈ l,p a = false) ∨ ∃ n a,Ap p l i = Int.ofNat (i + n) /\ l[n]? = some a /\ p a = true /\ ∀ b ∈ l.take n,p b = false
 | [],i => .inl ⟨rfl,fun a ha => by simp at ha⟩
 | a :: r,i => by
  unfold Ap;cases hp : p a with
  | true => exact .inr ⟨0,a,rfl,rfl,hp,fun b hb => by simp at hb⟩
  | false =>
   rcases Ku (p := p) r (i + 1) with ⟨h1,h2⟩ | ⟨n,b,h1,h2,h3,h4⟩
   ·refine .inl ⟨by rw [cond_false]; exact h1,fun b hb => ?_⟩
    rcases ai_.1 hb with rfl | hb
    ·exact hp
    ·exact h2 b hb
   ·refine .inr ⟨n + 1,b,by rw [cond_false,h1]; congr 1; omega,by simpa using h2,h3,fun c hc => ?_⟩
    rw [ft_] at hc
    rcases ai_.1 hc with rfl | hc
    ·exact hp
    ·exact h4 c hc
def D0 {α : Type} (p : α -> Bool) (l : List α) : List α := l.filter fun x => !p x
theorem Aah {α : Type} {p : α -> Bool} {l : List α} (h : ∀ a ∈ l,p a = false) : D0 p l = l := ez_.2 fun a ha => by simp [h a ha]
theorem Qw {α : Type} {p : α -> Bool} {l : List α} {a : α} : D0 p (l ++ [a]) = D0 p l ++ (if p a then [] else [a]) := by
 unfold D0; rw [dy_]; cases h : p a <;> simp [h]
theorem Gz {α : Type} {p : α -> Bool} {l : List α} : (D0 p l).length <= l.length := co_ _ _
structure Uj {α : Type} (p : α -> Bool) (l c : List α) (j : Nat) : Prop where
 len : c.length = l.length
 fst : c.take (D0 p (l.take j)).length = D0 p (l.take j)
 snd : c.drop j = l.drop j
theorem Uj.start {α : Type} {p : α -> Bool} {l : List α} {n : Nat} {a : α} (h1 : l[n]? = some a) (h2 : p a = true) (h3 : ∀ b ∈ l.take n,p b = false) : (D0 p (l.take (n + 1))).length = n /\ Uj p l l (n + 1) := by
 have h : D0 p (l.take (n + 1)) = l.take n := by rw [Bb h1,Qw,Aah h3,if_pos h2,cn_]
 have hn := (ad_.1 h1).1
 have h4 : (D0 p (l.take (n + 1))).length = n := by rw [h,b_,dt_ (ga_ hn)]
 exact ⟨h4,rfl,by rw [h4,h],rfl⟩
theorem Uj.at {α : Type} {p : α -> Bool} {l c : List α} {j : Nat} (h : Uj p l c j) : c[j]? = l[j]? := by
 have := congrArg (fun k : List α => k[0]?) h.snd
 simpa using this
theorem Uj.out {α : Type} {p : α -> Bool} {l c : List α} {j : Nat} {a : α} (h : Uj p l c j) (ha : l[j]? = some a) (hp : p a = true) : (D0 p (l.take (j + 1))).length = (D0 p (l.take j)).length /\ Uj p l c (j + 1) := by
 have h1 : D0 p (l.take (j + 1)) = D0 p (l.take j) := by rw [Bb ha,Qw,if_pos hp,cn_]
 refine ⟨by rw [h1],h.len,by rw [h1]; exact h.fst,?_⟩
 have := congrArg (List.drop 1) h.snd
 simpa [fo_,eb_] using this
theorem Uj.keep {α : Type} {p : α -> Bool} {l c : List α} {j : Nat} {a : α} (h : Uj p l c j) (ha : l[j]? = some a) (hp : p a = false) :
  (D0 p (l.take (j + 1))).length = (D0 p (l.take j)).length + 1 /\ (D0 p (l.take j)).length < c.length /\ Uj p l (c.set (D0 p (l.take j)).length a) (j + 1) := by
 have hj := (ad_.1 ha).1
 have h1 : D0 p (l.take (j + 1)) = D0 p (l.take j) ++ [a] := by rw [Bb ha,Qw,if_neg (by simp [hp])]
 have hw : (D0 p (l.take j)).length <= j := bc_ Gz (by rw [b_]; omega)
 have hlt : (D0 p (l.take j)).length < c.length := by rw [h.len]; omega
 refine ⟨by rw [h1,aw_]; rfl,hlt,by rw [dh_]; exact h.len,?_,?_⟩
 ·rw [h1,aw_,dc_,Bb (a := a) (by rw [List.getElem?_set_self hlt]),List.take_set_of_le nl,h.fst]
 ·rw [List.drop_set_of_lt Om];have := congrArg (List.drop 1) h.snd
  simpa [fo_,eb_] using this
theorem f39o (p : Hp -> Bool) (l : List Hp) (a : Nat) (tl : List AV) (k : Nat) (cap : List AV) (J : Sto) (hb : l.length < 1000000) (hg : J.get a = some (.cells (l.flatMap eH ++ tl))) (hk : ∀ x ∈ l,Aq Ew k ([.agg (eH x)] ++ cap) J fun v J' => v = .bool (p x) /\ J' = J) : Cv 39 [.sr a 0 3 l.length none,.fn (.func k) [] cap] J (iV (Ap p l 0)) := by
 refine Ak Tryz.func39 rfl rfl fun hw hu0 => ?_
 refine G8 ?_;refine O1 (Em slC rfl rfl rfl) ?_;refine G3 ?_;refine Bh l.length (fun i0 => [(0,.sr a 0 3 l.length none),(1,.fn (.func k) [] cap),(7,iV (.ofNat l.length)),(8,iV (.ofNat i0))]) (fun i0 J0 => J0 = J /\ Ap p l 0 = Ap p (l.drop i0) i0) SL ⟨rfl,rfl⟩ ?_
 rintro i0 J0 hi0 ⟨rfl,hf0⟩;refine G5 ?_;refine Ab rfl ?_ ?_ <;> intro h1
 ·have bc : i0 < l.length := by simpa using h1
  obtain ⟨a0,ha0⟩ := A3 bc;have hd0 := Av ha0
  iterate 13 refine G ?_
  refine O1 (Is elC rfl rfl bc) (O1 (Sd (enc := eH) (v := .agg (eH a0)) (fun _ => rfl) ldC rfl hg ha0 (fun _ => rfl)) ?_)
  refine Af rfl rfl rfl rfl (hk a0 (af_ ha0)) ?_;refine G ?_;refine Ab rfl ?_ ?_ <;> intro h2
  ·refine G6 ?_;refine A2 hw rfl ?_
   exact (by rw [hf0,hd0]; simp only [Ap,h2,cond_true]; rfl)
  ·refine G5 ?_
   refine ⟨bc,SL,rfl,by rw [hf0,hd0]; simp only [Ap,h2,cond_false]⟩
 ·have bm : l.length <= i0 := by simpa using h1
  refine G6 ?_;refine A2 hw rfl ?_
  exact (by rw [hf0,ah_ bm]; rfl)
theorem f142e (k : Nat) (cap : List AV) (v₀ : AV) (hv : v₀ = .nil (.slice none 0 0) ∨ v₀ = .sv [] 3 0 (some 0)) (J : Sto) : Cv 142 [v₀,.fn (.func k) [] cap] J v₀ := by
 refine Ak Tryz.func142 rfl rfl fun hw hu0 => ?_
 refine G8 ?_
 refine Af rfl rfl rfl rfl ((f39 (fun _ => false) [] k cap J (by simp) (fun a ha => by simp at ha)).wk (.cons (by rcases hv with rfl | rfl <;> first | exact Ae3 | exact Fk) .refl)) ?_
 refine G6 ?_;refine O1 (Lp (q := (-1)) okC rfl rfl) ?_;refine G ?_;refine Ab rfl ?_ ?_ <;> intro h1
 ·refine G6 ?_
  exact ⟨_,rfl,_,_,ag_ hw nl (fun _ _ => rfl),nl,.same (by rcases hv with rfl | rfl <;> rfl),rfl,rfl⟩
 ·exact absurd h1 (by simp [Ap])
theorem f142o (p : Hp -> Bool) (l : List Hp) (a N : Nat) (tl : List AV) (k : Nat) (cap : List AV) (J : Sto) (hb : l.length < 1000000) (hN : N <= a) (hg : J.get a = some (.cells (l.flatMap eH ++ tl))) (hk : ∀ x ∈ l,∀ τ,(∀ b,b < N -> τ.get b = J.get b) -> nx τ = nx J -> Aq Ew k ([.agg (eH x)] ++ cap) τ fun v J' => v = .bool (p x) /\ J' = τ) : Aq Ew 142 [.sr a 0 3 l.length none,.fn (.func k) [] cap] J fun v J' => Own J' N eH 3 (D0 p l) v /\ Below N J J' := by
 refine Ak Tryz.func142 rfl rfl fun hw hu0 => ?_
 have da := (hw _ _ hg).1;refine G8 ?_;refine Af rfl rfl rfl rfl (f39o p l a tl k cap _ hb hg (fun x hx => hk x hx _ (fun _ _ => rfl) rfl)) ?_
 refine G6 ?_;refine O1 (Lp (q := (-1)) okC rfl rfl) ?_;refine G ?_;refine Ab rfl ?_ ?_ <;> intro h1
 ·refine G5 ?_
  obtain hs : D0 p l = l := Aah ((Ku (p := p) l 0).resolve_right (fun ⟨n,x,hf,_⟩ => by rw [hf] at h1; simp at h1)).2
  refine G ?_
  exact ⟨_,rfl,_,_,ag_ hw nl (fun _ _ => rfl),nl,.same (C6 da),.inr ⟨a,tl,hN,da,by rw [hs]; rfl,by rw [hs]; exact hg⟩,.rfl'⟩
 ·rcases Ku (p := p) l 0 with ⟨hf,hno⟩ | ⟨n,x,hf,hx,hpx,hpb⟩
  ·rw [hf] at h1; exact absurd h1 (by simp)
  obtain ⟨hst,jp⟩ := Uj.start hx hpx hpb;have hn := (ad_.1 hx).1;rw [hf,be_];refine G9 ?_;refine Dt (fun q : Nat × Nat => [(0,.sr a 0 3 l.length none),(1,.fn (.func k) [] cap),(5,iV (.ofNat q.2)),(6,iV (.ofNat q.1))])
   (fun q J0 => q.1 <= l.length /\ q.2 = (D0 p (l.take q.1)).length /\ nx J0 = nx J /\ (∀ b,b ≠ a -> J0.get b = J.get b) /\ ∃ c,Uj p l c q.1 /\ J0.get a = some (.cells (c.flatMap eH ++ tl))) (fun q => l.length - q.1) (n + 1,n) SL ⟨hn,hst.symm,rfl,fun _ _ => rfl,l,jp,hg⟩ ?_
  rintro ⟨j,w⟩ J0 ⟨hjl,hw0,hnx,cv,c,hdi,hc⟩;simp only at hjl hw0 hdi;refine G5 ?_;refine O1 (Em slC rfl rfl rfl) ?_;refine G2 ?_;refine Ab rfl ?_ ?_ <;> intro h2
  ·have bc : j < l.length := by simpa using h2
   obtain ⟨b,hb0⟩ := A3 bc;have hcb := hdi.at.trans hb0
   have hwl : w <= j := by rw [hw0]; exact bc_ Gz (by rw [b_]; omega)
   refine G7 ?_;refine O1 (Is elC rfl rfl bc) (O1 (Sd (enc := eH) (v := .agg (eH b)) (fun _ => rfl) ldC rfl hc hcb (fun _ => rfl)) ?_)
   refine G6 ?_;refine Af rfl rfl rfl rfl (hk b (af_ hb0) J0 (fun b' hb' => cv b' Om) hnx) ?_
   refine G2 ?_;refine Ab rfl ?_ ?_ <;> intro h3
   ·have h4 : p b = false := by simpa using h3
    obtain ⟨e1,e2,e3⟩ := hdi.keep hb0 h4;rw [← hw0] at e1 e2 e3;refine G5 ?_;refine O1 (Is elC rfl rfl Om) ?_;refine O1 (Aji (enc := eH) (u := b) (fun _ => rfl) ldC rfl rfl rfl hc e2) ?_
    refine G11 ?_
    refine ⟨(j + 1,w + 1),by show l.length - (j + 1) < l.length - j; omega,SL,bc,e1.symm,by rw [Ae]; exact hnx,fun b' hb' => by rw [a_,if_neg hb']; exact cv b' hb',c.set w b,e3,by rw [a_,if_pos rfl]⟩
   ·have h4 : p b = true := by simpa using h3
    obtain ⟨e1,e2⟩ := hdi.out hb0 h4;rw [← hw0] at e1;refine G6 ?_
    refine ⟨(j + 1,w),by show l.length - (j + 1) < l.length - j; omega,SL,bc,e1.symm,hnx,cv,c,e2,hc⟩
  ·have bm : j = l.length := by
    have h4 : ¬ (j < l.length) := by simpa using h2
    omega
   have hwl : w <= l.length := by rw [hw0]; exact bc_ Gz (by rw [b_]; omega)
   refine G5 ?_
   refine O1 (Ags elC rfl rfl hwl) (O1 (Acs (enc := eH) (l := c) (b := w) (fun _ => rfl) elC rfl rfl hc (by rw [hdi.len]; omega)) ?_)
   refine G5 ?_;refine O1 (Z2 elC rfl rfl hwl) ?_;refine G2 ?_
   have hs : D0 p (l.take j) = D0 p l := by rw [bm,eh_]
   rw [hs] at hw0;have gh := hdi.fst;rw [hs,← hw0] at gh;refine Co fun hw' => ?_
   refine G ?_
   refine ⟨_,rfl,_,_,ag_ hw' nl (fun _ _ => rfl),gq_ (by rw [Ae,hnx]),.same (C6 (by rw [Ae,hnx]; exact da)),.inr ⟨a,rep [.str [],.bool false,.nil (.slice none 0 0)] (l.length - w) ++ tl,hN,by rw [Ae,hnx]; exact da,by rw [← hw0]; rfl,?_⟩,⟨gq_ (by rw [Ae,hnx]),fun b hb' => by rw [a_,if_neg Om]; exact cv b Om⟩⟩
   rw [a_,if_pos rfl,gh]
theorem f200o (p : Pr -> Bool) (l : List Pr) (a : Nat) (tl : List AV) (k : Nat) (cap : List AV) (J : Sto) (hb : l.length < 1000000) (hg : J.get a = some (.cells (l.flatMap eP ++ tl))) (hk : ∀ x ∈ l,Aq Ew k ([.agg (eP x)] ++ cap) J fun v J' => v = .bool (p x) /\ J' = J) : Cv 200 [.sr a 0 2 l.length none,.fn (.func k) [] cap] J (iV (Ap p l 0)) := by
 refine Ak Tryz.func200 rfl rfl fun hw hu0 => ?_
 refine G8 ?_;refine O1 (Em slC rfl rfl rfl) ?_;refine G3 ?_;refine Bh l.length (fun i0 => [(0,.sr a 0 2 l.length none),(1,.fn (.func k) [] cap),(7,iV (.ofNat l.length)),(8,iV (.ofNat i0))]) (fun i0 J0 => J0 = J /\ Ap p l 0 = Ap p (l.drop i0) i0) SL ⟨rfl,rfl⟩ ?_
 rintro i0 J0 hi0 ⟨rfl,hf0⟩;refine G5 ?_;refine Ab rfl ?_ ?_ <;> intro h1
 ·have bc : i0 < l.length := by simpa using h1
  obtain ⟨a0,ha0⟩ := A3 bc;have hd0 := Av ha0
  iterate 13 refine G ?_
  refine O1 (Is elC rfl rfl bc) (O1 (Sd (enc := eP) (v := .agg (eP a0)) (fun _ => rfl) ldC rfl hg ha0 (fun _ => rfl)) ?_)
  refine Af rfl rfl rfl rfl (hk a0 (af_ ha0)) ?_;refine G ?_;refine Ab rfl ?_ ?_ <;> intro h2
  ·refine G6 ?_;refine A2 hw rfl ?_
   exact (by rw [hf0,hd0]; simp only [Ap,h2,cond_true]; rfl)
  ·refine G5 ?_
   refine ⟨bc,SL,rfl,by rw [hf0,hd0]; simp only [Ap,h2,cond_false]⟩
 ·have bm : l.length <= i0 := by simpa using h1
  refine G6 ?_;refine A2 hw rfl ?_
  exact (by rw [hf0,ah_ bm]; rfl)
theorem f185e (k : Nat) (cap : List AV) (v₀ : AV) (hv : v₀ = .nil (.slice none 0 0) ∨ v₀ = .sv [] 2 0 (some 0)) (J : Sto) : Cv 185 [v₀,.fn (.func k) [] cap] J v₀ := by
 refine Ak Tryz.func185 rfl rfl fun hw hu0 => ?_
 refine G8 ?_
 refine Af rfl rfl rfl rfl ((f200 (fun _ => false) [] k cap J (by simp) (fun a ha => by simp at ha)).wk (.cons (by rcases hv with rfl | rfl <;> first | exact Ae3 | exact Fk) .refl)) ?_
 refine G6 ?_;refine O1 (Lp (q := (-1)) okC rfl rfl) ?_;refine G ?_;refine Ab rfl ?_ ?_ <;> intro h1
 ·refine G6 ?_
  exact ⟨_,rfl,_,_,ag_ hw nl (fun _ _ => rfl),nl,.same (by rcases hv with rfl | rfl <;> rfl),rfl,rfl⟩
 ·exact absurd h1 (by simp [Ap])
theorem f185o (p : Pr -> Bool) (l : List Pr) (a N : Nat) (tl : List AV) (k : Nat) (cap : List AV) (J : Sto) (hb : l.length < 1000000) (hN : N <= a) (hg : J.get a = some (.cells (l.flatMap eP ++ tl))) (hk : ∀ x ∈ l,∀ τ,(∀ b,b < N -> τ.get b = J.get b) -> nx τ = nx J -> Aq Ew k ([.agg (eP x)] ++ cap) τ fun v J' => v = .bool (p x) /\ J' = τ) : Aq Ew 185 [.sr a 0 2 l.length none,.fn (.func k) [] cap] J fun v J' => Own J' N eP 2 (D0 p l) v /\ Below N J J' := by
 refine Ak Tryz.func185 rfl rfl fun hw hu0 => ?_
 have da := (hw _ _ hg).1;refine G8 ?_;refine Af rfl rfl rfl rfl (f200o p l a tl k cap _ hb hg (fun x hx => hk x hx _ (fun _ _ => rfl) rfl)) ?_
 refine G6 ?_;refine O1 (Lp (q := (-1)) okC rfl rfl) ?_;refine G ?_;refine Ab rfl ?_ ?_ <;> intro h1
 ·refine G5 ?_
  obtain hs : D0 p l = l := Aah ((Ku (p := p) l 0).resolve_right (fun ⟨n,x,hf,_⟩ => by rw [hf] at h1; simp at h1)).2
  refine G ?_
  exact ⟨_,rfl,_,_,ag_ hw nl (fun _ _ => rfl),nl,.same (C6 da),.inr ⟨a,tl,hN,da,by rw [hs]; rfl,by rw [hs]; exact hg⟩,.rfl'⟩
 ·rcases Ku (p := p) l 0 with ⟨hf,hno⟩ | ⟨n,x,hf,hx,hpx,hpb⟩
  ·rw [hf] at h1; exact absurd h1 (by simp)
  obtain ⟨hst,jp⟩ := Uj.start hx hpx hpb;have hn := (ad_.1 hx).1;rw [hf,be_];refine G9 ?_;refine Dt (fun q : Nat × Nat => [(0,.sr a 0 2 l.length none),(1,.fn (.func k) [] cap),(5,iV (.ofNat q.2)),(6,iV (.ofNat q.1))])
   (fun q J0 => q.1 <= l.length /\ q.2 = (D0 p (l.take q.1)).length /\ nx J0 = nx J /\ (∀ b,b ≠ a -> J0.get b = J.get b) /\ ∃ c,Uj p l c q.1 /\ J0.get a = some (.cells (c.flatMap eP ++ tl))) (fun q => l.length - q.1) (n + 1,n) SL ⟨hn,hst.symm,rfl,fun _ _ => rfl,l,jp,hg⟩ ?_
  rintro ⟨j,w⟩ J0 ⟨hjl,hw0,hnx,cv,c,hdi,hc⟩;simp only at hjl hw0 hdi;refine G5 ?_;refine O1 (Em slC rfl rfl rfl) ?_;refine G2 ?_;refine Ab rfl ?_ ?_ <;> intro h2
  ·have bc : j < l.length := by simpa using h2
   obtain ⟨b,hb0⟩ := A3 bc;have hcb := hdi.at.trans hb0
   have hwl : w <= j := by rw [hw0]; exact bc_ Gz (by rw [b_]; omega)
   refine G7 ?_;refine O1 (Is elC rfl rfl bc) (O1 (Sd (enc := eP) (v := .agg (eP b)) (fun _ => rfl) ldC rfl hc hcb (fun _ => rfl)) ?_)
   refine G6 ?_;refine Af rfl rfl rfl rfl (hk b (af_ hb0) J0 (fun b' hb' => cv b' Om) hnx) ?_
   refine G2 ?_;refine Ab rfl ?_ ?_ <;> intro h3
   ·have h4 : p b = false := by simpa using h3
    obtain ⟨e1,e2,e3⟩ := hdi.keep hb0 h4;rw [← hw0] at e1 e2 e3;refine G5 ?_;refine O1 (Is elC rfl rfl Om) ?_;refine O1 (Aji (enc := eP) (u := b) (fun _ => rfl) ldC rfl rfl rfl hc e2) ?_
    refine G11 ?_
    refine ⟨(j + 1,w + 1),by show l.length - (j + 1) < l.length - j; omega,SL,bc,e1.symm,by rw [Ae]; exact hnx,fun b' hb' => by rw [a_,if_neg hb']; exact cv b' hb',c.set w b,e3,by rw [a_,if_pos rfl]⟩
   ·have h4 : p b = true := by simpa using h3
    obtain ⟨e1,e2⟩ := hdi.out hb0 h4;rw [← hw0] at e1;refine G6 ?_
    refine ⟨(j + 1,w),by show l.length - (j + 1) < l.length - j; omega,SL,bc,e1.symm,hnx,cv,c,e2,hc⟩
  ·have bm : j = l.length := by
    have h4 : ¬ (j < l.length) := by simpa using h2
    omega
   have hwl : w <= l.length := by rw [hw0]; exact bc_ Gz (by rw [b_]; omega)
   refine G5 ?_
   refine O1 (Ags elC rfl rfl hwl) (O1 (Acs (enc := eP) (l := c) (b := w) (fun _ => rfl) elC rfl rfl hc (by rw [hdi.len]; omega)) ?_)
   refine G5 ?_;refine O1 (Z2 elC rfl rfl hwl) ?_;refine G2 ?_
   have hs : D0 p (l.take j) = D0 p l := by rw [bm,eh_]
   rw [hs] at hw0;have gh := hdi.fst;rw [hs,← hw0] at gh;refine Co fun hw' => ?_
   refine G ?_
   refine ⟨_,rfl,_,_,ag_ hw' nl (fun _ _ => rfl),gq_ (by rw [Ae,hnx]),.same (C6 (by rw [Ae,hnx]; exact da)),.inr ⟨a,rep [.str [],.str []] (l.length - w) ++ tl,hN,by rw [Ae,hnx]; exact da,by rw [← hw0]; rfl,?_⟩,⟨gq_ (by rw [Ae,hnx]),fun b hb' => by rw [a_,if_neg Om]; exact cv b Om⟩⟩
   rw [a_,if_pos rfl,gh]
theorem f142 (p : Hp -> Bool) (l : List Hp) (N : Nat) (k : Nat) (cap : List AV) (v₀ : AV) (J : Sto) (h : Own J N eH 3 l v₀) (hb : l.length < 1000000) (hk : ∀ x ∈ l,∀ τ,(∀ b,b < N -> τ.get b = J.get b) -> nx τ = nx J -> Aq Ew k ([.agg (eH x)] ++ cap) τ fun v J' => v = .bool (p x) /\ J' = τ) :
  Aq Ew 142 [v₀,.fn (.func k) [] cap] J fun v J' => Own J' N eH 3 (D0 p l) v /\ Below N J J' := by
 rcases h with ⟨rfl,hv⟩ | ⟨a,tl,h1,h2,rfl,h4⟩
 ·exact (f142e k cap v₀ hv J).mono fun v τ ⟨e1,e2⟩ => by subst e1 e2; exact ⟨.inl ⟨rfl,hv⟩,.rfl'⟩
 ·exact f142o p l a N tl k cap J hb h1 h4 hk
theorem f185 (p : Pr -> Bool) (l : List Pr) (N : Nat) (k : Nat) (cap : List AV) (v₀ : AV) (J : Sto) (h : Own J N eP 2 l v₀) (hb : l.length < 1000000) (hk : ∀ x ∈ l,∀ τ,(∀ b,b < N -> τ.get b = J.get b) -> nx τ = nx J -> Aq Ew k ([.agg (eP x)] ++ cap) τ fun v J' => v = .bool (p x) /\ J' = τ) :
  Aq Ew 185 [v₀,.fn (.func k) [] cap] J fun v J' => Own J' N eP 2 (D0 p l) v /\ Below N J J' := by
 rcases h with ⟨rfl,hv⟩ | ⟨a,tl,h1,h2,rfl,h4⟩
 ·exact (f185e k cap v₀ hv J).mono fun v τ ⟨e1,e2⟩ => by subst e1 e2; exact ⟨.inl ⟨rfl,hv⟩,.rfl'⟩
 ·exact f185o p l a N tl k cap J hb h1 h4 hk
theorem M9 {N : Nat} (h : Hp) : AV.unds N (eH h) = true := by
 show (true && (true && (AV.und N (Aj h.text) && true))) = true
 rw [Cw (fun _ => rfl) h.text]; rfl
theorem Ark {N : Nat} (h : Pr) : AV.unds N (eP h) = true := rfl
theorem Ao6 {N : Nat} (l : List Hp) : AV.und N (slV eH 3 l) = true := Cw M9 l
def Uk (h : Hp) : Bool := !h.floating
theorem f144 (h : Hp) (J : Sto) : Cv 144 [.agg (eH h)] J (.bool h.floating) := by
 refine Ak Tryz.func144 rfl rfl fun hw hu0 => ?_
 refine G12 ?_;refine A2 hw rfl ?_;exact rfl
theorem f145 (h : Hp) (J : Sto) : Cv 145 [.agg (eH h)] J (.bool (Uk h)) := by
 refine Ak Tryz.func145 rfl rfl fun hw hu0 => ?_
 iterate 13 refine G ?_
 refine A2 hw rfl ?_;exact rfl
theorem f103 (f : Fr) (J : Sto) (hb : f.hyps.length < 1000000) : Cv 103 [.agg (eF f)] J (slV eH 3 (D0 (fun h => h.floating) f.hyps)) := by
 refine Ak Tryz.func103 rfl rfl fun hw hu0 => ?_
 refine G9 ?_;refine Bu rfl rfl rfl rfl (f143 f.hyps _ hb) fun v τ ⟨br,bh⟩ => ?_
 refine Bu rfl rfl rfl rfl (f142 (fun h => h.floating) f.hyps (nx J) 144 [] v τ br hb (fun x _ τ _ _ => f144 x τ)) fun v2 τ2 ⟨b6,ba⟩ => ?_
 refine G3 ?_;exact ⟨_,rfl,slV eH 3 (D0 (fun h => h.floating) f.hyps),J,as_ hw (bh.trans ba),nl,b6.fz (fun _ => rfl) (fun a ha => hw.none ha) (Br M9 _),rfl,rfl⟩
theorem f104 (l : List Hp) (J : Sto) (hb : l.length < 1000000) : Cv 104 [slV eH 3 l] J (slV eH 3 (D0 Uk l)) := by
 refine Ak Tryz.func104 rfl rfl fun hw hu0 => ?_
 refine G7 ?_;refine Bu rfl rfl rfl rfl (f143 l _ hb) fun v τ ⟨br,bh⟩ => ?_
 refine Bu rfl rfl rfl rfl (f142 Uk l (nx J) 145 [] v τ br hb (fun x _ τ _ _ => f145 x τ)) fun v2 τ2 ⟨b6,ba⟩ => ?_
 refine G3 ?_;exact ⟨_,rfl,slV eH 3 (D0 Uk l),J,as_ hw (bh.trans ba),nl,b6.fz (fun _ => rfl) (fun a ha => hw.none ha) (Br M9 _),rfl,rfl⟩
theorem f187 (p : Pr) (r : Nat) (m : SM Bool) (J : Sto) (hm : Eo J r m) : Cv 187 [.agg (eP p),.pv [.mp r]] J (.bool (!m.has p.a || !m.has p.b)) := by
 refine Ak Tryz.func187 rfl rfl fun hw hu0 => ?_
 refine G10 ?_;refine O1 (Cr st9 Cd rfl hm rfl) ?_;refine G2 ?_;refine TOr 5 ?_ (fun hg => ?_) ?_
 rotate_left
 ·iterate 3 refine Gn hg ?_
  refine On hg (Cr st9 Cd rfl hm rfl) ?_;refine Gn hg ?_;exact Ez
 refine G3 ?_;refine A2 hw rfl ?_;exact rfl
theorem f169 (r : Nat) (m : SM Bool) (l : List Pr) (J : Sto) (hm : Eo J r m) (hb : l.length < 1000000) : Cv 169 [.mp r,slV eP 2 l] J (slV eP 2 (D0 (fun p => !m.has p.a || !m.has p.b) l)) := by
 refine Ak Tryz.func169 rfl rfl fun hw hu0 => ?_
 refine G8 ?_;refine Bu rfl rfl rfl rfl (f186 l _ hb) fun v τ ⟨br,bh⟩ => ?_
 refine G ?_
 refine Bu rfl rfl rfl rfl (f185 (fun p => !m.has p.a || !m.has p.b) l (nx J) 187 [.pv [.mp r]] v τ br hb (fun x _ τ3 h3 _ => f187 x r m τ3 (hm.of_get ((h3 r (hm.lt hw)).trans (bh.2 r (hm.lt hw)))))) fun v2 τ2 ⟨b6,ba⟩ => ?_
 refine G3 ?_
 exact ⟨_,rfl,slV eP 2 (D0 (fun p => !m.has p.a || !m.has p.b) l),J,as_ hw (bh.trans ba),nl,b6.fz (fun _ => rfl) (fun a ha => hw.none ha) (Br Ark _),rfl,rfl⟩
def He (l : List Hp) : List (List Str) := (D0 (fun h => h.floating) l).map (·.text)
theorem Ac9 {l : List Hp} {i : Nat} {a : Hp} (ha : l[i]? = some a) : He (l.take (i + 1)) = He (l.take i) ++ (if a.floating then [] else [a.text]) := by
 unfold He; rw [Bb ha,Qw,ci_]; cases a.floating <;> rfl
theorem Ak9 {l : List Hp} : (He l).length <= l.length := by unfold He; rw [by_]; exact Gz
abbrev eL (t : List Str) : List AV := [Aj t]
theorem Atc : ∀ t,(eL t).length = 1 := fun _ => rfl
theorem Pp : ∀ t,(eH t).length = 3 := fun _ => rfl
theorem Arl {N : Nat} (t : List Str) : AV.unds N (eL t) = true := by show (AV.und N (Aj t) && true) = true; rw [Cw (fun _ => rfl)]; rfl
theorem f166 (l : List Hp) (t : List Str) (J : Sto) (hb : l.length < 1000000) : Cv 166 [slV eH 3 l,Aj t] J (slV eL 1 (t :: He l)) := by
 refine Ak Tryz.func166 rfl rfl fun hw hu0 => ?_
 refine G7 ?_;refine O1 (Ay elC byW rfl rfl rfl) ?_;refine G10 ?_;refine Dt (fun q : Nat × AV => [(5,q.2),(10,slV eH 3 l),(11,iV (.ofNat l.length)),(12,iV (.ofNat q.1))]) (fun q J0 => q.1 <= l.length /\ Ajj J0 (nx J) eL 1 (t :: He (l.take q.1)) q.2 /\ Below (nx J) J J0) (fun q => l.length - q.1) (0,.sv [Aj t] 1 1 (some 1)) SL ⟨ca_ _,.inl rfl,.rfl'⟩ ?_
 rintro ⟨i0,v0⟩ J0 hP0;obtain ⟨hi0,cp,cy⟩ : i0 <= l.length /\ Ajj J0 (nx J) eL 1 (t :: He (l.take i0)) v0 /\ Below (nx J) J J0 := hP0;refine G5 ?_;refine Ab rfl ?_ ?_ <;> intro h1
 ·have bc : i0 < l.length := by simpa using h1
  obtain ⟨a0,ha0⟩ := A3 bc;have hd0 := Av ha0
  iterate 15 refine G ?_
  refine Ab rfl ?_ ?_ <;> intro h2
  ·have h4 : a0.floating = false := by simpa using h2
   have bo : ((t :: He (l.take i0)).length + [a0.text].length) * (24 + 1) <= sizeLim := by have := Ak9 (l := l.take i0); rw [b_] at this; simp [sizeLim]; omega
   obtain ⟨v,τ,dh,dv,mf,_⟩ := cp.app (by' := 24) Atc cy.1 [a0.text] bo
   refine G4 ?_;refine Dz (Ay elC byW rfl rfl rfl) (Fk (len := 1)) rfl rfl (O1 (A1 elC rfl slC rfl rfl rfl (new := eL a0.text) rfl dh) ?_);refine G6 ?_
   refine ⟨(i0 + 1,v),by show l.length - (i0 + 1) < l.length - i0; omega,SL,bc,by rw [Ac9 ha0,if_neg (by rw [h4]; simp)]; exact dv,cy.trans mf⟩
  ·have h4 : a0.floating = true := by simpa using h2
   refine G5 ?_
   refine ⟨(i0 + 1,v0),by show l.length - (i0 + 1) < l.length - i0; omega,SL,bc,by rw [Ac9 ha0,if_pos h4,cn_]; exact cp,cy⟩
 ·have bm : l.length <= i0 := by simpa using h1
  refine G6 ?_;rw [ar_ bm] at cp;refine G ?_;exact ⟨_,rfl,slV eL 1 (t :: He l),J,as_ hw cy,nl,cp.fz (fun _ => rfl) (fun a ha => hw.none ha) (Br Arl _),rfl,rfl⟩
theorem in3 : Ajk Ew.P 3 = true := Kr
theorem f106 (h : Hp) (J : Sto) (hb : h.text.length < 1000000) : Cv 106 [.agg (eH h)] J (.agg (eH h)) := by
 refine Ak Tryz.func106 rfl rfl fun hw hu0 => ?_
 refine G2 ?_;refine O1 (Aiz ldC rfl rfl) (O1 (B6 ziC) ?_);refine G4 ?_
 refine O1 (Ah (cs := (eH h).drop 2) ldC rfl (by simp only [Cn,Agt Asc]) rfl) ?_
 refine Af rfl rfl rfl rfl (f146 h.text _ hb) ?_;refine G ?_;refine O1 (A6 (vs := eH h) (vs' := eH h) ldC rfl rfl rfl (Agt Asc) rfl) ?_;refine G3 ?_
 refine O1 (Ah (cs := eH h) ldC rfl (by simp only [Cn,Sto.cells,a_,if_true]; rfl) rfl) ?_
 refine O1 (A6 (vs := [.str [],.bool false,.nil (.slice none 0 0)]) (vs' := eH h) ldC rfl rfl rfl (by unfold Sto.cells; rw [a_,if_neg (by rw [Ac]; omega),get2b]) rfl) ?_
 refine G2 ?_
 exact ⟨_,Cy (vs := eH h) (v := .agg (eH h)) (ldC (t := 63)) rfl (by unfold Sto.cells; rw [a_,if_pos rfl]) rfl rfl,.agg (eH h),J,as_ hw ((((Below.rfl'.new nl _).new nl _).set nl _).set (by rw [Ac]; omega) _),nl,.same (M9 h),rfl,rfl⟩
theorem f163 (n : Nat) (J : Sto) (hn : n < 1000000) : Aq Ew 163 [.nil (.slice none 0 0),iV (.ofNat n)] J fun v J' => Own J' (nx J) eH 3 [] v /\ Below (nx J) J J' := by
 refine Ak Tryz.func163 rfl rfl fun hw hu0 => ?_
 refine G10 ?_;refine Ab rfl ?_ ?_ <;> intro h1
 ·exact absurd h1 (by simp)
 ·refine G6 ?_;refine O1 (Aky slC rfl) ?_;refine G ?_;refine O1 (Em slC rfl rfl rfl) (O1 (Ajc (p := 0) (q := 0) okC rfl rfl Om Om) ?_);refine O1 (Ajc (p := n) (q := 0) okC rfl rfl Om Om) ?_;refine G7 ?_;refine Ab rfl ?_ ?_ <;> intro h2
  ·obtain ⟨n,rfl⟩ : ∃ k,n = k + 1 := ⟨n - 1,(by simp at h2; omega)⟩
   refine G3 ?_;refine O1 (Aky slC rfl) (O1 (Ard elC rfl rfl) ?_);refine G ?_
   refine O1 (Aop (n := n) elC rfl in3 rfl rfl (by simp [sizeLim]; omega)) ?_
   refine G ?_;refine O1 (Em slC rfl rfl rfl) (O1 (Z2 (b := 0) elC rfl rfl Om) ?_);refine G7 ?_;refine Co fun hw' => ?_
   refine G ?_
   exact ⟨_,rfl,_,_,ag_ hw' nl (fun _ _ => rfl),by rw [Ac]; omega,.same (C6 (by rw [Ac]; omega)),.inr ⟨nx J,rep [.str [],.bool false,.nil (.slice none 0 0)] (n + 1),nl,by rw [Ac]; omega,rfl,by rw [ab_,if_pos rfl]; rfl⟩,Below.rfl'.new nl _⟩
  ·refine G7 ?_;exact ⟨_,rfl,_,_,ag_ hw nl (fun _ _ => rfl),nl,.same rfl,.nil,.rfl'⟩
end Go.AM
