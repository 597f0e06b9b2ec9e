/- A part of the proof; shortened by program. -/
import Derived.Test.YtolkkkghemedjaaGreatDoorP05
import Derived.Test.YtolkkkghemedjaaGreatDoorP06
set_option maxRecDepth 100000
set_option maxHeartbeats 4000000
set_option linter.unusedSimpArgs false
set_option linter.unusedVariables false
namespace Go.AM
open Go Go.Proofs
theorem f261 (U : Sto) : Cv 261 [] U (.agg Ix) := s261.callTo rfl
def clsN (n : Nat) : Nat := match Ix[n]? with | some (.int _ (.ofNat k)) => k | _ => 0
theorem Ai7 : Ix.length = 256 := Kr
theorem Ai8 : Ix.all (fun v => match v with | .int .u8 (.ofNat _) => true | _ => false) = true := Kr
theorem Amr (b : UInt8) : Ix.drop (b.toNat * 1) = .int .u8 (.ofNat (clsN b.toNat)) :: Ix.drop (b.toNat + 1) := by
 have hb : b.toNat < Ix.length := by rw [Ai7]; exact b.toNat_lt
 rw [Nat.mul_one,aw_ hb]
 congr 1
 have h := da_.1 Ai8 _ (List.getElem_mem hb);unfold clsN;rw [an_ hb]
 generalize Ix[b.toNat] = v at h ⊢
 split at h
 ·rfl
 ·cases h
theorem f78 (l : List Str) (s : Str) (U : Sto) (hb : l.length < 4611686018427387904) : Cv 78 [slV (fun s => [sV s]) 1 l,sV s] U (iV (A2 (fun x => decide (s = x)) l 0)) := by
 refine An Tryz.func78 rfl rfl fun hw _ => ?_
 refine G12 ?_;refine Bq l.length (fun i => [(0,slV (fun s => [sV s]) 1 l),(1,sV s),(7,iV (.ofNat l.length)),(8,iV (.ofNat i))]) (fun i U' => U' = U /\ A2 (fun x => decide (s = x)) l 0 = A2 (fun x => decide (s = x)) (l.drop i) i) SL ⟨rfl,rfl⟩ ?_  -- reads [8,7,9,10,1,0,5,12,13,14,11,15,16,17,18]
 rintro i U' hi ⟨rfl,hf⟩;refine G5 ?_;refine Ab rfl ?_ ?_ <;> intro h
 ·have hlt : i < l.length := by simpa using h
  obtain ⟨a,ha⟩ : ∃ a,l[i]? = some a := ⟨_,an_ hlt⟩
  have hd : l.drop i = a :: l.drop (i + 1) := by
   obtain ⟨h1,rfl⟩ := aa_.1 ha;exact aw_ h1
  iterate 17 refine G ?_
  refine Ab rfl (fun h' => ?_) (fun h' => ?_)
  ·refine G6 ?_;refine Bb hw rfl ?_;rw [hf,hd]; simp only [A2,h',cond_true]; rfl
  ·refine G2 ?_;refine O1 (Dg (p := i) (q := 1) okC rfl rfl Om) ?_;refine G2 ?_;refine ⟨hlt,SL,rfl,?_⟩;rw [hf,hd]; simp only [A2,h',cond_false]
 ·have hge : l.length <= i := by simpa using h
  refine G6 ?_;refine Bb hw rfl ?_;rw [hf,ah_ hge]; rfl
theorem byW (e : Nat) : Ew.byref e = false := rfl
def eB (n : Nat) : List AV := [.int .u8 (.ofNat n)]
theorem f279 (l : List Nat) (s : Nat) (U : Sto) (hb : l.length < 4611686018427387904) : Cv 279 [slV eB 1 l,.int .u8 (.ofNat s)] U (iV (A2 (fun x => decide (Int.ofNat s = Int.ofNat x)) l 0)) := by
 refine An Tryz.func279 rfl rfl fun hw _ => ?_
 refine G12 ?_;refine Bq l.length (fun i => [(0,slV eB 1 l),(1,.int .u8 (.ofNat s)),(7,iV (.ofNat l.length)),(8,iV (.ofNat i))]) (fun i U' => U' = U /\ A2 (fun x => decide (Int.ofNat s = Int.ofNat x)) l 0 = A2 (fun x => decide (Int.ofNat s = Int.ofNat x)) (l.drop i) i) SL ⟨rfl,rfl⟩ ?_  -- reads [8,7,9,10,1,0,5,12,13,14,11,15,16,17,18]
 rintro i U' hi ⟨rfl,hf⟩;refine G5 ?_;refine Ab rfl ?_ ?_ <;> intro h
 ·have hlt : i < l.length := by simpa using h
  obtain ⟨a,ha⟩ : ∃ a,l[i]? = some a := ⟨_,an_ hlt⟩
  have hd : l.drop i = a :: l.drop (i + 1) := by
   obtain ⟨h1,rfl⟩ := aa_.1 ha;exact aw_ h1
  iterate 17 refine G ?_
  refine Ab rfl (fun h' => ?_) (fun h' => ?_)
  ·refine G6 ?_;refine Bb hw rfl ?_;rw [hf,hd]; simp only [A2,h',cond_true]; rfl
  ·refine G2 ?_;refine O1 (Dg (p := i) (q := 1) okC rfl rfl Om) ?_;refine G2 ?_;refine ⟨hlt,SL,rfl,?_⟩;rw [hf,hd]; simp only [A2,h',cond_false]
 ·have hge : l.length <= i := by simpa using h
  refine G6 ?_;refine Bb hw rfl ?_;rw [hf,ah_ hge]; rfl
theorem f30 (l : List Str) (s : Str) (U : Sto) (hb : l.length < 4611686018427387904) : Cv 30 [slV (fun s => [sV s]) 1 l,sV s] U (.bool (l.any fun x => decide (s = x))) := by
 refine An Tryz.func30 rfl rfl fun hw _ => ?_
 refine G8 ?_;refine Ag rfl rfl rfl rfl (f78 l s U hb) ?_;refine G4 ?_;refine Bb hw rfl ?_;exact congrArg AV.bool (E1 l)
theorem f262 (l : List Nat) (s : Nat) (U : Sto) (hb : l.length < 4611686018427387904) : Cv 262 [slV eB 1 l,.int .u8 (.ofNat s)] U (.bool (l.any fun x => decide (Int.ofNat s = Int.ofNat x))) := by
 refine An Tryz.func262 rfl rfl fun hw _ => ?_
 refine G8 ?_;refine Ag rfl rfl rfl rfl (f279 l s U hb) ?_;refine G4 ?_;refine Bb hw rfl ?_;exact congrArg AV.bool (E1 l)
def okB (perm : List Nat) (b : UInt8) : Bool := perm.any fun x => decide (Int.ofNat (clsN b.toNat) = Int.ofNat x)
def K6 (perm : List Nat) (s : Str) : Bool := !(decide (s = []) || decide ((60 : Int) < Int.ofNat s.length)) && s.all (okB perm)
theorem f236 (s : Str) (perm : List Nat) (U : Sto) (hb : perm.length < 4611686018427387904) : Cv 236 [sV s,slV eB 1 perm] U (.bool (K6 perm s)) := by
 refine An Tryz.func236 rfl rfl fun hw _ => ?_
 refine G10 ?_;refine TOr 3 ?_ (fun hg => ?_) ?_
 rotate_left
 ·iterate 3 refine Gn hg ?_
  exact Ez
 refine G ?_;refine Ab rfl ?_ ?_ <;> intro h
 ·refine G5 ?_;refine Bb hw rfl ?_;rw [K6,h]; rfl
 ·refine G3 ?_;refine Ag rfl rfl rfl rfl (f261 U) ?_;refine G10 ?_;refine Bq s.length (fun i => [(0,sV s),(1,slV eB 1 perm),(5,.pv Ix),(16,iV (.ofNat s.length)),(17,iV (.ofNat i))]) (fun i U' => U' = U /\ s.all (okB perm) = (s.drop i).all (okB perm)) SL ⟨rfl,rfl⟩ ?_  -- reads [17,16,18,19,1,0,6,21,22,5,23,24,20,25,26,27,28]
  rintro i U' hi ⟨rfl,hf⟩;refine G5 ?_;refine Ab rfl ?_ ?_ <;> intro h1
  ·have hlt : i < s.length := by simpa using h1
   obtain ⟨a,ha⟩ : ∃ a,s[i]? = some a := ⟨_,an_ hlt⟩
   have hd : s.drop i = a :: s.drop (i + 1) := by
    obtain ⟨h1,rfl⟩ := aa_.1 ha;exact aw_ h1
   iterate 13 refine G ?_
   refine O1 (Lm st9 rfl rfl ha) (O1 (Cl (n := a.toNat) ar358 rfl rfl a.toNat_lt rfl) (O1 (Ad (v := .int .u8 (.ofNat (clsN a.toNat))) ldC rfl rfl (by show Jc 1 false (Ix.drop (a.toNat * 1)) = _; rw [Amr]; rfl)) ?_))
   refine Ag rfl rfl rfl rfl (f262 perm _ _ hb) ?_;refine G2 ?_;refine Ab rfl ?_ ?_ <;> intro h2
   ·refine G5 ?_;refine Bb hw rfl ?_
    rw [K6,h,hf,hd,dy_,show okB perm a = false by simpa [okB] using h2]; rfl
   ·refine G2 ?_
    refine O1 (Dg (p := i) (q := 1) okC rfl rfl (by simp at h; omega)) ?_
    refine G2 ?_;refine ⟨hlt,SL,rfl,?_⟩
    rw [hf,hd,dy_,show okB perm a = true by simpa [okB] using h2]; rfl
  ·have hge : s.length <= i := by simpa using h1
   refine G6 ?_;refine Bb hw rfl ?_;rw [K6,h,hf,ah_ hge]; rfl
theorem f209 (s : Str) (U : Sto) : Cv 209 [sV s] U (.bool (K6 [2] s)) := by
 refine An Tryz.func209 rfl rfl fun hw _ => ?_
 refine G7 ?_
 refine C1 (As elC byW rfl rfl rfl) (D6 (len := 1)) rfl rfl (Ag rfl rfl rfl rfl (f236 s [2] U (by decide)) ?_)
 refine G3 ?_;refine Bb hw rfl ?_;exact rfl
theorem Ams (s : Str) (U : Sto) : Cv 207 [sV s] U (.bool (K6 [2,3] s)) := by
 refine An Tryz.func207 rfl rfl fun hw _ => ?_
 refine G7 ?_
 refine C1 (As elC byW rfl rfl rfl) (D6 (len := 2)) rfl rfl (Ag rfl rfl rfl rfl (f236 s [2,3] U (by decide)) ?_)
 refine G3 ?_;refine Bb hw rfl ?_;exact rfl
def Z4 (h : Hp) : Bool := decide ((60 : Int) < Int.ofNat h.text.length)
def Aoy (s : Str) : Bool := decide ((400 : Int) < Int.ofNat s.length)
theorem f45 (s : Str) (U : Sto) : Cv 45 [sV s] U (.bool (Aoy s)) := by
 refine An Tryz.func45 rfl rfl fun hw _ => ?_
 refine G12 ?_;refine Bb hw rfl ?_;exact rfl
theorem f43 (h : Hp) (U : Sto) : Cv 43 [.agg (eH h)] U (.bool (Z4 h)) := by
 refine An Tryz.func43 rfl rfl fun hw _ => ?_
 iterate 14 refine G ?_
 refine Bb hw rfl ?_;exact rfl
def bigF (words : Int) (f : Fr) : Bool :=
 decide (words < Int.ofNat f.proof.length) || decide ((60 : Int) < Int.ofNat f.text.length) || decide ((60 : Int) < Int.ofNat f.hyps.length) || decide ((60 : Int) < Int.ofNat f.dummies.length) || decide ((200 : Int) < Int.ofNat f.apart.length) ||
  decide ((300 : Int) < Int.ofNat f.wide.length) || f.hyps.any Z4 || f.dummies.any Z4 || f.proof.any Aoy
def Ai9 (d : Db) (frames words : Int) : Bool :=
 decide (Int.ofNat d.frames.length <= frames) && decide (Int.ofNat d.consts.length <= (200 : Int)) && decide (Int.ofNat d.vars.length <= (60 : Int)) && !(d.frames.any (bigF words))
theorem f42 (f : Fr) (words : Int) (U : Sto) (hw' : words < 1000000) : Cv 42 [.agg (eF f),.pv [iV words]] U (.bool (bigF words f)) := by
 refine An Tryz.func42 rfl rfl fun hw _ => ?_
 iterate 17 refine G ?_
 refine TOr 4 ?_ (fun hg => ?_) ?_
 rotate_left
 ·iterate 4 refine Gn hg ?_
  exact Ez
 refine G ?_;refine TOr 4 ?_ (fun hg => ?_) ?_
 rotate_left
 ·iterate 4 refine Gn hg ?_
  exact Ez
 refine G ?_;refine TOr 4 ?_ (fun hg => ?_) ?_
 rotate_left
 ·iterate 4 refine Gn hg ?_
  exact Ez
 refine G ?_;refine TOr 4 ?_ (fun hg => ?_) ?_
 rotate_left
 ·iterate 4 refine Gn hg ?_
  exact Ez
 refine G ?_;refine TOr 4 ?_ (fun hg => ?_) ?_
 rotate_left
 ·iterate 4 refine Gn hg ?_
  exact Ez
 refine G ?_;refine TOr 4 ?_ (fun hg => ?_) ?_
 rotate_left
 ·iterate 3 refine Gn hg ?_
  refine Bh rfl rfl rfl (by rw [hg]; rfl) rfl rfl rfl rfl (f44 Z4 f.hyps 43 [] U (by simp at hg; omega) (fun a _ => f43 a U)) ?_
  exact Ez
 refine G ?_;refine TOr 4 ?_ (fun hg => ?_) ?_
 rotate_left
 ·iterate 3 refine Gn hg ?_
  refine Bh rfl rfl rfl (by rw [hg]; rfl) rfl rfl rfl rfl (f44 Z4 f.dummies 43 [] U (by simp at hg; omega) (fun a _ => f43 a U)) ?_
  exact Ez
 refine G ?_;refine TOr 3 ?_ (fun hg => ?_) ?_
 rotate_left
 ·iterate 2 refine Gn hg ?_
  refine Bh rfl rfl rfl (by rw [hg]; rfl) rfl rfl rfl rfl (f31 Aoy f.proof 45 [] U (by simp at hg; omega) (fun a _ => f45 a U)) ?_
  exact Ez
 refine G3 ?_;refine Bb hw rfl ?_;exact rfl
theorem f9 (d : Db) (frames words : Int) (U : Sto) (h1 : frames < 1000000) (h2 : words < 1000000) : Cv 9 [dbV d,iV frames,iV words] U (.bool (Ai9 d frames words)) := by
 refine An Tryz.func9 rfl rfl fun hw _ => ?_
 refine G12 ?_;refine O1 (T9 okC rfl rfl) ?_;refine G ?_;refine TAn 4 ?_ (fun hg => ?_) ?_
 rotate_left
 ·iterate 3 refine Gn hg ?_
  refine On hg (T9 (q := 200) okC rfl rfl) ?_;exact Ez
 refine G ?_;refine TAn 4 ?_ (fun hg => ?_) ?_
 rotate_left
 ·iterate 3 refine Gn hg ?_
  refine On hg (T9 (q := 60) okC rfl rfl) ?_;exact Ez
 refine G ?_;refine TAn 5 ?_ (fun hg => ?_) ?_
 rotate_left
 ·iterate 3 refine Gn hg ?_
  refine Bh rfl rfl rfl (by rw [hg]; rfl) rfl rfl rfl rfl (f41 (bigF words) d.frames 42 [.pv [iV words]] U (by simp at hg; omega) (fun a _ => f42 a words U h2)) ?_
  refine Gn hg ?_;exact Ez
 refine G3 ?_;refine Bb hw rfl ?_;exact rfl
theorem f46n (lb : Str) (ks : List Ah) (n : Int) (U : Sto) (a : Nat) (hn : 0 <= n) (hn2 : n <= 1000) (hc : U.cells a = some [.fn (.func 46) [] [.pr a 0]])
  (ih : ∀ t ∈ ks,∀ (n : Int),0 <= n -> n <= 1000 -> Cv 46 [Ap t,iV n,.pr a 0] U (iV (Lz t n))) : Cv 46 [Ap (.node lb ks),iV n,.pr a 0] U (iV (Lz (.node lb ks) n)) := by
 simp only [Ap,Cc];refine An Tryz.func46 rfl rfl fun hw _ => ?_
 refine G8 ?_;refine O1 (Ps (p := n) (q := 1) okC rfl rfl Om Om) ?_;refine G8 ?_
 refine B3 (α := Nat × Int) (fun x => [(1,iV x.2),(2,.pr a 0),(3,.pv [sV lb,slV eT 2 ks]),(6,iV (.ofNat x.1))]) (fun x U' => U' = U /\ x.1 <= ks.length /\ -1 <= x.2 /\ x.2 + x.1 <= n - 1 /\ M8 ks (n - 1) = M8 (ks.drop x.1) x.2) (fun x => ks.length - x.1) (0,n - 1) SL ⟨rfl,by omega,by omega,by simp,rfl⟩ ?_  -- reads [6,3,10,11,9,12,13,1,15,14,16,17,2,21,22,23,24,20,25,26,27,18,19]
 rintro ⟨i,left⟩ U' ⟨rfl,hi,hl1,hl2,hf⟩;simp only at hi hl1 hl2 hf;refine G9 ?_;refine TAn 2 ?_ (fun hg => ?_) ?_
 rotate_left
 ·iterate 2 refine Gn hg ?_
  exact Ez
 refine G ?_;refine Ab rfl ?_ ?_ <;> intro h
 ·have hlt : i < ks.length /\ 0 <= left := by simpa using h
  obtain ⟨k,hk⟩ : ∃ k,ks[i]? = some k := ⟨_,an_ hlt.1⟩
  have hd : ks.drop i = k :: ks.drop (i + 1) := by
   obtain ⟨h1,rfl⟩ := aa_.1 hk;exact aw_ h1
  have hfk := Akr k left hlt.2;refine G3 ?_;refine XS (l := [(46,[Ap k,iV left,.pr a 0],U',iV (Lz k left),U')]) ⟨ih k (ae_ hk) left hlt.2 Om,trivial⟩ ?_
  refine DF (Ad (cs := [.fn (.func 46) [] [.pr a 0]]) ldC rfl (by simp [Bk,hc]) rfl) ?_
  refine G3 ?_;refine DF (Ax elC eT_len rfl rfl hk) (DF (Ad ldC rfl rfl (Ba (eT_len k) _)) ?_);refine G6 ?_;refine O1 (Dg (p := i) (q := 1) okC rfl rfl Om) ?_;refine G2 ?_
  refine ⟨(i + 1,Lz k left),by simp only; omega,SL,rfl,by simp only; omega,hfk.1,by simp only; omega,?_⟩
  rw [hf,hd,Amn,if_pos hlt.2]
 ·refine G7 ?_;refine Bb hw rfl ?_
  have hh : ks.length <= i ∨ left < 0 := by
   have : ¬ (i < ks.length /\ 0 <= left) := by simpa using h
   omega
  unfold Lz;rw [hf]
  rcases hh with hh | hh
  ·rw [ah_ hh]; unfold M8; rfl
  ·rw [Age hh]; rfl
theorem f46 : ∀ (t : Ah) (n : Int) (U : Sto) (a : Nat),0 <= n -> n <= 1000 -> U.cells a = some [.fn (.func 46) [] [.pr a 0]] -> Cv 46 [Ap t,iV n,.pr a 0] U (iV (Lz t n)) := by
 intro t n U a
 revert n
 refine Ah.ind' (P := fun t => ∀ n : Int,0 <= n -> n <= 1000 -> U.cells a = some [.fn (.func 46) [] [.pr a 0]] -> Cv 46 [Ap t,iV n,.pr a 0] U (iV (Lz t n))) ?_ t
 intro l ks ih n h1 h2 hc;exact f46n l ks n U a h1 h2 hc fun t ht n h1 h2 => ih t ht n h1 h2 hc
def Aja (t : Ah) (most : Int) : Bool := decide (0 <= Lz t most)
theorem f10 (t : Ah) (most : Int) (U : Sto) (h0 : 0 <= most) (h1 : most <= 1000) : Cv 10 [Ap t,iV most] U (.bool (Aja t most)) := by
 refine An Tryz.func10 rfl rfl fun hw _ => ?_
 refine G7 ?_;refine O1 (Ct ziC) ?_;refine G4 ?_;refine O1 (Aw (vs := [.nil .nilFunc]) (vs' := [.fn (.func 46) [] [.pr (nx U) 0]]) ldC rfl rfl rfl Cf rfl) ?_;refine G3 ?_
 refine O1 (Ad (cs := [.fn (.func 46) [] [.pr (nx U) 0]]) ldC rfl (by simp [Bk,Sto.cells,a_]) rfl) ?_
 refine G2 ?_
 refine Ag rfl rfl rfl rfl (f46 t most _ (nx U) h0 h1 (by simp [Sto.cells,a_])) ?_
 refine G4 ?_;refine ⟨_,rfl,_,_,as_ hw ((Below.rfl'.new nl _).set nl _),nl,.same rfl,?_,rfl⟩;exact rfl
def Z5 (p : Ah -> Ah -> Bool) : List Ah -> List Ah -> Bool
 | [],_ => true
 | a :: r,b :: s => p a b && Z5 p r s
 | _ :: _,[] => false
def eqBy (p : Ah -> Ah -> Bool) (l m : List Ah) : Bool := !(!decide (Int.ofNat l.length = Int.ofNat m.length)) && Z5 p l m
theorem f62 (p : Ah -> Ah -> Bool) (l m : List Ah) (k : Nat) (U : Sto) (hb : l.length < 4611686018427387904) (hk : ∀ a ∈ l,∀ b ∈ m,Cv k [Ap a,Ap b] U (.bool (p a b))) : Cv 62 [slV eT 2 l,slV eT 2 m,.fn (.func k) [] []] U (.bool (eqBy p l m)) := by
 refine An Tryz.func62 rfl rfl fun hw _ => ?_
 iterate 13 refine G ?_
 refine Ab rfl ?_ ?_ <;> intro h
 ·refine G5 ?_;refine Bb hw rfl ?_;simp only [eqBy,h]; rfl
 ·have bv : l.length = m.length := by
   have h0 : (l.length : Int) = m.length := by simpa using h
   omega
  refine G9 ?_;refine Bq l.length (fun i => [(1,slV eT 2 m),(2,.fn (.func k) [] []),(15,slV eT 2 l),(16,iV (.ofNat l.length)),(17,iV (.ofNat i))]) (fun i U' => U' = U /\ Z5 p l m = Z5 p (l.drop i) (m.drop i)) SL ⟨rfl,rfl⟩ ?_  -- reads [17,16,18,15,20,19,8,21,1,7,22,23,24,9,25,2,26,27,28,29,30,31]
  rintro i U' hi ⟨rfl,hf⟩;refine G5 ?_;refine Ab rfl ?_ ?_ <;> intro h1
  ·have hlt : i < l.length := by simpa using h1
   obtain ⟨a,ha⟩ : ∃ a,l[i]? = some a := ⟨_,an_ hlt⟩;obtain ⟨b,hb'⟩ : ∃ b,m[i]? = some b := ⟨_,an_ Om⟩
   have hd : l.drop i = a :: l.drop (i + 1) := by
    obtain ⟨h1,rfl⟩ := aa_.1 ha;exact aw_ h1
   have hd' : m.drop i = b :: m.drop (i + 1) := by
    obtain ⟨h1,rfl⟩ := aa_.1 hb';exact aw_ h1
   refine G6 ?_;refine O1 (Ax elC eT_len rfl rfl ha) (O1 (Ad ldC rfl rfl (Ba (eT_len a) _)) (M5 ziC ldC rfl rfl (fun _ => rfl) rfl (fun _ => rfl) rfl (A1 (eT_len a)) rfl rfl rfl ?_))
   refine G5 ?_;refine O1 (Ax elC eT_len rfl rfl hb') (O1 (Ad ldC rfl rfl (Ba (eT_len b) _)) (Dh ziC ldC rfl (fun _ => rfl) rfl (A1 (eT_len b)) rfl rfl ?_))
   refine G6 ?_;refine Ag rfl rfl rfl rfl (hk a (ae_ ha) b (ae_ hb')) ?_;refine G2 ?_;refine Ab rfl ?_ ?_ <;> intro h2
   ·refine G5 ?_;refine Bb hw rfl ?_
    have h2 : p a b = false := by simpa using h2
    simp only [eqBy,h,hf,hd,hd',Z5,h2,Bool.false_and,Bool.and_false]; rfl
   ·refine G2 ?_;refine O1 (Dg (p := i) (q := 1) okC rfl rfl Om) ?_;refine G2 ?_;refine ⟨hlt,SL,rfl,?_⟩
    have h2 : p a b = true := by simpa using h2
    rw [hf,hd,hd']; simp only [Z5,h2,Bool.true_and]
  ·have hge : l.length <= i := by simpa using h1
   refine G6 ?_;refine Bb hw rfl ?_;simp only [eqBy,h,hf,ah_ hge,Z5]; rfl
mutual
def eqT : Ah -> Ah -> Bool
 | .node a k,.node b l => decide (a = b) && (!(!decide (Int.ofNat k.length = Int.ofNat l.length)) && Z6 k l)
def Z6 : List Ah -> List Ah -> Bool
 | [],_ => true
 | a :: r,b :: s => eqT a b && Z6 r s
 | _ :: _,[] => false
end
theorem Agq : ∀ l m,Z6 l m = Z5 eqT l m
 | [],_ => by simp [Z6,Z5]
 | a :: r,b :: s => by simp [Z6,Z5,Agq r s]
 | _ :: _,[] => by simp [Z6,Z5]
theorem f14n (la lb : Str) (ka kb : List Ah) (U : Sto) (hb : ka.length < 4611686018427387904) (ih : ∀ a ∈ ka,∀ b ∈ kb,Cv 14 [Ap a,Ap b] U (.bool (eqT a b))) : Cv 14 [Ap (.node la ka),Ap (.node lb kb)] U (.bool (eqT (.node la ka) (.node lb kb))) := by
 simp only [Ap,Cc];refine An Tryz.func14 rfl rfl fun hw _ => ?_
 iterate 14 refine G ?_
 refine TAn 5 ?_ (fun hg => ?_) ?_
 rotate_left
 ·iterate 4 refine Gn hg ?_
  refine Bh rfl rfl rfl (by rw [hg]; rfl) rfl rfl rfl rfl (f62 eqT ka kb 14 U hb ih) ?_
  exact Ez
 refine G3 ?_;refine Bb hw rfl ?_;rw [eqT,Agq]; rfl
theorem f14 : ∀ (t u : Ah) (U : Sto),Tf t = true -> Cv 14 [Ap t,Ap u] U (.bool (eqT t u)) := by
 intro t u U
 revert u
 refine Ah.ind' (P := fun t => ∀ u,Tf t = true -> Cv 14 [Ap t,Ap u] U (.bool (eqT t u))) ?_ t
 intro l ks ih u hw;obtain ⟨lu,ku⟩ := u;obtain ⟨h1,h2⟩ := Aiy hw;exact f14n l lu ks ku U h1 fun a ha b _ => ih a ha b (h2 a ha)
theorem f18 (s : Str) (U : Sto) : Cv 18 [sV s] U (Ap (.node s [])) := by
 refine An Tryz.func18 rfl rfl fun hw _ => ?_
 refine G2 ?_;refine O1 (Ct ziC) ?_;refine G5 ?_;refine O1 (Aw (vs := [.str [],.nil (.slice none 0 0)]) (vs' := [sV s,.nil (.slice none 0 0)]) ldC rfl rfl rfl Cf rfl) ?_;refine G2 ?_
 exact ⟨_,Bj (vs := [sV s,.nil (.slice none 0 0)]) (ldC (t := 28)) rfl (by simp [Sto.cells,a_]) rfl rfl,_,U,as_ hw ((Below.rfl'.new nl _).set nl _),nl,.agg (.cons (.same rfl) (.cons Dr .nil)),rfl,rfl⟩
theorem f100 (s : Sb) (l : Str) (U : Sto) : Cv 100 [.agg (eS s),.pv [sV l]] U (.bool (decide (s.label = l))) := by
 refine An Tryz.func100 rfl rfl fun hw _ => ?_
 refine G2 ?_;refine Fa ldC rfl (A1 (eS_len s)) rfl ?_;refine G11 ?_;refine Bb hw rfl ?_;exact rfl
def Dv (l : List Sb) (s : Str) : Option Ah := match l with
 | [] => none
 | a :: r => if a.label = s then some a.tree else Dv r s
theorem Z7 {s : Str} : ∀ {l : List Sb} {i : Nat},A2 (fun a => decide (a.label = s)) l i < 0 -> Dv l s = none
 | [],_,_ => rfl
 | a :: r,i,h => by
  unfold A2 at h
  by_cases ha : a.label = s
  ·rw [decide_eq_true ha,cond_true] at h; exact absurd h (by simp)
  ·rw [decide_eq_false ha,cond_false] at h;unfold Dv; rw [if_neg ha]; exact Z7 h
theorem Z8 {s : Str} : ∀ {l : List Sb} {i : Nat},¬ A2 (fun a => decide (a.label = s)) l i < 0 -> ∃ n a,A2 (fun a => decide (a.label = s)) l i = Int.ofNat (i + n) /\ l[n]? = some a /\ Dv l s = some a.tree
 | [],_,h => by simp [A2] at h
 | a :: r,i,h => by
  unfold A2 at h ⊢
  by_cases ha : a.label = s
  ·rw [decide_eq_true ha,cond_true]; exact ⟨0,a,rfl,rfl,by unfold Dv; rw [if_pos ha]⟩
  ·rw [decide_eq_false ha,cond_false] at h ⊢;obtain ⟨n,b,h1,h2,h3⟩ := Z8 h
   exact ⟨n + 1,b,by rw [h1]; congr 1; omega,by simpa using h2,by unfold Dv; rw [if_neg ha]; exact h3⟩
def Ac3 : Option Ah -> AV
 | none => .tup [Ap (.node [] []),.bool false]
 | some t => .tup [Ap t,.bool true]
theorem Amt {N : Nat} (o : Option Ah) : AV.und N (Ac3 o) = true := by
 cases o with
 | none => rfl
 | some t => show (AV.und N (Ap t) && (true && true)) = true; rw [Zs]; rfl
theorem f54 (l : List Sb) (s : Str) (U : Sto) (hb : l.length < 4611686018427387904) : Cv 54 [slV eS 3 l,sV s] U (Ac3 (Dv l s)) := by
 refine An Tryz.func54 rfl rfl fun hw _ => ?_
 refine G3 ?_;refine O1 (Ct ziC) ?_;refine G6 ?_;refine Ag rfl rfl rfl rfl (f64 (fun a => decide (a.label = s)) l 100 [.pv [sV s]] _ hb (fun a _ => f100 a s _)) ?_
 refine G8 ?_;refine Ab rfl ?_ ?_ <;> intro h
 ·refine G3 ?_;refine O1 (Aw (vs := [.str [],.nil (.slice none 0 0)]) (vs' := [.str [],.nil (.slice none 0 0)]) ldC rfl rfl rfl Cf rfl) ?_;refine G3 ?_
  refine ⟨_,Bj (vs := [.str [],.nil (.slice none 0 0)]) (ldC (t := 28)) rfl (by simp [Sto.cells,a_]) rfl (Gy rfl rfl),Ac3 (Dv l s),U,as_ hw ((Below.rfl'.new nl _).set nl _),nl,?_,rfl,rfl⟩
  rw [Z7 (by simpa using h)]
  exact .tup (.cons (.agg (.cons (.same rfl) (.cons Dr .nil))) (.cons (.same rfl) .nil))
 ·obtain ⟨n,a,hn,ha,hfs⟩ := Z8 (by simpa using h)
  rw [bq_] at hn;rw [hn];refine G5 ?_;refine O1 (Ax elC eS_len rfl rfl ha) ?_;refine G ?_;refine O1 (Ad (v := Ap a.tree) ldC rfl rfl (Ba (eT_len a.tree) _)) (O1 (Aw (vs := [.str [],.nil (.slice none 0 0)]) (vs' := eT a.tree) ldC rfl rfl (A1 (eT_len _)) Cf (Fj (eT_len _))) ?_);refine G3 ?_
  refine ⟨_,Bj (vs := eT a.tree) (v := Ap a.tree) (ldC (t := 28)) rfl (by simp [Sto.cells,a_]) (Bt (eT_len _)) (Gy rfl rfl),Ac3 (Dv l s),U,as_ hw ((Below.rfl'.new nl _).set nl _),nl,?_,rfl,rfl⟩
  rw [hfs]; exact .same (Amt (some a.tree))
structure Kn where
 consts : SM Bool
 vars : SM Bool
 frames : SM Bool
 hyps : SM Hp
 types : SM Str
def hV (h : Hp) : AV := .agg (eH h)
def knV (m : Nat) : AV := .pv [.mp m,.mp (m + 1),.mp (m + 2),.mp (m + 3),.mp (m + 4)]
structure Gk (U : Sto) (m : Nat) (k : Kn) : Prop where
 c : E2 U m k.consts
 v : E2 U (m + 1) k.vars
 f : E2 U (m + 2) k.frames
 h : Bf hV U (m + 3) k.hyps
 t : Bf sV U (m + 4) k.types
def Kn.isSym (k : Kn) (s : Str) : Bool := k.consts.has s || k.vars.has s
theorem Agr (m : Nat) (k : Kn) (s : Str) (U : Sto) (hk : Gk U m k) : Cv 208 [knV m,sV s] U (.bool (k.isSym s)) := by
 refine An Tryz.func208 rfl rfl fun hw _ => ?_
 refine G11 ?_;refine O1 (Cx st9 Cg rfl hk.c rfl) ?_;refine G ?_;refine TOr 6 ?_ (fun hg => ?_) ?_
 rotate_left
 ·iterate 5 refine Gn hg ?_
  refine On hg (Cx st9 Cg rfl hk.v rfl) ?_;exact Ez
 refine G3 ?_;refine Bb hw rfl ?_;exact rfl
theorem f238 (m : Nat) (k : Kn) (s : Str) (U : Sto) (hk : Gk U m k) : Cv 238 [sV s,.pv [knV m]] U (.bool (!k.isSym s)) := by
 refine An Tryz.func238 rfl rfl fun hw _ => ?_
 refine G8 ?_;refine Ag rfl rfl rfl rfl (Agr m k s _ hk) ?_;refine G4 ?_;refine Bb hw rfl ?_;exact rfl
def Kn.textF (k : Kn) (l : List Str) : Int :=
 if l = [] ∨ (200 : Int) < Int.ofNat l.length then 2 else if (!k.consts.has (l.headD []) || l.tail.any fun s => !k.isSym s) then 12 else 0
theorem f212 (m : Nat) (k : Kn) (l : List Str) (U : Sto) (hk : Gk U m k) (hb : l.length < 4611686018427387904) : Cv 212 [knV m,Aq l] U (iV (k.textF l)) := by
 refine An Tryz.func212 rfl rfl fun hw _ => ?_
 iterate 13 refine G ?_
 refine TOr 3 ?_ (fun hg => ?_) ?_
 rotate_left
 ·iterate 3 refine Gn hg ?_
  exact Ez
 refine G2 ?_;refine Ab rfl ?_ ?_ <;> intro h
 ·refine G5 ?_;refine Bb hw rfl ?_
  rw [Kn.textF,if_pos (by cases l with | nil => exact .inl rfl | cons a r => right; simp at h ⊢; omega)]; rfl
 ·obtain ⟨a,r,rfl⟩ : ∃ a r,l = a :: r := by cases l with | nil => simp at h | cons a r => exact ⟨a,r,rfl⟩
  have hn : ¬ (a :: r = [] ∨ (200 : Int) < Int.ofNat (a :: r).length) := by simp at h ⊢; omega
  refine Gg [(14,.bool (!k.consts.has a || r.any fun s => !k.isSym s))] ?_ ?_
  ·rcases au_ (!k.consts.has a) with hg9 | hg9
   ·refine XS (l := []) trivial ?_;refine G5 ?_;refine DF (Ax (i := 0) elC (fun _ => rfl) rfl rfl rfl) ?_
    refine G ?_;refine DF (Cx st9 Cg rfl hk.c rfl) ?_;refine G2 ?_
    refine Wx (w := by simp [hg9]) ?_
    refine Wx (w := by simp [hg9]) ?_
    refine Wx (w := by simp [hg9]) ?_
    refine Rd (e := true) rfl rfl rfl rfl (by simp [hg9]) rfl rfl ?_
    refine DF (B8 rfl (by simp [hg9]) rfl) ?_
    refine G2 ?_
    exact ⟨⟨congrArg (fun b => some (AV.bool b)) (by simp [hg9]),trivial⟩,sb,rfl⟩
   ·refine XS (l := [(31,[Aq r,.fn (.func 238) [] [.pv [knV m]]],U,.bool (r.any fun s => !k.isSym s),U)]) ⟨f31 (fun s => !k.isSym s) r 238 [.pv [knV m]] U (by simp at hb ⊢; omega) (fun s _ => f238 m k s U hk),trivial⟩ ?_
    refine G5 ?_;refine DF (Ax (i := 0) elC (fun _ => rfl) rfl rfl rfl) ?_
    refine G ?_;refine DF (Cx st9 Cg rfl hk.c rfl) ?_;refine G2 ?_
    refine Wn (w := by simp [hg9]) (Al rfl) ?_
    refine Wn (w := by simp [hg9]) (Aek (a := 1) elC (fun _ => rfl) rfl rfl (by simp)) ?_
    refine Wn (w := by simp [hg9]) (Akc rfl rfl) ?_
    refine Ow (e := true) rfl rfl rfl rfl (by simp [hg9]) rfl rfl (Bg rfl rfl Bo) ?_
    refine DF (A7 rfl (by simp [hg9]) rfl) ?_
    refine G2 ?_
    exact ⟨⟨congrArg (fun b => some (AV.bool b)) (by simp [hg9]),trivial⟩,sb,rfl⟩
  refine Ab rfl ?_ ?_ <;> intro h
  ·refine G5 ?_;refine Bb hw rfl ?_
   rw [Kn.textF,if_neg hn,if_pos (by simpa using h)]; rfl
  ·refine G6 ?_;refine Bb hw rfl ?_
   rw [Kn.textF,if_neg hn,if_neg (by simpa using h)]; rfl
def Ags (m : Nat) (U U' : Sto) : Prop := nx U' = nx U /\ ∀ b,b < m ∨ m + 5 <= b -> U'.get b = U.get b
theorem Ags.refl {m : Nat} {U : Sto} : Ags m U U := ⟨rfl,fun _ _ => rfl⟩
theorem Ags.set {m a : Nat} {U U' : Sto} {o : AO} (h : Ags m U U') (h1 : m <= a) (h2 : a < m + 5) : Ags m U (U'.set a o) :=
 ⟨by rw [Ac]; exact h.1,fun b hb => by rw [a_,if_neg Om]; exact h.2 b hb⟩
def Nr (s : Str) : Bool := K6 [2,3] s
def Na : List Str -> Kn -> Int × Kn
 | [],k => (0,k)
 | c :: r,k => cond (!Nr c) (2,k) (cond (k.consts.has c) (6,k) (Na r { k with consts := k.consts.put c true }))
def O2 : List Str -> Kn -> Int × Kn
 | [],k => (0,k)
 | c :: r,k => cond (!Nr c) (2,k) (cond (k.isSym c) (6,k) (O2 r { k with vars := k.vars.put c true }))
theorem Ak1 : ∀ (l : List Str) (k : Kn),(Na l k).1 = 0 ∨ (Na l k).1 = 2 ∨ (Na l k).1 = 6
 | [],k => .inl rfl
 | c :: r,k => by unfold Na; cases Nr c <;> cases k.consts.has c <;> simp [Ak1 r]
def Jo (d : Db) (k : Kn) : Int × Kn := if (Na d.consts k).1 = 0 then O2 d.vars (Na d.consts k).2 else Na d.consts k
theorem Ay {α : Type} {l : List α} {i : Nat} {a : α} (ha : l[i]? = some a) : l.drop i = a :: l.drop (i + 1) := by
 obtain ⟨h1,rfl⟩ := aa_.1 ha;exact aw_ h1
theorem A6 {α : Type} {l : List α} {i : Nat} (h : i < l.length) : ∃ a,l[i]? = some a := ⟨_,an_ h⟩
theorem f181 (m : Nat) (k : Kn) (d : Db) (U : Sto) (hk : Gk U m k) (hb : d.consts.length < 4611686018427387904) (hb2 : d.vars.length < 4611686018427387904) : Ao Ew 181 [knV m,dbV d] U fun v U' => v = iV (Jo d k).1 /\ Ags m U U' /\ Gk U' m (Jo d k).2 := by
 refine An Tryz.func181 rfl rfl fun hw hu0 => ?_
 iterate 14 refine G ?_
 refine Bq d.consts.length (fun i0 => [(0,knV m),(3,.pv [Aq d.consts,Aq d.vars,slV eF 8 d.frames]),(10,Aq d.consts),(11,iV (.ofNat d.consts.length)),(12,iV (.ofNat i0))]) (fun i0 U0 => ∃ ki,Ags m U U0 /\ Gk U0 m ki /\ Na d.consts k = Na (d.consts.drop i0) ki) SL ⟨k,.refl,hk,rfl⟩ ?_
 rintro i0 U0 hi0 ⟨k0,hu0,hk0,hf0⟩;refine G5 ?_;refine Ab rfl ?_ ?_ <;> intro h1
 ·have bc : i0 < d.consts.length := by simpa using h1
  obtain ⟨a0,ha0⟩ := A6 bc;have hd0 := Ay ha0;obtain ⟨ver0,my⟩ := hk0.c
  iterate 13 refine G ?_
  refine Ag rfl rfl rfl rfl (Ams a0 _) ?_;refine G2 ?_;refine Ab rfl ?_ ?_ <;> intro h2
  ·refine G4 ?_;refine C3 fun hw' => ?_
   refine G ?_
   exact ⟨_,rfl,_,_,ag_ hw' nl (fun _ _ => rfl),by rw [hu0.1]; exact nl,.same rfl,by rw [Jo,hf0,hd0,Na,Nr,h2]; rfl,hu0,by rw [Jo,hf0,hd0,Na,Nr,h2]; exact hk0⟩
  ·refine G9 ?_;refine O1 (Cx st9 Cg rfl hk0.c rfl) ?_;refine G ?_;refine Ab rfl ?_ ?_ <;> intro h3
   ·refine G4 ?_;refine C3 fun hw' => ?_
    refine G ?_
    exact ⟨_,rfl,_,_,ag_ hw' nl (fun _ _ => rfl),by rw [hu0.1]; exact nl,.same rfl,by rw [Jo,hf0,hd0,Na,Nr,h2,h3]; rfl,hu0,by rw [Jo,hf0,hd0,Na,Nr,h2,h3]; exact hk0⟩
   ·refine G7 ?_
    refine O1 (Fl (v := true) st9 Cg rfl my rfl rfl (fun te k1 k2 => by first | exact Gt k1 k2 | exact Hk k1 k2 | exact Gu k1 k2 | exact H8 k1 k2 | exact F8 k1 k2 rfl)) ?_
    refine G5 ?_
    refine ⟨bc,SL,{ k0 with consts := k0.consts.put a0 true },hu0.set Om Om,⟨.put,hk0.v.set Om,hk0.f.set Om,hk0.h.set Om,hk0.t.set Om⟩,by rw [hf0,hd0,Na,Nr,h2,h3]; rfl⟩
 ·have bk : d.consts.length <= i0 := by simpa using h1
  have hs : Jo d k = O2 d.vars k0 := by rw [Jo,hf0,ah_ bk]; rfl
  refine G10 ?_;refine Bq d.vars.length (fun i2 => [(0,knV m),(32,Aq d.vars),(33,iV (.ofNat d.vars.length)),(34,iV (.ofNat i2))]) (fun i2 U2 => ∃ ki,Ags m U U2 /\ Gk U2 m ki /\ O2 d.vars k0 = O2 (d.vars.drop i2) ki) SL ⟨k0,hu0,hk0,rfl⟩ ?_
  rintro i2 U2 hi2 ⟨k2,hu2,hk2,hf2⟩;refine G5 ?_;refine Ab rfl ?_ ?_ <;> intro h2
  ·have bw : i2 < d.vars.length := by simpa using h2
   obtain ⟨a2,ha2⟩ := A6 bw;have hd2 := Ay ha2;obtain ⟨ver2,ml⟩ := hk2.v
   iterate 13 refine G ?_
   refine Ag rfl rfl rfl rfl (Ams a2 _) ?_;refine G2 ?_;refine Ab rfl ?_ ?_ <;> intro h3
   ·refine G4 ?_;refine C3 fun hw' => ?_
    refine G ?_
    exact ⟨_,rfl,_,_,ag_ hw' nl (fun _ _ => rfl),by rw [hu2.1]; exact nl,.same rfl,by rw [hs,hf2,hd2,O2,Nr,h3]; rfl,hu2,by rw [hs,hf2,hd2,O2,Nr,h3]; exact hk2⟩
   ·refine G6 ?_;refine Ag rfl rfl rfl rfl (Agr m k2 a2 _ hk2) ?_;refine G ?_;refine Ab rfl ?_ ?_ <;> intro h4
    ·refine G4 ?_;refine C3 fun hw' => ?_
     refine G ?_
     exact ⟨_,rfl,_,_,ag_ hw' nl (fun _ _ => rfl),by rw [hu2.1]; exact nl,.same rfl,by rw [hs,hf2,hd2,O2,Nr,h3,h4]; rfl,hu2,by rw [hs,hf2,hd2,O2,Nr,h3,h4]; exact hk2⟩
    ·refine G7 ?_
     refine O1 (Fl (v := true) st9 Cg rfl ml rfl rfl (fun te k1 k2 => by first | exact Gt k1 k2 | exact Hk k1 k2 | exact Gu k1 k2 | exact H8 k1 k2 | exact F8 k1 k2 rfl)) ?_
     refine G5 ?_
     refine ⟨bw,SL,{ k2 with vars := k2.vars.put a2 true },hu2.set Om Om,⟨hk2.c.set Om,.put,hk2.f.set Om,hk2.h.set Om,hk2.t.set Om⟩,by rw [hf2,hd2,O2,Nr,h3,h4]; rfl⟩
  ·have b6 : d.vars.length <= i2 := by simpa using h2
   refine G5 ?_;refine C3 fun hw' => ?_
   refine G ?_
   exact ⟨_,rfl,_,_,ag_ hw' nl (fun _ _ => rfl),by rw [hu2.1]; exact nl,.same rfl,by rw [hs,hf2,ah_ b6]; rfl,hu2,by rw [hs,hf2,ah_ b6]; exact hk2⟩
theorem ok301 : okI Ew.P 301 = true := Kr
theorem bo4 : Xq Ew.P 4 = true := Kr
theorem B7 {α : Type} {l : List α} {i : Nat} {a : α} (ha : l[i]? = some a) : l.take (i + 1) = l.take i ++ [a] := by rw [List.take_add_one,ha]; rfl
theorem keyP (p : Pr) : Er Ew.P 301 (.agg (eP p)) = some (.agg [kS p.a,kS p.b]) := Kr
theorem Ak2 (p q : Pr) : Key.eq (.agg [kS p.a,kS p.b]) (.agg [kS q.a,kS q.b]) = decide (p = q) := by
 show cond (Key.eq (kS p.a) (kS q.a)) (cond (Key.eq (kS p.b) (kS q.b)) true false) false = _
 rw [Aco,Aco];obtain ⟨a,b⟩ := p;obtain ⟨c,d⟩ := q
 by_cases h1 : a = c <;> by_cases h2 : b = d <;> simp [h1,h2]
theorem f35 (l m : List Str) (U : Sto) (hb : m.length < 4611686018427387904) : Cv 35 [Aq l,Aq m] U (.bool (decide (l = m))) := by
 refine An Tryz.func35 rfl rfl fun hw hu0 => ?_
 iterate 13 refine G ?_
 refine Ab rfl ?_ ?_ <;> intro h1
 ·refine G5 ?_;refine Bb hw rfl ?_
  exact congrArg AV.bool (decide_eq_false (fun hh => by subst hh; simp at h1)).symm
 ·have bv : l.length = m.length := by simp at h1; omega
  refine G9 ?_;refine Bq l.length (fun i0 => [(0,Aq l),(1,Aq m),(12,iV (.ofNat l.length)),(13,iV (.ofNat i0))]) (fun i0 U0 => U0 = U /\ l.take i0 = m.take i0) SL ⟨rfl,rfl⟩ ?_
  rintro i0 U0 hi0 ⟨rfl,hf0⟩;refine G5 ?_;refine Ab rfl ?_ ?_ <;> intro h2
  ·have bc : i0 < l.length := by simpa using h2
   obtain ⟨a0,ha0⟩ := A6 bc;have hd0 := Ay ha0
   obtain ⟨b,hb0⟩ := A6 (show i0 < m.length by omega)
   refine G9 ?_;refine X0 ?_;refine G8 ?_;refine DF (Ey okC rfl rfl) ?_;refine G ?_;refine ⟨rfl,rfl,?_⟩;refine Ab rfl ?_ ?_ <;> intro h3
   ·refine G5 ?_;refine Bb hw rfl ?_
    exact congrArg AV.bool (decide_eq_false (fun hh => by
     have h4 : a0 ≠ b := (by simpa using h3)
     subst hh; rw [ha0] at hb0; cases hb0; exact h4 rfl)).symm
   ·refine G5 ?_
    refine ⟨bc,SL,rfl,(have h4 : a0 = b := (by simpa using h3); by rw [B7 ha0,B7 hb0,hf0,h4])⟩
  ·have bk : l.length <= i0 := by simpa using h2
   refine G6 ?_;refine Bb hw rfl ?_
   exact congrArg AV.bool (decide_eq_true (by rw [av_ bk,av_ Om] at hf0; exact hf0)).symm
theorem f242 (l m : List Pr) (U : Sto) (hb : m.length < 4611686018427387904) : Cv 242 [slV eP 2 l,slV eP 2 m] U (.bool (decide (l = m))) := by
 refine An Tryz.func242 rfl rfl fun hw hu0 => ?_
 iterate 13 refine G ?_
 refine Ab rfl ?_ ?_ <;> intro h1
 ·refine G5 ?_;refine Bb hw rfl ?_
  exact congrArg AV.bool (decide_eq_false (fun hh => by subst hh; simp at h1)).symm
 ·have bv : l.length = m.length := by simp at h1; omega
  refine G9 ?_;refine Bq l.length (fun i0 => [(0,slV eP 2 l),(1,slV eP 2 m),(12,iV (.ofNat l.length)),(13,iV (.ofNat i0))]) (fun i0 U0 => U0 = U /\ l.take i0 = m.take i0) SL ⟨rfl,rfl⟩ ?_
  rintro i0 U0 hi0 ⟨rfl,hf0⟩;refine G5 ?_;refine Ab rfl ?_ ?_ <;> intro h2
  ·have bc : i0 < l.length := by simpa using h2
   obtain ⟨a0,ha0⟩ := A6 bc;have hd0 := Ay ha0
   obtain ⟨b,hb0⟩ := A6 (show i0 < m.length by omega)
   refine G9 ?_;refine X0 ?_;refine G8 ?_;refine DF (As1 ok301 rfl rfl rfl rfl (keyP a0) (keyP b)) ?_;refine G ?_;refine ⟨rfl,rfl,?_⟩;refine Ab rfl ?_ ?_ <;> intro h3
   ·refine G5 ?_;refine Bb hw rfl ?_
    exact congrArg AV.bool (decide_eq_false (fun hh => by
     have h4 : a0 ≠ b := (by rw [Ak2] at h3; simpa using h3)
     subst hh; rw [ha0] at hb0; cases hb0; exact h4 rfl)).symm
   ·refine G5 ?_
    refine ⟨bc,SL,rfl,(have h4 : a0 = b := (by rw [Ak2] at h3; simpa using h3); by rw [B7 ha0,B7 hb0,hf0,h4])⟩
  ·have bk : l.length <= i0 := by simpa using h2
   refine G6 ?_;refine Bb hw rfl ?_
   exact congrArg AV.bool (decide_eq_true (by rw [av_ bk,av_ Om] at hf0; exact hf0)).symm
def Ak3 (a b : Hp) : Bool := decide (a.label = b.label) && (a.floating == b.floating) && decide (a.text = b.text)
theorem f187 (a b : Hp) (U : Sto) (hb : b.text.length < 4611686018427387904) : Cv 187 [.agg (eH a),.agg (eH b)] U (.bool (Ak3 a b)) := by
 refine An Tryz.func187 rfl rfl fun hw hu0 => ?_
 iterate 14 refine G ?_
 refine TAn 5 ?_ (fun hg => ?_) ?_
 rotate_left
 ·iterate 4 refine Gn hg ?_
  refine On hg (As0 bo4 rfl rfl) ?_;exact Ez
 refine G ?_;refine TAn 5 ?_ (fun hg => ?_) ?_
 rotate_left
 ·iterate 4 refine Gn hg ?_
  refine Bh rfl rfl rfl (by rw [hg]; rfl) rfl rfl rfl rfl (f35 a.text b.text _ hb) ?_
  exact Ez
 refine G3 ?_;refine Bb hw rfl ?_;exact rfl
theorem f223 (l : List Str) (U : Sto) (hb : l.length < 1000000) : Cv 223 [Aq l] U (Aq l) := by
 refine An Tryz.func223 rfl rfl fun hw hu0 => ?_
 refine G8 ?_;refine Zl slC rfl rfl fun b hbn => ?_
 refine G ?_;refine Ab rfl ?_ ?_ <;> intro h1
 ·refine G4 ?_;obtain rfl := bl_ (hbn h1);refine G ?_;exact ⟨_,rfl,Aq [],U,ag_ hw nl (fun _ _ => rfl),nl,Dr,rfl,rfl⟩
 ·refine G3 ?_
  obtain ⟨v,τ,cu,bp,bt,_⟩ := ea_ (enc := fun s : Str => [sV s]) (sz := 1) (l := ([] : List Str)) (by' := 16) (N := nx U) (fun s => rfl) nl (Own.emp (enc := fun s : Str => [sV s]) (sz := 1)) l (by simp [sizeLim]; omega)
  refine O1 (As elC byW rfl rfl rfl) ?_;refine G ?_;refine O1 (A3 elC rfl slC rfl rfl rfl (Vl (enc := fun s : Str => [sV s]) (sz := 1) (fun _ => rfl) _ l) cu) ?_
  refine G3 ?_;exact ⟨_,rfl,Aq l,U,as_ hw bt,nl,bp.fz (fun _ => rfl) (fun a ha => hw.none ha) (Bi (fun _ => rfl) l),rfl,rfl⟩
theorem f220 (l : List Hp) (U : Sto) (hb : l.length < 1000000) : Ao Ew 220 [slV eH 3 l] U fun v U' => Own U' (nx U) eH 3 l v /\ Below (nx U) U U' := by
 refine An Tryz.func220 rfl rfl fun hw hu0 => ?_
 refine G8 ?_;refine Zl slC rfl rfl fun b hbn => ?_
 refine G ?_;refine Ab rfl ?_ ?_ <;> intro h1
 ·refine G4 ?_;obtain rfl := bl_ (hbn h1);refine G ?_;exact ⟨_,rfl,_,U,ag_ hw nl (fun _ _ => rfl),nl,.same rfl,.nil,.rfl'⟩
 ·refine G3 ?_
  obtain ⟨v,τ,cu,bp,bt,_⟩ := ea_ (enc := eH) (sz := 3) (l := ([] : List Hp)) (by' := 48) (N := nx U) (fun s => rfl) nl (Own.emp (enc := eH) (sz := 3)) l (by simp [sizeLim]; omega)
  refine O1 (As elC byW rfl rfl rfl) ?_;refine G ?_;refine O1 (A3 elC rfl slC rfl rfl rfl (Vl (enc := eH) (sz := 3) (fun _ => rfl) _ l) cu) ?_
  refine G2 ?_;refine C3 fun hw' => Ar4 (i := 2) rfl fun hu => ?_
  refine G ?_;exact ⟨_,rfl,_,_,ag_ hw' nl (fun _ _ => rfl),bt.1,.same hu,bp,bt⟩
theorem f265 (l : List Pr) (U : Sto) (hb : l.length < 1000000) : Ao Ew 265 [slV eP 2 l] U fun v U' => Own U' (nx U) eP 2 l v /\ Below (nx U) U U' := by
 refine An Tryz.func265 rfl rfl fun hw hu0 => ?_
 refine G8 ?_;refine Zl slC rfl rfl fun b hbn => ?_
 refine G ?_;refine Ab rfl ?_ ?_ <;> intro h1
 ·refine G4 ?_;obtain rfl := bl_ (hbn h1);refine G ?_;exact ⟨_,rfl,_,U,ag_ hw nl (fun _ _ => rfl),nl,.same rfl,.nil,.rfl'⟩
 ·refine G3 ?_
  obtain ⟨v,τ,cu,bp,bt,_⟩ := ea_ (enc := eP) (sz := 2) (l := ([] : List Pr)) (by' := 32) (N := nx U) (fun s => rfl) nl (Own.emp (enc := eP) (sz := 2)) l (by simp [sizeLim]; omega)
  refine O1 (As elC byW rfl rfl rfl) ?_;refine G ?_;refine O1 (A3 elC rfl slC rfl rfl rfl (Vl (enc := eP) (sz := 2) (fun _ => rfl) _ l) cu) ?_
  refine G2 ?_;refine C3 fun hw' => Ar4 (i := 2) rfl fun hu => ?_
  refine G ?_;exact ⟨_,rfl,_,_,ag_ hw' nl (fun _ _ => rfl),bt.1,.same hu,bp,bt⟩
theorem K7 {α : Type} {p : α -> Bool} : ∀ (l : List α) (i : Nat),(A2 p l i = -1 /\ ∀ a ∈ l,p a = false) ∨ ∃ n a,A2 p l i = Int.ofNat (i + n) /\ l[n]? = some a /\ p a = true /\ ∀ b ∈ l.take n,p b = false
 | [],i => .inl ⟨rfl,fun a ha => by simp at ha⟩
 | a :: r,i => by
  unfold A2;cases hp : p a with
  | true => exact .inr ⟨0,a,rfl,rfl,hp,fun b hb => by simp at hb⟩
  | false =>
   rcases K7 (p := p) r (i + 1) with ⟨h1,h2⟩ | ⟨n,b,h1,h2,h3,h4⟩
   ·refine .inl ⟨by rw [cond_false]; exact h1,fun b hb => ?_⟩
    rcases aq_.1 hb with rfl | hb
    ·exact hp
    ·exact h2 b hb
   ·refine .inr ⟨n + 1,b,by rw [cond_false,h1]; congr 1; omega,by simpa using h2,h3,fun c hc => ?_⟩
    rw [fq_] at hc
    rcases aq_.1 hc with rfl | hc
    ·exact hp
    ·exact h4 c hc
def D9 {α : Type} (p : α -> Bool) (l : List α) : List α := l.filter fun x => !p x
theorem Z9 {α : Type} {p : α -> Bool} {l : List α} (h : ∀ a ∈ l,p a = false) : D9 p l = l := et_.2 fun a ha => by simp [h a ha]
theorem P5 {α : Type} {p : α -> Bool} {l : List α} {a : α} : D9 p (l ++ [a]) = D9 p l ++ (if p a then [] else [a]) := by
 unfold D9; rw [fy_]; cases h : p a <;> simp [h]
theorem Hb {α : Type} {p : α -> Bool} {l : List α} : (D9 p l).length <= l.length := dt_ _ _
structure Tj {α : Type} (p : α -> Bool) (l c : List α) (j : Nat) : Prop where
 len : c.length = l.length
 fst : c.take (D9 p (l.take j)).length = D9 p (l.take j)
 snd : c.drop j = l.drop j
theorem Tj.start {α : Type} {p : α -> Bool} {l : List α} {n : Nat} {a : α} (h1 : l[n]? = some a) (h2 : p a = true) (h3 : ∀ b ∈ l.take n,p b = false) : (D9 p (l.take (n + 1))).length = n /\ Tj p l l (n + 1) := by
 have h : D9 p (l.take (n + 1)) = l.take n := by rw [B7 h1,P5,Z9 h3,if_pos h2,bi_]
 have hn := (aa_.1 h1).1
 have h4 : (D9 p (l.take (n + 1))).length = n := by rw [h,bn_,gw_ (ef_ hn)]
 exact ⟨h4,rfl,by rw [h4,h],rfl⟩
theorem Tj.at {α : Type} {p : α -> Bool} {l c : List α} {j : Nat} (h : Tj p l c j) : c[j]? = l[j]? := by
 have := congrArg (fun k : List α => k[0]?) h.snd
 simpa using this
theorem Tj.out {α : Type} {p : α -> Bool} {l c : List α} {j : Nat} {a : α} (h : Tj p l c j) (ha : l[j]? = some a) (hp : p a = true) : (D9 p (l.take (j + 1))).length = (D9 p (l.take j)).length /\ Tj p l c (j + 1) := by
 have h1 : D9 p (l.take (j + 1)) = D9 p (l.take j) := by rw [B7 ha,P5,if_pos hp,bi_]
 refine ⟨by rw [h1],h.len,by rw [h1]; exact h.fst,?_⟩
 have := congrArg (List.drop 1) h.snd
 simpa [dh_,fz_] using this
theorem Tj.keep {α : Type} {p : α -> Bool} {l c : List α} {j : Nat} {a : α} (h : Tj p l c j) (ha : l[j]? = some a) (hp : p a = false) :
  (D9 p (l.take (j + 1))).length = (D9 p (l.take j)).length + 1 /\ (D9 p (l.take j)).length < c.length /\ Tj p l (c.set (D9 p (l.take j)).length a) (j + 1) := by
 have hj := (aa_.1 ha).1
 have h1 : D9 p (l.take (j + 1)) = D9 p (l.take j) ++ [a] := by rw [B7 ha,P5,if_neg (by simp [hp])]
 have hw : (D9 p (l.take j)).length <= j := ax_ Hb (by rw [bn_]; omega)
 have hlt : (D9 p (l.take j)).length < c.length := by rw [h.len]; omega
 refine ⟨by rw [h1,ao_]; rfl,hlt,by rw [bz_]; exact h.len,?_,?_⟩
 ·rw [h1,ao_,bv_,B7 (a := a) (by rw [dg_ hlt]),List.take_set_of_le nl,h.fst]
 ·rw [List.drop_set_of_lt Om];have := congrArg (List.drop 1) h.snd
  simpa [dh_,fz_] using this
theorem f97o (p : Hp -> Bool) (l : List Hp) (a : Nat) (tl : List AV) (k : Nat) (cap : List AV) (U : Sto) (hb : l.length < 1000000) (hg : U.get a = some (.cells (l.flatMap eH ++ tl))) (hk : ∀ x ∈ l,Ao Ew k ([.agg (eH x)] ++ cap) U fun v U' => v = .bool (p x) /\ U' = U) : Cv 97 [.sr a 0 3 l.length none,.fn (.func k) [] cap] U (iV (A2 p l 0)) := by
 refine An Tryz.func97 rfl rfl fun hw hu0 => ?_
 refine G8 ?_;refine O1 (B0 slC rfl rfl rfl) ?_;refine G3 ?_;refine Bq l.length (fun i0 => [(0,.sr a 0 3 l.length none),(1,.fn (.func k) [] cap),(7,iV (.ofNat l.length)),(8,iV (.ofNat i0))]) (fun i0 U0 => U0 = U /\ A2 p l 0 = A2 p (l.drop i0) i0) SL ⟨rfl,rfl⟩ ?_
 rintro i0 U0 hi0 ⟨rfl,hf0⟩;refine G5 ?_;refine Ab rfl ?_ ?_ <;> intro h1
 ·have bc : i0 < l.length := by simpa using h1
  obtain ⟨a0,ha0⟩ := A6 bc;have hd0 := Ay ha0
  iterate 13 refine G ?_
  refine O1 (Cj elC rfl rfl bc) (O1 (Jn (enc := eH) (v := .agg (eH a0)) (fun _ => rfl) ldC rfl hg ha0 (fun _ => rfl)) ?_)
  refine Ag rfl rfl rfl rfl (hk a0 (ae_ ha0)) ?_;refine G ?_;refine Ab rfl ?_ ?_ <;> intro h2
  ·refine G6 ?_;refine Bb hw rfl ?_
   exact (by rw [hf0,hd0]; simp only [A2,h2,cond_true]; rfl)
  ·refine G5 ?_
   refine ⟨bc,SL,rfl,by rw [hf0,hd0]; simp only [A2,h2,cond_false]⟩
 ·have bk : l.length <= i0 := by simpa using h1
  refine G6 ?_;refine Bb hw rfl ?_
  exact (by rw [hf0,ah_ bk]; rfl)
theorem f219e (k : Nat) (cap : List AV) (v₀ : AV) (hv : v₀ = .nil (.slice none 0 0) ∨ v₀ = .sv [] 3 0 (some 0)) (U : Sto) : Cv 219 [v₀,.fn (.func k) [] cap] U v₀ := by
 refine An Tryz.func219 rfl rfl fun hw hu0 => ?_
 refine G8 ?_
 refine Ag rfl rfl rfl rfl ((f97 (fun _ => false) [] k cap U (by simp) (fun a ha => by simp at ha)).wk (.cons (by rcases hv with rfl | rfl <;> first | exact Ue | exact D6) .refl)) ?_
 refine G6 ?_;refine O1 (Mz (q := (-1)) okC rfl rfl) ?_;refine G ?_;refine Ab rfl ?_ ?_ <;> intro h1
 ·refine G6 ?_
  exact ⟨_,rfl,_,_,ag_ hw nl (fun _ _ => rfl),nl,.same (by rcases hv with rfl | rfl <;> rfl),rfl,rfl⟩
 ·exact absurd h1 (by simp [A2])
theorem f219o (p : Hp -> Bool) (l : List Hp) (a N : Nat) (tl : List AV) (k : Nat) (cap : List AV) (U : Sto) (hb : l.length < 1000000) (hN : N <= a) (hg : U.get a = some (.cells (l.flatMap eH ++ tl))) (hk : ∀ x ∈ l,∀ τ,(∀ b,b < N -> τ.get b = U.get b) -> nx τ = nx U -> Ao Ew k ([.agg (eH x)] ++ cap) τ fun v U' => v = .bool (p x) /\ U' = τ) : Ao Ew 219 [.sr a 0 3 l.length none,.fn (.func k) [] cap] U fun v U' => Own U' N eH 3 (D9 p l) v /\ Below N U U' := by
 refine An Tryz.func219 rfl rfl fun hw hu0 => ?_
 have dq := (hw _ _ hg).1;refine G8 ?_;refine Ag rfl rfl rfl rfl (f97o p l a tl k cap _ hb hg (fun x hx => hk x hx _ (fun _ _ => rfl) rfl)) ?_
 refine G6 ?_;refine O1 (Mz (q := (-1)) okC rfl rfl) ?_;refine G ?_;refine Ab rfl ?_ ?_ <;> intro h1
 ·refine G5 ?_
  obtain hs : D9 p l = l := Z9 ((K7 (p := p) l 0).resolve_right (fun ⟨n,x,hf,_⟩ => by rw [hf] at h1; simp at h1)).2
  refine G ?_
  exact ⟨_,rfl,_,_,ag_ hw nl (fun _ _ => rfl),nl,.same (Ce dq),.inr ⟨a,tl,hN,dq,by rw [hs]; rfl,by rw [hs]; exact hg⟩,.rfl'⟩
 ·rcases K7 (p := p) l 0 with ⟨hf,hno⟩ | ⟨n,x,hf,hx,hpx,hpb⟩
  ·rw [hf] at h1; exact absurd h1 (by simp)
  obtain ⟨hst,jk⟩ := Tj.start hx hpx hpb;have hn := (aa_.1 hx).1;rw [hf,bq_];refine G9 ?_;refine B3 (fun q : Nat × Nat => [(0,.sr a 0 3 l.length none),(1,.fn (.func k) [] cap),(5,iV (.ofNat q.2)),(6,iV (.ofNat q.1))])
   (fun q U0 => q.1 <= l.length /\ q.2 = (D9 p (l.take q.1)).length /\ nx U0 = nx U /\ (∀ b,b ≠ a -> U0.get b = U.get b) /\ ∃ c,Tj p l c q.1 /\ U0.get a = some (.cells (c.flatMap eH ++ tl))) (fun q => l.length - q.1) (n + 1,n) SL ⟨hn,hst.symm,rfl,fun _ _ => rfl,l,jk,hg⟩ ?_
  rintro ⟨j,w⟩ U0 ⟨hjl,hw0,hnx,cf,c,hdi,hc⟩;simp only at hjl hw0 hdi;refine G5 ?_;refine O1 (B0 slC rfl rfl rfl) ?_;refine G2 ?_;refine Ab rfl ?_ ?_ <;> intro h2
  ·have bc : j < l.length := by simpa using h2
   obtain ⟨b,hb0⟩ := A6 bc;have hcb := hdi.at.trans hb0
   have hwl : w <= j := by rw [hw0]; exact ax_ Hb (by rw [bn_]; omega)
   refine G7 ?_;refine O1 (Cj elC rfl rfl bc) (O1 (Jn (enc := eH) (v := .agg (eH b)) (fun _ => rfl) ldC rfl hc hcb (fun _ => rfl)) ?_)
   refine G6 ?_;refine Ag rfl rfl rfl rfl (hk b (ae_ hb0) U0 (fun b' hb' => cf b' Om) hnx) ?_
   refine G2 ?_;refine Ab rfl ?_ ?_ <;> intro h3
   ·have h4 : p b = false := by simpa using h3
    obtain ⟨e1,e2,e3⟩ := hdi.keep hb0 h4;rw [← hw0] at e1 e2 e3;refine G5 ?_;refine O1 (Cj elC rfl rfl Om) ?_;refine O1 (Rf (enc := eH) (u := b) (fun _ => rfl) ldC rfl rfl rfl hc e2) ?_
    refine G11 ?_
    refine ⟨(j + 1,w + 1),by show l.length - (j + 1) < l.length - j; omega,SL,bc,e1.symm,by rw [Ac]; exact hnx,fun b' hb' => by rw [a_,if_neg hb']; exact cf b' hb',c.set w b,e3,by rw [a_,if_pos rfl]⟩
   ·have h4 : p b = true := by simpa using h3
    obtain ⟨e1,e2⟩ := hdi.out hb0 h4;rw [← hw0] at e1;refine G6 ?_
    refine ⟨(j + 1,w),by show l.length - (j + 1) < l.length - j; omega,SL,bc,e1.symm,hnx,cf,c,e2,hc⟩
  ·have bk : j = l.length := by
    have h4 : ¬ (j < l.length) := by simpa using h2
    omega
   have hwl : w <= l.length := by rw [hw0]; exact ax_ Hb (by rw [bn_]; omega)
   refine G5 ?_
   refine O1 (Af8 elC rfl rfl hwl) (O1 (Acr (enc := eH) (l := c) (b := w) (fun _ => rfl) elC rfl rfl hc (by rw [hdi.len]; omega)) ?_)
   refine G5 ?_;refine O1 (Me elC rfl rfl hwl) ?_;refine G2 ?_
   have hs : D9 p (l.take j) = D9 p l := by rw [bk,ep_]
   rw [hs] at hw0;have gd := hdi.fst;rw [hs,← hw0] at gd;refine C3 fun hw' => ?_
   refine G ?_
   refine ⟨_,rfl,_,_,ag_ hw' nl (fun _ _ => rfl),gb_ (by rw [Ac,hnx]),.same (Ce (by rw [Ac,hnx]; exact dq)),.inr ⟨a,rep [.str [],.bool false,.nil (.slice none 0 0)] (l.length - w) ++ tl,hN,by rw [Ac,hnx]; exact dq,by rw [← hw0]; rfl,?_⟩,⟨gb_ (by rw [Ac,hnx]),fun b hb' => by rw [a_,if_neg Om]; exact cf b Om⟩⟩
   rw [a_,if_pos rfl,gd]
theorem f281o (p : Pr -> Bool) (l : List Pr) (a : Nat) (tl : List AV) (k : Nat) (cap : List AV) (U : Sto) (hb : l.length < 1000000) (hg : U.get a = some (.cells (l.flatMap eP ++ tl))) (hk : ∀ x ∈ l,Ao Ew k ([.agg (eP x)] ++ cap) U fun v U' => v = .bool (p x) /\ U' = U) : Cv 281 [.sr a 0 2 l.length none,.fn (.func k) [] cap] U (iV (A2 p l 0)) := by
 refine An Tryz.func281 rfl rfl fun hw hu0 => ?_
 refine G8 ?_;refine O1 (B0 slC rfl rfl rfl) ?_;refine G3 ?_;refine Bq l.length (fun i0 => [(0,.sr a 0 2 l.length none),(1,.fn (.func k) [] cap),(7,iV (.ofNat l.length)),(8,iV (.ofNat i0))]) (fun i0 U0 => U0 = U /\ A2 p l 0 = A2 p (l.drop i0) i0) SL ⟨rfl,rfl⟩ ?_
 rintro i0 U0 hi0 ⟨rfl,hf0⟩;refine G5 ?_;refine Ab rfl ?_ ?_ <;> intro h1
 ·have bc : i0 < l.length := by simpa using h1
  obtain ⟨a0,ha0⟩ := A6 bc;have hd0 := Ay ha0
  iterate 13 refine G ?_
  refine O1 (Cj elC rfl rfl bc) (O1 (Jn (enc := eP) (v := .agg (eP a0)) (fun _ => rfl) ldC rfl hg ha0 (fun _ => rfl)) ?_)
  refine Ag rfl rfl rfl rfl (hk a0 (ae_ ha0)) ?_;refine G ?_;refine Ab rfl ?_ ?_ <;> intro h2
  ·refine G6 ?_;refine Bb hw rfl ?_
   exact (by rw [hf0,hd0]; simp only [A2,h2,cond_true]; rfl)
  ·refine G5 ?_
   refine ⟨bc,SL,rfl,by rw [hf0,hd0]; simp only [A2,h2,cond_false]⟩
 ·have bk : l.length <= i0 := by simpa using h1
  refine G6 ?_;refine Bb hw rfl ?_
  exact (by rw [hf0,ah_ bk]; rfl)
theorem f264e (k : Nat) (cap : List AV) (v₀ : AV) (hv : v₀ = .nil (.slice none 0 0) ∨ v₀ = .sv [] 2 0 (some 0)) (U : Sto) : Cv 264 [v₀,.fn (.func k) [] cap] U v₀ := by
 refine An Tryz.func264 rfl rfl fun hw hu0 => ?_
 refine G8 ?_
 refine Ag rfl rfl rfl rfl ((f281 (fun _ => false) [] k cap U (by simp) (fun a ha => by simp at ha)).wk (.cons (by rcases hv with rfl | rfl <;> first | exact Ue | exact D6) .refl)) ?_
 refine G6 ?_;refine O1 (Mz (q := (-1)) okC rfl rfl) ?_;refine G ?_;refine Ab rfl ?_ ?_ <;> intro h1
 ·refine G6 ?_
  exact ⟨_,rfl,_,_,ag_ hw nl (fun _ _ => rfl),nl,.same (by rcases hv with rfl | rfl <;> rfl),rfl,rfl⟩
 ·exact absurd h1 (by simp [A2])
theorem f264o (p : Pr -> Bool) (l : List Pr) (a N : Nat) (tl : List AV) (k : Nat) (cap : List AV) (U : Sto) (hb : l.length < 1000000) (hN : N <= a) (hg : U.get a = some (.cells (l.flatMap eP ++ tl))) (hk : ∀ x ∈ l,∀ τ,(∀ b,b < N -> τ.get b = U.get b) -> nx τ = nx U -> Ao Ew k ([.agg (eP x)] ++ cap) τ fun v U' => v = .bool (p x) /\ U' = τ) : Ao Ew 264 [.sr a 0 2 l.length none,.fn (.func k) [] cap] U fun v U' => Own U' N eP 2 (D9 p l) v /\ Below N U U' := by
 refine An Tryz.func264 rfl rfl fun hw hu0 => ?_
 have dq := (hw _ _ hg).1;refine G8 ?_;refine Ag rfl rfl rfl rfl (f281o p l a tl k cap _ hb hg (fun x hx => hk x hx _ (fun _ _ => rfl) rfl)) ?_
 refine G6 ?_;refine O1 (Mz (q := (-1)) okC rfl rfl) ?_;refine G ?_;refine Ab rfl ?_ ?_ <;> intro h1
 ·refine G5 ?_
  obtain hs : D9 p l = l := Z9 ((K7 (p := p) l 0).resolve_right (fun ⟨n,x,hf,_⟩ => by rw [hf] at h1; simp at h1)).2
  refine G ?_
  exact ⟨_,rfl,_,_,ag_ hw nl (fun _ _ => rfl),nl,.same (Ce dq),.inr ⟨a,tl,hN,dq,by rw [hs]; rfl,by rw [hs]; exact hg⟩,.rfl'⟩
 ·rcases K7 (p := p) l 0 with ⟨hf,hno⟩ | ⟨n,x,hf,hx,hpx,hpb⟩
  ·rw [hf] at h1; exact absurd h1 (by simp)
  obtain ⟨hst,jk⟩ := Tj.start hx hpx hpb;have hn := (aa_.1 hx).1;rw [hf,bq_];refine G9 ?_;refine B3 (fun q : Nat × Nat => [(0,.sr a 0 2 l.length none),(1,.fn (.func k) [] cap),(5,iV (.ofNat q.2)),(6,iV (.ofNat q.1))])
   (fun q U0 => q.1 <= l.length /\ q.2 = (D9 p (l.take q.1)).length /\ nx U0 = nx U /\ (∀ b,b ≠ a -> U0.get b = U.get b) /\ ∃ c,Tj p l c q.1 /\ U0.get a = some (.cells (c.flatMap eP ++ tl))) (fun q => l.length - q.1) (n + 1,n) SL ⟨hn,hst.symm,rfl,fun _ _ => rfl,l,jk,hg⟩ ?_
  rintro ⟨j,w⟩ U0 ⟨hjl,hw0,hnx,cf,c,hdi,hc⟩;simp only at hjl hw0 hdi;refine G5 ?_;refine O1 (B0 slC rfl rfl rfl) ?_;refine G2 ?_;refine Ab rfl ?_ ?_ <;> intro h2
  ·have bc : j < l.length := by simpa using h2
   obtain ⟨b,hb0⟩ := A6 bc;have hcb := hdi.at.trans hb0
   have hwl : w <= j := by rw [hw0]; exact ax_ Hb (by rw [bn_]; omega)
   refine G7 ?_;refine O1 (Cj elC rfl rfl bc) (O1 (Jn (enc := eP) (v := .agg (eP b)) (fun _ => rfl) ldC rfl hc hcb (fun _ => rfl)) ?_)
   refine G6 ?_;refine Ag rfl rfl rfl rfl (hk b (ae_ hb0) U0 (fun b' hb' => cf b' Om) hnx) ?_
   refine G2 ?_;refine Ab rfl ?_ ?_ <;> intro h3
   ·have h4 : p b = false := by simpa using h3
    obtain ⟨e1,e2,e3⟩ := hdi.keep hb0 h4;rw [← hw0] at e1 e2 e3;refine G5 ?_;refine O1 (Cj elC rfl rfl Om) ?_;refine O1 (Rf (enc := eP) (u := b) (fun _ => rfl) ldC rfl rfl rfl hc e2) ?_
    refine G11 ?_
    refine ⟨(j + 1,w + 1),by show l.length - (j + 1) < l.length - j; omega,SL,bc,e1.symm,by rw [Ac]; exact hnx,fun b' hb' => by rw [a_,if_neg hb']; exact cf b' hb',c.set w b,e3,by rw [a_,if_pos rfl]⟩
   ·have h4 : p b = true := by simpa using h3
    obtain ⟨e1,e2⟩ := hdi.out hb0 h4;rw [← hw0] at e1;refine G6 ?_
    refine ⟨(j + 1,w),by show l.length - (j + 1) < l.length - j; omega,SL,bc,e1.symm,hnx,cf,c,e2,hc⟩
  ·have bk : j = l.length := by
    have h4 : ¬ (j < l.length) := by simpa using h2
    omega
   have hwl : w <= l.length := by rw [hw0]; exact ax_ Hb (by rw [bn_]; omega)
   refine G5 ?_
   refine O1 (Af8 elC rfl rfl hwl) (O1 (Acr (enc := eP) (l := c) (b := w) (fun _ => rfl) elC rfl rfl hc (by rw [hdi.len]; omega)) ?_)
   refine G5 ?_;refine O1 (Me elC rfl rfl hwl) ?_;refine G2 ?_
   have hs : D9 p (l.take j) = D9 p l := by rw [bk,ep_]
   rw [hs] at hw0;have gd := hdi.fst;rw [hs,← hw0] at gd;refine C3 fun hw' => ?_
   refine G ?_
   refine ⟨_,rfl,_,_,ag_ hw' nl (fun _ _ => rfl),gb_ (by rw [Ac,hnx]),.same (Ce (by rw [Ac,hnx]; exact dq)),.inr ⟨a,rep [.str [],.str []] (l.length - w) ++ tl,hN,by rw [Ac,hnx]; exact dq,by rw [← hw0]; rfl,?_⟩,⟨gb_ (by rw [Ac,hnx]),fun b hb' => by rw [a_,if_neg Om]; exact cf b Om⟩⟩
   rw [a_,if_pos rfl,gd]
theorem f219 (p : Hp -> Bool) (l : List Hp) (N : Nat) (k : Nat) (cap : List AV) (v₀ : AV) (U : Sto) (h : Own U N eH 3 l v₀) (hb : l.length < 1000000) (hk : ∀ x ∈ l,∀ τ,(∀ b,b < N -> τ.get b = U.get b) -> nx τ = nx U -> Ao Ew k ([.agg (eH x)] ++ cap) τ fun v U' => v = .bool (p x) /\ U' = τ) :
  Ao Ew 219 [v₀,.fn (.func k) [] cap] U fun v U' => Own U' N eH 3 (D9 p l) v /\ Below N U U' := by
 rcases h with ⟨rfl,hv⟩ | ⟨a,tl,h1,h2,rfl,h4⟩
 ·exact (f219e k cap v₀ hv U).mono fun v τ ⟨e1,e2⟩ => by subst e1 e2; exact ⟨.inl ⟨rfl,hv⟩,.rfl'⟩
 ·exact f219o p l a N tl k cap U hb h1 h4 hk
theorem f264 (p : Pr -> Bool) (l : List Pr) (N : Nat) (k : Nat) (cap : List AV) (v₀ : AV) (U : Sto) (h : Own U N eP 2 l v₀) (hb : l.length < 1000000) (hk : ∀ x ∈ l,∀ τ,(∀ b,b < N -> τ.get b = U.get b) -> nx τ = nx U -> Ao Ew k ([.agg (eP x)] ++ cap) τ fun v U' => v = .bool (p x) /\ U' = τ) :
  Ao Ew 264 [v₀,.fn (.func k) [] cap] U fun v U' => Own U' N eP 2 (D9 p l) v /\ Below N U U' := by
 rcases h with ⟨rfl,hv⟩ | ⟨a,tl,h1,h2,rfl,h4⟩
 ·exact (f264e k cap v₀ hv U).mono fun v τ ⟨e1,e2⟩ => by subst e1 e2; exact ⟨.inl ⟨rfl,hv⟩,.rfl'⟩
 ·exact f264o p l a N tl k cap U hb h1 h4 hk
theorem Nb {N : Nat} (h : Hp) : AV.unds N (eH h) = true := by
 show (true && (true && (AV.und N (Aq h.text) && true))) = true
 rw [Ka (fun _ => rfl) h.text]; rfl
theorem Aq9 {N : Nat} (h : Pr) : AV.unds N (eP h) = true := rfl
theorem Aoz {N : Nat} (l : List Hp) : AV.und N (slV eH 3 l) = true := Ka Nb l
def Tk (h : Hp) : Bool := !h.floating
theorem f221 (h : Hp) (U : Sto) : Cv 221 [.agg (eH h)] U (.bool h.floating) := by
 refine An Tryz.func221 rfl rfl fun hw hu0 => ?_
 refine G12 ?_;refine Bb hw rfl ?_;exact rfl
theorem f222 (h : Hp) (U : Sto) : Cv 222 [.agg (eH h)] U (.bool (Tk h)) := by
 refine An Tryz.func222 rfl rfl fun hw hu0 => ?_
 iterate 13 refine G ?_
 refine Bb hw rfl ?_;exact rfl
theorem f183 (f : Fr) (U : Sto) (hb : f.hyps.length < 1000000) : Cv 183 [.agg (eF f)] U (slV eH 3 (D9 (fun h => h.floating) f.hyps)) := by
 refine An Tryz.func183 rfl rfl fun hw hu0 => ?_
 refine G9 ?_;refine Bw rfl rfl rfl rfl (f220 f.hyps _ hb) fun v τ ⟨bp,bt⟩ => ?_
 refine Bw rfl rfl rfl rfl (f219 (fun h => h.floating) f.hyps (nx U) 221 [] v τ bp hb (fun x _ τ _ _ => f221 x τ)) fun v2 τ2 ⟨bu,bn⟩ => ?_
 refine G3 ?_;exact ⟨_,rfl,slV eH 3 (D9 (fun h => h.floating) f.hyps),U,as_ hw (bt.trans bn),nl,bu.fz (fun _ => rfl) (fun a ha => hw.none ha) (Bi Nb _),rfl,rfl⟩
theorem f184 (l : List Hp) (U : Sto) (hb : l.length < 1000000) : Cv 184 [slV eH 3 l] U (slV eH 3 (D9 Tk l)) := by
 refine An Tryz.func184 rfl rfl fun hw hu0 => ?_
 refine G7 ?_;refine Bw rfl rfl rfl rfl (f220 l _ hb) fun v τ ⟨bp,bt⟩ => ?_
 refine Bw rfl rfl rfl rfl (f219 Tk l (nx U) 222 [] v τ bp hb (fun x _ τ _ _ => f222 x τ)) fun v2 τ2 ⟨bu,bn⟩ => ?_
 refine G3 ?_;exact ⟨_,rfl,slV eH 3 (D9 Tk l),U,as_ hw (bt.trans bn),nl,bu.fz (fun _ => rfl) (fun a ha => hw.none ha) (Bi Nb _),rfl,rfl⟩
theorem f266 (p : Pr) (r : Nat) (m : SM Bool) (U : Sto) (hm : E2 U r m) : Cv 266 [.agg (eP p),.pv [.mp r]] U (.bool (!m.has p.a || !m.has p.b)) := by
 refine An Tryz.func266 rfl rfl fun hw hu0 => ?_
 refine G10 ?_;refine O1 (Cx st9 Cg rfl hm rfl) ?_;refine G2 ?_;refine TOr 5 ?_ (fun hg => ?_) ?_
 rotate_left
 ·iterate 3 refine Gn hg ?_
  refine On hg (Cx st9 Cg rfl hm rfl) ?_;refine Gn hg ?_;exact Ez
 refine G3 ?_;refine Bb hw rfl ?_;exact rfl
theorem f243 (r : Nat) (m : SM Bool) (l : List Pr) (U : Sto) (hm : E2 U r m) (hb : l.length < 1000000) : Cv 243 [.mp r,slV eP 2 l] U (slV eP 2 (D9 (fun p => !m.has p.a || !m.has p.b) l)) := by
 refine An Tryz.func243 rfl rfl fun hw hu0 => ?_
 refine G8 ?_;refine Bw rfl rfl rfl rfl (f265 l _ hb) fun v τ ⟨bp,bt⟩ => ?_
 refine G ?_
 refine Bw rfl rfl rfl rfl (f264 (fun p => !m.has p.a || !m.has p.b) l (nx U) 266 [.pv [.mp r]] v τ bp hb (fun x _ τ3 h3 _ => f266 x r m τ3 (hm.of_get ((h3 r (hm.lt hw)).trans (bt.2 r (hm.lt hw)))))) fun v2 τ2 ⟨bu,bn⟩ => ?_
 refine G3 ?_
 exact ⟨_,rfl,slV eP 2 (D9 (fun p => !m.has p.a || !m.has p.b) l),U,as_ hw (bt.trans bn),nl,bu.fz (fun _ => rfl) (fun a ha => hw.none ha) (Bi Aq9 _),rfl,rfl⟩
def Hl (l : List Hp) : List (List Str) := (D9 (fun h => h.floating) l).map (·.text)
theorem Ac4 {l : List Hp} {i : Nat} {a : Hp} (ha : l[i]? = some a) : Hl (l.take (i + 1)) = Hl (l.take i) ++ (if a.floating then [] else [a.text]) := by
 unfold Hl; rw [B7 ha,P5,cz_]; cases a.floating <;> rfl
theorem Ak4 {l : List Hp} : (Hl l).length <= l.length := by unfold Hl; rw [bs_]; exact Hb
abbrev eL (t : List Str) : List AV := [Aq t]
theorem Ate : ∀ t,(eL t).length = 1 := fun _ => rfl
theorem O3 : ∀ t,(eH t).length = 3 := fun _ => rfl
theorem Ara {N : Nat} (t : List Str) : AV.unds N (eL t) = true := by show (AV.und N (Aq t) && true) = true; rw [Ka (fun _ => rfl)]; rfl
theorem f240 (l : List Hp) (t : List Str) (U : Sto) (hb : l.length < 1000000) : Cv 240 [slV eH 3 l,Aq t] U (slV eL 1 (t :: Hl l)) := by
 refine An Tryz.func240 rfl rfl fun hw hu0 => ?_
 refine G7 ?_;refine O1 (As elC byW rfl rfl rfl) ?_;refine G10 ?_;refine B3 (fun q : Nat × AV => [(5,q.2),(10,slV eH 3 l),(11,iV (.ofNat l.length)),(12,iV (.ofNat q.1))]) (fun q U0 => q.1 <= l.length /\ Aiw U0 (nx U) eL 1 (t :: Hl (l.take q.1)) q.2 /\ Below (nx U) U U0) (fun q => l.length - q.1) (0,.sv [Aq t] 1 1 (some 1)) SL ⟨bh_ _,.inl rfl,.rfl'⟩ ?_
 rintro ⟨i0,v0⟩ U0 hP0;obtain ⟨hi0,c9,cp⟩ : i0 <= l.length /\ Aiw U0 (nx U) eL 1 (t :: Hl (l.take i0)) v0 /\ Below (nx U) U U0 := hP0;refine G5 ?_;refine Ab rfl ?_ ?_ <;> intro h1
 ·have bc : i0 < l.length := by simpa using h1
  obtain ⟨a0,ha0⟩ := A6 bc;have hd0 := Ay ha0
  iterate 15 refine G ?_
  refine Ab rfl ?_ ?_ <;> intro h2
  ·have h4 : a0.floating = false := by simpa using h2
   have bz : ((t :: Hl (l.take i0)).length + [a0.text].length) * (24 + 1) <= sizeLim := by have := Ak4 (l := l.take i0); rw [bn_] at this; simp [sizeLim]; omega
   obtain ⟨v,τ,cu,cr,mn,_⟩ := c9.app (by' := 24) Ate cp.1 [a0.text] bz
   refine G4 ?_;refine C1 (As elC byW rfl rfl rfl) (D6 (len := 1)) rfl rfl (O1 (A3 elC rfl slC rfl rfl rfl (new := eL a0.text) rfl cu) ?_);refine G6 ?_
   refine ⟨(i0 + 1,v),by show l.length - (i0 + 1) < l.length - i0; omega,SL,bc,by rw [Ac4 ha0,if_neg (by rw [h4]; simp)]; exact cr,cp.trans mn⟩
  ·have h4 : a0.floating = true := by simpa using h2
   refine G5 ?_
   refine ⟨(i0 + 1,v0),by show l.length - (i0 + 1) < l.length - i0; omega,SL,bc,by rw [Ac4 ha0,if_pos h4,bi_]; exact c9,cp⟩
 ·have bk : l.length <= i0 := by simpa using h1
  refine G6 ?_;rw [av_ bk] at c9;refine G ?_;exact ⟨_,rfl,slV eL 1 (t :: Hl l),U,as_ hw cp,nl,c9.fz (fun _ => rfl) (fun a ha => hw.none ha) (Bi Ara _),rfl,rfl⟩
theorem in3 : Aix Ew.P 3 = true := Kr
theorem f186 (h : Hp) (U : Sto) (hb : h.text.length < 1000000) : Cv 186 [.agg (eH h)] U (.agg (eH h)) := by
 refine An Tryz.func186 rfl rfl fun hw hu0 => ?_
 refine G2 ?_;refine O1 (Aie ldC rfl rfl) (O1 (Ct ziC) ?_);refine G4 ?_
 refine O1 (Ad (cs := (eH h).drop 2) ldC rfl (by simp only [Bk,Aga Ar5]) rfl) ?_
 refine Ag rfl rfl rfl rfl (f223 h.text _ hb) ?_;refine G ?_;refine O1 (Aw (vs := eH h) (vs' := eH h) ldC rfl rfl rfl (Aga Ar5) rfl) ?_;refine G3 ?_
 refine O1 (Ad (cs := eH h) ldC rfl (by simp only [Bk,Sto.cells,a_,if_true]; rfl) rfl) ?_
 refine O1 (Aw (vs := [.str [],.bool false,.nil (.slice none 0 0)]) (vs' := eH h) ldC rfl rfl rfl (by unfold Sto.cells; rw [a_,if_neg (by rw [Af]; omega),get2b]) rfl) ?_
 refine G2 ?_
 exact ⟨_,Bj (vs := eH h) (v := .agg (eH h)) (ldC (t := 80)) rfl (by unfold Sto.cells; rw [a_,if_pos rfl]) rfl rfl,.agg (eH h),U,as_ hw ((((Below.rfl'.new nl _).new nl _).set nl _).set (by rw [Af]; omega) _),nl,.same (Nb h),rfl,rfl⟩
theorem f237 (n : Nat) (U : Sto) (hn : n < 1000000) : Ao Ew 237 [.nil (.slice none 0 0),iV (.ofNat n)] U fun v U' => Own U' (nx U) eH 3 [] v /\ Below (nx U) U U' := by
 refine An Tryz.func237 rfl rfl fun hw hu0 => ?_
 refine G10 ?_;refine Ab rfl ?_ ?_ <;> intro h1
 ·exact absurd h1 (by simp)
 ·refine G6 ?_;refine O1 (Xx slC rfl) ?_;refine G ?_;refine O1 (B0 slC rfl rfl rfl) (O1 (Ly (p := 0) (q := 0) okC rfl rfl Om Om) ?_);refine O1 (Ly (p := n) (q := 0) okC rfl rfl Om Om) ?_;refine G7 ?_;refine Ab rfl ?_ ?_ <;> intro h2
  ·obtain ⟨n,rfl⟩ : ∃ k,n = k + 1 := ⟨n - 1,(by simp at h2; omega)⟩
   refine G3 ?_;refine O1 (Xx slC rfl) (O1 (Akq elC rfl rfl) ?_);refine G ?_
   refine O1 (Af9 (n := n) elC rfl in3 rfl rfl (by simp [sizeLim]; omega)) ?_
   refine G ?_;refine O1 (B0 slC rfl rfl rfl) (O1 (Me (b := 0) elC rfl rfl Om) ?_);refine G7 ?_;refine C3 fun hw' => ?_
   refine G ?_
   exact ⟨_,rfl,_,_,ag_ hw' nl (fun _ _ => rfl),by rw [Af]; omega,.same (Ce (by rw [Af]; omega)),.inr ⟨nx U,rep [.str [],.bool false,.nil (.slice none 0 0)] (n + 1),nl,by rw [Af]; omega,rfl,by rw [ab_,if_pos rfl]; rfl⟩,Below.rfl'.new nl _⟩
  ·refine G7 ?_;exact ⟨_,rfl,_,_,ag_ hw nl (fun _ _ => rfl),nl,.same rfl,.nil,.rfl'⟩
abbrev eLH (l : List Hp) : List AV := [slV eH 3 l]
theorem Hw {α : Type} {ls : List (List α)} {i : Nat} {a : List α} (ha : ls[i]? = some a) : (ls.take (i + 1)).flatten = (ls.take i).flatten ++ a := by rw [B7 ha,List.flatten_append]; simp
theorem Kb {α : Type} (ls : List (List α)) (i : Nat) : ((ls.take i).flatten).length <= ls.flatten.length := by
 have h : ls.flatten = (ls.take i).flatten ++ (ls.drop i).flatten := by rw [← List.flatten_append,c_]
 rw [h,ao_]; omega
def Hc : List Hp -> List Hp -> Nat
 | a :: r,b :: s => if a.label = b.label then Hc r s + 1 else 0
 | _,_ => 0
def Lo (a b : List Hp) (n : Nat) : Bool := match a[n]?,b[n]? with
 | some x,some y => decide (x.label = y.label)
 | _,_ => false
theorem Rk {a b : List Hp} {n : Nat} {x y : Hp} (hx : a[n]? = some x) (hy : b[n]? = some y) : Lo a b n = decide (x.label = y.label) := by simp only [Lo,hx,hy]
theorem Nc {a b : List Hp} {n : Nat} (h : a.length <= n ∨ b.length <= n) : Lo a b n = false := by
 unfold Lo
 rcases h with h | h
 ·rw [List.getElem?_eq_none h]
 ·rw [List.getElem?_eq_none h]; cases a[n]? <;> rfl
theorem Aaa {a b : List Hp} {n : Nat} (h : Lo a b n = true) : n < a.length /\ n < b.length := by
 refine ⟨Nat.lt_of_not_le fun hh => ?_,Nat.lt_of_not_le fun hh => ?_⟩
 ·rw [Nc (.inl hh)] at h; cases h
 ·rw [Nc (.inr hh)] at h; cases h
theorem Aes {a b : List Hp} {n : Nat} (h : Lo a b n = true) : Hc (a.drop n) (b.drop n) = Hc (a.drop (n + 1)) (b.drop (n + 1)) + 1 := by
 obtain ⟨h1,h2⟩ := Aaa h;obtain ⟨x,hx⟩ := A6 h1;obtain ⟨y,hy⟩ := A6 h2;rw [Rk hx hy] at h;rw [Ay hx,Ay hy,Hc,if_pos (of_decide_eq_true h)]
theorem Aet {a b : List Hp} {n : Nat} (h : Lo a b n = false) : Hc (a.drop n) (b.drop n) = 0 := by
 by_cases h1 : n < a.length
 ·by_cases h2 : n < b.length
  ·obtain ⟨x,hx⟩ := A6 h1;obtain ⟨y,hy⟩ := A6 h2;rw [Rk hx hy] at h;rw [Ay hx,Ay hy,Hc,if_neg (of_decide_eq_false h)]
  ·rw [ah_ (show b.length <= n by omega)]; cases a.drop n <;> rfl
 ·rw [ah_ (show a.length <= n by omega)]; rfl
theorem Aab : ∀ (a b : List Hp),Hc a b <= b.length
 | a :: r,b :: s => by unfold Hc; split <;> simp [Aab r s]
 | [],_ => bh_ _
 | _ :: _,[] => bh_ _
theorem f210 (ls : List (List Hp)) (U : Sto) (hb : ls.length < 1000) (hb2 : ls.flatten.length < 1000000) : Cv 210 [slV eLH 1 ls] U (slV eH 3 ls.flatten) := by
 refine An Tryz.func210 rfl rfl fun hw hu0 => ?_
 iterate 16 refine G ?_
 refine B3 (fun q : Nat × AV => [(0,slV eLH 1 ls),(3,q.2),(9,slV eLH 1 ls),(10,iV (.ofNat ls.length)),(11,iV (.ofNat q.1))]) (fun q U0 => q.1 <= ls.length /\ U0 = U /\ ∃ s,q.2 = iV (.ofNat s) /\ s = ((ls.take q.1).flatten).length) (fun q => ls.length - q.1) (0,iV (.ofNat 0)) SL ⟨bh_ _,rfl,0,rfl,rfl⟩ ?_
 rintro ⟨i0,v0⟩ U0 hP0;obtain ⟨hi0,rfl,s,hvs,hs⟩ : i0 <= ls.length /\ U0 = U /\ ∃ s,v0 = iV (.ofNat s) /\ s = ((ls.take i0).flatten).length := hP0;refine G5 ?_;refine Ab rfl ?_ ?_ <;> intro h1
 ·have bc : i0 < ls.length := by simpa using h1
  obtain ⟨a0,ha0⟩ := A6 bc;have hd0 := Ay ha0;subst hvs
  have hfl : ((ls.take i0).flatten).length + a0.length <= ls.flatten.length := by have := Kb ls (i0 + 1); rwa [Hw ha0,ao_] at this
  iterate 14 refine G ?_
  refine O1 (Dg (p := s) (q := a0.length) okC rfl rfl Om) ?_;refine G7 ?_;refine Ab rfl ?_ ?_ <;> intro h2
  ·exact absurd h2 (by simp; omega)
  ·refine G5 ?_
   refine ⟨(i0 + 1,iV (.ofNat (s + a0.length))),by show ls.length - (i0 + 1) < ls.length - i0; omega,SL,bc,rfl,_,rfl,by rw [Hw ha0,ao_,hs]⟩
 ·have bk : ls.length <= i0 := by simpa using h1
  subst hvs;rw [av_ bk] at hs;subst hs;refine G4 ?_;refine Bw rfl rfl rfl rfl (f237 ls.flatten.length _ hb2) fun v τ ⟨bp,bt⟩ => ?_
  refine G10 ?_;refine B3 (fun q : Nat × AV => [(6,q.2),(25,slV eLH 1 ls),(26,iV (.ofNat ls.length)),(27,iV (.ofNat q.1))]) (fun q U2 => q.1 <= ls.length /\ Own U2 (nx U0) eH 3 ((ls.take q.1).flatten) q.2 /\ Below (nx U0) U0 U2) (fun q => ls.length - q.1) (0,v) SL ⟨bh_ _,bp,bt⟩ ?_
  rintro ⟨i2,v2⟩ U2 hP2;obtain ⟨hi2,bu,bn⟩ : i2 <= ls.length /\ Own U2 (nx U0) eH 3 ((ls.take i2).flatten) v2 /\ Below (nx U0) U0 U2 := hP2;refine G5 ?_;refine Ab rfl ?_ ?_ <;> intro h2
  ·have bw : i2 < ls.length := by simpa using h2
   obtain ⟨a2,ha2⟩ := A6 bw;have hd2 := Ay ha2
   have bz : (((ls.take i2).flatten).length + a2.length) * (48 + 1) <= sizeLim := by have := Kb ls (i2 + 1); rw [Hw ha2,ao_] at this; simp only [sizeLim]; omega
   obtain ⟨v,τ3,cu,da,di,_⟩ := bu.app (by' := 48) O3 bn.1 a2 bz
   refine G12 ?_;refine O1 (A3 elC rfl slC rfl rfl rfl (Vl O3 _ a2) cu) ?_;refine G6 ?_
   refine ⟨(i2 + 1,v),by show ls.length - (i2 + 1) < ls.length - i2; omega,SL,bw,by rw [Hw ha2]; exact da,bn.trans di⟩
  ·have b6 : ls.length <= i2 := by simpa using h2
   refine G6 ?_;rw [av_ b6] at bu;refine G ?_;exact ⟨_,rfl,slV eH 3 ls.flatten,U0,as_ hw bn,nl,bu.fz O3 (fun a ha => hw.none ha) (Bi Nb _),rfl,rfl⟩
theorem f216 (a b : List Hp) (U : Sto) (hb : a.length < 1000000) : Cv 216 [slV eH 3 a,slV eH 3 b] U (iV (.ofNat (Hc a b))) := by
 refine An Tryz.func216 rfl rfl fun hw hu0 => ?_
 refine G10 ?_;refine Bq a.length (fun i0 => [(0,slV eH 3 a),(1,slV eH 3 b),(5,iV (.ofNat i0))]) (fun i0 U0 => U0 = U /\ Hc a b = i0 + Hc (a.drop i0) (b.drop i0)) SL ⟨rfl,(bq_ _).symm⟩ ?_
 rintro i0 U0 hi0 ⟨rfl,hf0⟩;refine G ?_;refine Gg [(28,.bool (Lo a b i0))] ?_ ?_
 ·rcases au_ (decide (Int.ofNat i0 < Int.ofNat a.length)) with hg4 | hg4
  ·rcases au_ (decide (Int.ofNat i0 < Int.ofNat b.length)) with bl | bl
   ·obtain ⟨x,hx⟩ := A6 (show i0 < a.length by simpa using hg4)
    obtain ⟨y,hy⟩ := A6 (show i0 < b.length by simpa using bl)
    refine X0 ?_;refine DF (Al rfl) (DF (Al rfl) (DF (Jm slC rfl) (DF (Q5 okC rfl rfl) (DF (Al rfl) ?_))))
    refine Wn (w := by simp only [bl,hg4]<;>rfl) (Al rfl) ?_
    refine Wn (w := by simp only [bl,hg4]<;>rfl) (Al rfl) ?_
    refine Wn (w := by simp only [bl,hg4]<;>rfl) (Jm slC rfl) ?_
    refine Wn (w := by simp only [bl,hg4]<;>rfl) (Q5 okC rfl rfl) ?_
    refine DF (B8 rfl (by simp only [bl,hg4]<;>rfl) rfl) ?_
    refine DF (Al rfl) ?_
    refine Wn (w := by simp only [bl,hg4]<;>rfl) (Al rfl) ?_
    refine Wn (w := by simp only [bl,hg4]<;>rfl) (Al rfl) ?_
    refine Wn (w := by simp only [bl,hg4]<;>rfl) (Ax elC (fun _ => rfl) rfl rfl hx) ?_
    refine Wn (w := by simp only [bl,hg4]<;>rfl) (Aj fdC rfl rfl) ?_
    refine Wn (w := by simp only [bl,hg4]<;>rfl) (Ad ldC rfl rfl rfl) ?_
    refine Wn (w := by simp only [bl,hg4]<;>rfl) (Al rfl) ?_
    refine Wn (w := by simp only [bl,hg4]<;>rfl) (Al rfl) ?_
    refine Wn (w := by simp only [bl,hg4]<;>rfl) (Ax elC (fun _ => rfl) rfl rfl hy) ?_
    refine Wn (w := by simp only [bl,hg4]<;>rfl) (Aj fdC rfl rfl) ?_
    refine Wn (w := by simp only [bl,hg4]<;>rfl) (Ad ldC rfl rfl rfl) ?_
    refine Wn (w := by simp only [bl,hg4]<;>rfl) (Ud okC rfl rfl) ?_
    refine DF (B8 rfl (by simp only [bl,hg4]<;>rfl) rfl) ?_
    refine Dq ?_;exact ⟨rfl,rfl,⟨⟨congrArg (fun b => some (AV.bool b)) (Rk hx hy).symm,trivial⟩,sb,rfl⟩⟩
   ·refine X0 ?_;refine DF (Al rfl) (DF (Al rfl) (DF (Jm slC rfl) (DF (Q5 okC rfl rfl) (DF (Al rfl) ?_))))
    refine Wn (w := by simp only [bl,hg4]<;>rfl) (Al rfl) ?_
    refine Wn (w := by simp only [bl,hg4]<;>rfl) (Al rfl) ?_
    refine Wn (w := by simp only [bl,hg4]<;>rfl) (Jm slC rfl) ?_
    refine Wn (w := by simp only [bl,hg4]<;>rfl) (Q5 okC rfl rfl) ?_
    refine DF (B8 rfl (by simp only [bl,hg4]<;>rfl) rfl) ?_
    refine DF (Al rfl) ?_
    refine Wx (w := by simp only [bl,hg4]<;>rfl) ?_
    refine Wx (w := by simp only [bl,hg4]<;>rfl) ?_
    refine Wx (w := by simp only [bl,hg4]<;>rfl) ?_
    refine Wx (w := by simp only [bl,hg4]<;>rfl) ?_
    refine Wx (w := by simp only [bl,hg4]<;>rfl) ?_
    refine Wx (w := by simp only [bl,hg4]<;>rfl) ?_
    refine Wx (w := by simp only [bl,hg4]<;>rfl) ?_
    refine Wx (w := by simp only [bl,hg4]<;>rfl) ?_
    refine Wx (w := by simp only [bl,hg4]<;>rfl) ?_
    refine Wx (w := by simp only [bl,hg4]<;>rfl) ?_
    refine Wx (w := by simp only [bl,hg4]<;>rfl) ?_
    refine DF (A7 rfl (by simp only [bl,hg4]<;>rfl) rfl) ?_
    refine Dq ?_
    exact ⟨rfl,rfl,⟨⟨congrArg (fun b => some (AV.bool b)) (Nc (.inr (by simpa using bl))).symm,trivial⟩,sb,rfl⟩⟩
  ·refine X0 ?_;refine DF (Al rfl) (DF (Al rfl) (DF (Jm slC rfl) (DF (Q5 okC rfl rfl) (DF (Al rfl) ?_))))
   refine Wx (w := by simp only [hg4]<;>rfl) ?_
   refine Wx (w := by simp only [hg4]<;>rfl) ?_
   refine Wx (w := by simp only [hg4]<;>rfl) ?_
   refine Wx (w := by simp only [hg4]<;>rfl) ?_
   refine DF (A7 rfl (by simp only [hg4]<;>rfl) rfl) ?_
   refine DF (Al rfl) (Wx (w := by simp [hg4]) ?_)
   refine Wx (w := by simp [hg4]) ?_
   refine Wx (w := by simp [hg4]) ?_
   refine Wx (w := by simp [hg4]) ?_
   refine Wx (w := by simp [hg4]) ?_
   refine Wx (w := by simp [hg4]) ?_
   refine Wx (w := by simp [hg4]) ?_
   refine Wx (w := by simp [hg4]) ?_
   refine Wx (w := by simp [hg4]) ?_
   refine Wx (w := by simp [hg4]) ?_
   refine Wx (w := by simp [hg4]) ?_
   refine DF (A7 rfl (by simp [hg4]) rfl) ?_
   refine Dq ?_
   exact ⟨rfl,rfl,⟨⟨congrArg (fun b => some (AV.bool b)) (Nc (.inl (by simpa using hg4))).symm,trivial⟩,sb,rfl⟩⟩
 refine Ab rfl ?_ ?_ <;> intro h1
 ·have bc : i0 < a.length := (Aaa h1).1;refine G7 ?_
  refine ⟨bc,SL,rfl,by rw [hf0,Aes h1]; omega⟩
 ·have hs0 := Aet h1;refine G7 ?_;refine Bb hw rfl ?_
  exact (by rw [hf0,hs0]; rfl)
def zH : List AV := [.str [],.bool false,.nil (.slice none 0 0)]
def hcs (o : Option Hp) : List AV := match o with | some h => eH h | none => zH
theorem I7 (o : Option Hp) : (hcs o).length = 3 := by cases o <;> rfl
theorem Tl {N : Nat} (o : Option Hp) : AV.unds N (hcs o) = true := by cases o with | none => rfl | some h => exact Nb h
theorem Tm {J : Ae} {U : Sto} {Rr : Rec} {x y : Operand} {m : SM Hp} {s : Str} {r : Nat} (hx : Ak Ew J x = some (.mp r)) (hm : Bf hV U r m) (hy : Ak Ew J y = some (sV s)) :
  A0 Ew Rr (.lookup 235 x y true) J U (.tup [.agg (hcs (m.get s)),.bool (m.get s).isSome]) U := by
 have := Px (Rr := Rr) st9 O0 hx hm hy
 have e : ((m.get s).map hV).getD (.agg [.str [],.bool false,.nil (.slice none 0 0)]) = .agg (hcs (m.get s)) := by cases m.get s <;> rfl
 rwa [e] at this
theorem Agt {J : Ae} {U : Sto} {Rr : Rec} {x y : Operand} {m : SM Str} {s : Str} {r : Nat} (hx : Ak Ew J x = some (.mp r)) (hm : Bf sV U r m) (hy : Ak Ew J y = some (sV s)) :
  A0 Ew Rr (.lookup 274 x y true) J U (.tup [sV ((m.get s).getD []),.bool (m.get s).isSome]) U := by
 have := Px (Rr := Rr) st9 Ac0 hx hm hy
 have e : ((m.get s).map sV).getD (.str []) = sV ((m.get s).getD []) := by cases m.get s <;> rfl
 rwa [e] at this
theorem f217 (m : Nat) (k : Kn) (h : Hp) (U : Sto) (hk : Gk U m k) : Cv 217 [.agg (eH h),.pv [knV m]] U (.bool (k.hyps.get h.label).isSome) := by
 refine An Tryz.func217 rfl rfl fun hw hu0 => ?_
 refine G5 ?_;refine M6 4 zH (hcs (k.hyps.get h.label)) [(5,.bool (k.hyps.get h.label).isSome)] (Tl _) rfl (fun hw => ?_) ?_
 refine XX 1 (l := []) trivial ?_;refine G6 ?_;refine DF (Tm rfl hk.h rfl) ?_;refine G3 ?_;refine DT (Ct ziC) (DT (Aw (vs := zH) (vs' := hcs (k.hyps.get h.label)) ldC rfl rfl (A1 (I7 _)) Cf (Fj (I7 _))) ?_);refine G2 ?_
 exact ⟨(by intro e he; simp at he; rcases he with rfl | rfl <;> first | exact .refl | exact Te hw),⟨rfl,trivial⟩,sb,rfl,rfl⟩
 refine G6 ?_;refine Bb hw rfl ?_;exact rfl
def Ak5 (o : Option Hp) (b : Hp) : Bool := match o with | some a => Ak3 a b | none => false
theorem Asc (o : Option Hp) (b : Hp) (U : Sto) (ho : o.isSome = true) (hb : b.text.length < 4611686018427387904) : Cv 187 [.agg (hcs o),.agg (eH b)] U (.bool (Ak5 o b)) := by
 cases o with
 | none => cases ho
 | some a => exact f187 a b U hb
def Asd (h : Hp) (du : Bool) : Bool := ((!K6 [2] h.label || (du && !h.floating)) || (h.floating && !decide (Int.ofNat h.text.length = 2))) || (!h.floating && (decide (Int.ofNat h.text.length = 0) || decide ((200 : Int) < Int.ofNat h.text.length)))
def hypT (k : Kn) (h : Hp) : Int := if ((k.hyps.get h.label).isSome && !Ak5 (k.hyps.get h.label) h) = true then 6 else 0
def hypX (k : Kn) (ty : SM Str) (t0 t1 : Str) : Bool := ((k.types.get t1).isSome && !decide ((k.types.get t1).getD [] = t0)) || ((ty.get t1).isSome && !decide ((ty.get t1).getD [] = t0))
def Tn (k : Kn) (lab : SM Bool) (ty : SM Str) (h : Hp) (du : Bool) : Int :=
 if Asd h du = true then 2 else if ((k.isSym h.label || k.frames.has h.label) || lab.has h.label) = true then 6
 else if h.floating = true then
  if (!k.consts.has (h.text.headD []) || !k.vars.has (h.text.tail.headD [])) = true then 12
  else if hypX k ty (h.text.headD []) (h.text.tail.headD []) = true then 11
  else if (ty.get (h.text.tail.headD [])).isSome = true then 6 else hypT k h
 else if (!decide (k.textF h.text = 0)) = true then k.textF h.text else hypT k h
theorem f211p (m : Nat) (k : Kn) (ra rb : Nat) (lab : SM Bool) (ty : SM Str) (lb : Str) (fl : Bool) (tx : List Str) (du : Bool) (U : Sto) (hk : Gk U m k) (hl : E2 U ra lab) (ht : Bf sV U rb ty) (hb : tx.length < 1000000) : Cv 211 [knV m,.agg [.mp ra,.mp rb],.agg [sV lb,.bool fl,Aq tx],.bool du] U (iV (Tn k lab ty ⟨lb,fl,tx⟩ du)) := by
 refine An Tryz.func211 rfl rfl fun hw hu0 => ?_
 refine G11 ?_;refine Ag rfl rfl rfl rfl (f209 lb _) ?_;refine G2 ?_;refine TOr 6 ?_ (fun hg => ?_) ?_
 rotate_left
 ·iterate 2 refine Gn hg ?_
  refine Lx 3 _ ?_ rfl rfl rfl rfl rfl (I6 rfl rfl rfl rfl (by rw [hg]; rfl)) (fun hg => ?_) (fun hg => ?_) ?_
  rotate_left
  ·iterate 3 refine Gn hg ?_
   refine G ?_;refine ⟨rfl,?_,?_⟩
   ·exact sb
   ·exact rfl
  ·iterate 3 refine Gn hg ?_
   refine G ?_;exact ⟨rfl,sb⟩
  exact Ez
 refine G ?_;refine TOr 8 ?_ (fun hg => ?_) ?_
 rotate_left
 ·iterate 3 refine Gn hg ?_
  refine Lx 4 _ ?_ rfl rfl rfl rfl rfl (I6 rfl rfl rfl rfl (by rw [hg]; rfl)) (fun hg => ?_) (fun hg => ?_) ?_
  rotate_left
  ·iterate 4 refine Gn hg ?_
   refine G ?_;refine ⟨rfl,?_,?_⟩
   ·exact sb
   ·exact rfl
  ·iterate 4 refine Gn hg ?_
   refine G ?_;exact ⟨rfl,sb⟩
  exact Ez
 refine G ?_;refine TOr 15 ?_ (fun hg => ?_) ?_
 rotate_left
 ·iterate 4 refine Gn hg ?_
  refine Lx 10 _ ?_ rfl rfl rfl rfl rfl (I6 rfl rfl rfl rfl (by rw [hg]; rfl)) (fun hg => ?_) (fun hg => ?_) ?_
  rotate_left
  ·iterate 5 refine Gn hg ?_
   refine Acn 4 _ ?_ rfl rfl rfl rfl rfl (I6 rfl rfl rfl rfl (by rw [hg]; rfl)) (fun hg => ?_) (fun hg => ?_) ?_
   rotate_left
   ·iterate 4 refine Gn hg ?_
    refine G ?_;refine ⟨rfl,?_,?_⟩
    ·exact sb
    ·exact rfl
   ·iterate 4 refine Gn hg ?_
    refine G ?_;exact ⟨rfl,sb⟩
   refine G ?_;refine ⟨rfl,?_,?_⟩
   ·exact sb
   ·exact rfl
  ·iterate 10 refine Gn hg ?_
   refine G ?_;exact ⟨rfl,sb⟩
  exact Ez
 refine G ?_;refine Ab rfl ?_ ?_ <;> intro h1
 ·refine G5 ?_;refine Bb hw rfl ?_;exact congrArg iV (if_pos h1).symm
 ·refine G2 ?_
  refine Gg [(74,.bool ((k.isSym lb || k.frames.has lb) || lab.has lb))] ?_ ?_
  ·rcases au_ ((k.isSym lb)) with hg4 | hg4
   ·refine XS (l := [(208,[knV m,sV lb],U,.bool (k.isSym lb),U)]) ⟨Agr m k lb U hk,trivial⟩ ?_
    iterate 21 refine G ?_
    exact ⟨⟨Cb,trivial⟩,sb,rfl⟩
   ·rcases au_ ((k.frames.has lb)) with ba | ba
    ·refine XS (l := [(208,[knV m,sV lb],U,.bool (k.isSym lb),U)]) ⟨Agr m k lb U hk,trivial⟩ ?_
     refine DF (Al rfl) (DF (Aj fdC rfl rfl) (DF (Ad ldC rfl rfl rfl) (DT (Bg rfl rfl Bo) (DF (Al rfl) (Wn (w := by simp [ba,hg4]) (Al rfl) ?_)))))
     refine Wn (w := by simp [ba,hg4]) (Ex rfl) ?_
     refine Wn (w := by simp [ba,hg4]) (Aj fdC rfl rfl) ?_
     refine Wn (w := by simp [ba,hg4]) (Ad ldC rfl rfl rfl) ?_
     refine Wn (w := by simp [ba,hg4]) (Aj fdC rfl rfl) ?_
     refine Wn (w := by simp [ba,hg4]) (Ad ldC rfl rfl rfl) ?_
     refine Wn (w := by simp [ba,hg4]) (Cx st9 Cg rfl hk.f rfl) ?_
     refine DF (A7 rfl (by simp [ba,hg4]) rfl) ?_
     refine DF (Al rfl) (Wx (w := by simp [ba,hg4]) ?_)
     refine Wx (w := by simp [ba,hg4]) ?_
     refine Wx (w := by simp [ba,hg4]) ?_
     refine Wx (w := by simp [ba,hg4]) ?_
     refine Wx (w := by simp [ba,hg4]) ?_
     refine DF (B8 rfl (by simp [ba,hg4]) rfl) ?_
     refine Dq ?_
     exact ⟨⟨congrArg (fun b => some (AV.bool b)) (by simp [ba,hg4]),trivial⟩,sb,rfl⟩
    ·refine XS (l := [(208,[knV m,sV lb],U,.bool (k.isSym lb),U)]) ⟨Agr m k lb U hk,trivial⟩ ?_
     refine DF (Al rfl) (DF (Aj fdC rfl rfl) (DF (Ad ldC rfl rfl rfl) (DT (Bg rfl rfl Bo) (DF (Al rfl) (Wn (w := by simp [ba,hg4]) (Al rfl) ?_)))))
     refine Wn (w := by simp [ba,hg4]) (Ex rfl) ?_
     refine Wn (w := by simp [ba,hg4]) (Aj fdC rfl rfl) ?_
     refine Wn (w := by simp [ba,hg4]) (Ad ldC rfl rfl rfl) ?_
     refine Wn (w := by simp [ba,hg4]) (Aj fdC rfl rfl) ?_
     refine Wn (w := by simp [ba,hg4]) (Ad ldC rfl rfl rfl) ?_
     refine Wn (w := by simp [ba,hg4]) (Cx st9 Cg rfl hk.f rfl) ?_
     refine DF (A7 rfl (by simp [ba,hg4]) rfl) ?_
     refine DF (Al rfl) (Wn (w := by simp [ba,hg4]) (Aj fdC rfl rfl) ?_)
     refine Wn (w := by simp [ba,hg4]) (Ad ldC rfl rfl rfl) ?_
     refine Wn (w := by simp [ba,hg4]) (Aj fdC rfl rfl) ?_
     refine Wn (w := by simp [ba,hg4]) (Ad ldC rfl rfl rfl) ?_
     refine Wn (w := by simp [ba,hg4]) (Cx st9 Cg rfl hl rfl) ?_
     refine DF (A7 rfl (by simp [ba,hg4]) rfl) ?_
     refine Dq ?_
     exact ⟨⟨congrArg (fun b => some (AV.bool b)) (by simp [ba,hg4]),trivial⟩,sb,rfl⟩
  refine Ab rfl ?_ ?_ <;> intro h2
  ·refine G5 ?_;refine Bb hw rfl ?_;exact congrArg iV ((if_neg (fun hh => Bool.noConfusion (h1.symm.trans hh))).trans (if_pos h2)).symm
  ·refine G7 ?_;refine Ab rfl ?_ ?_ <;> intro h3
   ·have h3' : fl = true := h3;subst h3'
    obtain ⟨t0,t1,rfl⟩ : ∃ t0 t1,tx = [t0,t1] := by
     have h4 : tx.length = 2 := by simp at h1; omega
     match tx,h4 with
     | [a,b],_ => exact ⟨a,b,rfl⟩
    refine G ?_
    refine Gg [(98,.bool (!k.consts.has t0 || !k.vars.has t1))] ?_ ?_
    ·rcases au_ ((!k.consts.has t0)) with bl | bl
     ·refine X0 ?_;refine G6 ?_;refine DF (Ax elC (fun _ => rfl) rfl rfl rfl (i := 0)) ?_
      refine G ?_;refine DF (Cx st9 Cg rfl hk.c rfl) ?_
      iterate 14 refine G ?_
      exact ⟨rfl,rfl,⟨⟨Cb,trivial⟩,sb,rfl⟩⟩
     ·refine X0 ?_;refine G6 ?_;refine DF (Ax elC (fun _ => rfl) rfl rfl rfl (i := 0)) ?_
      refine G ?_;refine DF (Cx st9 Cg rfl hk.c rfl) ?_;refine G8 ?_;refine Xn (Ax elC (fun _ => rfl) rfl rfl rfl (i := 1)) ?_
      refine G ?_
      refine Wn (w := by simp [bl]) (Cx st9 Cg rfl hk.v rfl) ?_
      refine Wn (w := by simp [bl]) (F4 rfl) ?_
      refine DF (A7 rfl (by simp [bl]) rfl) ?_
      refine Dq ?_
      exact ⟨rfl,rfl,⟨⟨congrArg (fun b => some (AV.bool b)) (by simp [bl]),trivial⟩,sb,rfl⟩⟩
    refine Ab rfl ?_ ?_ <;> intro h4
    ·refine G5 ?_;refine Bb hw rfl ?_;exact congrArg iV ((if_neg (fun hh => Bool.noConfusion (h1.symm.trans hh))).trans ((if_neg (fun hh => Bool.noConfusion (h2.symm.trans hh))).trans ((if_pos h3).trans (if_pos h4)))).symm
    ·refine G2 ?_;refine X0 ?_;refine G4 ?_;refine DF (Ax elC (fun _ => rfl) rfl rfl rfl (i := 1)) ?_
     refine G ?_;refine DF (Agt rfl ht rfl) ?_;refine G6 ?_;refine ⟨rfl,rfl,?_⟩;refine G2 ?_;refine X0 ?_;refine G6 ?_;refine DF (Ax elC (fun _ => rfl) rfl rfl rfl (i := 1)) ?_
     refine G ?_;refine DF (Agt rfl hk.t rfl) ?_;refine G6 ?_;refine ⟨rfl,rfl,?_⟩;refine G4 ?_;refine TAn 6 ?_ (fun hg => ?_) ?_
     rotate_left
     ·iterate 3 refine Gn hg ?_
      refine On hg (Ax elC (fun _ => rfl) rfl rfl rfl (i := 0)) ?_
      refine Gn hg ?_;refine On hg (Ey okC rfl rfl) ?_;exact Ez
     refine G ?_;refine TOr 9 ?_ (fun hg => ?_) ?_
     rotate_left
     ·iterate 2 refine Gn hg ?_
      refine Lx 6 _ ?_ rfl rfl rfl rfl rfl (I6 rfl rfl rfl rfl (by rw [hg]; rfl)) (fun hg => ?_) (fun hg => ?_) ?_
      rotate_left
      ·iterate 3 refine Gn hg ?_
       refine On hg (Ax elC (fun _ => rfl) rfl rfl rfl (i := 0)) ?_
       refine Gn hg ?_;refine On hg (Ey okC rfl rfl) ?_;refine G ?_;refine ⟨rfl,?_,?_⟩
       ·exact sb
       ·exact rfl
      ·iterate 6 refine Gn hg ?_
       refine G ?_;exact ⟨rfl,sb⟩
      exact Ez
     refine G ?_;refine Ab rfl ?_ ?_ <;> intro h5
     ·refine G5 ?_;refine Bb hw rfl ?_;exact congrArg iV ((if_neg (fun hh => Bool.noConfusion (h1.symm.trans hh))).trans ((if_neg (fun hh => Bool.noConfusion (h2.symm.trans hh))).trans ((if_pos h3).trans ((if_neg (fun hh => Bool.noConfusion (h4.symm.trans hh))).trans (if_pos h5))))).symm
     ·refine G5 ?_;refine Ab rfl ?_ ?_ <;> intro h6
      ·refine G5 ?_;refine Bb hw rfl ?_;exact congrArg iV ((if_neg (fun hh => Bool.noConfusion (h1.symm.trans hh))).trans ((if_neg (fun hh => Bool.noConfusion (h2.symm.trans hh))).trans ((if_pos h3).trans ((if_neg (fun hh => Bool.noConfusion (h4.symm.trans hh))).trans ((if_neg (fun hh => Bool.noConfusion (h5.symm.trans hh))).trans (if_pos h6)))))).symm
      ·refine G2 ?_;refine M6 14 zH (hcs (k.hyps.get lb)) [(15,.bool (k.hyps.get lb).isSome)] (Tl _) rfl (fun hw => ?_) ?_
       refine XX 1 (l := []) trivial ?_;refine G6 ?_;refine DF (Tm rfl hk.h rfl) ?_;refine G3 ?_;refine DT (Ct ziC) (DT (Aw (vs := zH) (vs' := hcs (k.hyps.get lb)) ldC rfl rfl (A1 (I7 _)) Cf (Fj (I7 _))) ?_);refine G2 ?_
       exact ⟨(by intro e he; simp at he; rcases he with rfl | rfl <;> first | exact .refl | exact Te hw),⟨rfl,trivial⟩,sb,rfl,rfl⟩
       refine G4 ?_;refine TAn 4 ?_ (fun hg => ?_) ?_
       rotate_left
       ·refine On hg (Ad (v := .agg (hcs (k.hyps.get lb))) ldC rfl rfl (Bt (I7 _))) ?_;refine Gn hg ?_
        refine Bh rfl rfl rfl (by rw [hg]; rfl) rfl rfl rfl rfl (Asc _ ⟨lb,true,[t0,t1]⟩ _ hg (by simp)) ?_
        refine Gn hg ?_;exact Ez
       refine G ?_;refine Ab rfl ?_ ?_ <;> intro h7
       ·refine G5 ?_;refine Bb hw rfl ?_;exact congrArg iV ((if_neg (fun hh => Bool.noConfusion (h1.symm.trans hh))).trans ((if_neg (fun hh => Bool.noConfusion (h2.symm.trans hh))).trans ((if_pos h3).trans ((if_neg (fun hh => Bool.noConfusion (h4.symm.trans hh))).trans ((if_neg (fun hh => Bool.noConfusion (h5.symm.trans hh))).trans ((if_neg (fun hh => Bool.noConfusion (h6.symm.trans hh))).trans (if_pos h7))))))).symm
       ·refine G6 ?_;refine Bb hw rfl ?_;exact congrArg iV ((if_neg (fun hh => Bool.noConfusion (h1.symm.trans hh))).trans ((if_neg (fun hh => Bool.noConfusion (h2.symm.trans hh))).trans ((if_pos h3).trans ((if_neg (fun hh => Bool.noConfusion (h4.symm.trans hh))).trans ((if_neg (fun hh => Bool.noConfusion (h5.symm.trans hh))).trans ((if_neg (fun hh => Bool.noConfusion (h6.symm.trans hh))).trans (if_neg (fun hh => Bool.noConfusion (h7.symm.trans hh))))))))).symm
   ·refine G5 ?_;refine Ag rfl rfl rfl rfl (f212 m k tx _ hk Om) ?_;refine G7 ?_;refine Ab rfl ?_ ?_ <;> intro h4
    ·refine G6 ?_;refine Bb hw rfl ?_;exact congrArg iV ((if_neg (fun hh => Bool.noConfusion (h1.symm.trans hh))).trans ((if_neg (fun hh => Bool.noConfusion (h2.symm.trans hh))).trans ((if_neg (fun hh => Bool.noConfusion (h3.symm.trans hh))).trans (if_pos h4)))).symm
    ·refine G2 ?_;refine M6 14 zH (hcs (k.hyps.get lb)) [(15,.bool (k.hyps.get lb).isSome)] (Tl _) rfl (fun hw => ?_) ?_
     refine XX 1 (l := []) trivial ?_;refine G6 ?_;refine DF (Tm rfl hk.h rfl) ?_;refine G3 ?_;refine DT (Ct ziC) (DT (Aw (vs := zH) (vs' := hcs (k.hyps.get lb)) ldC rfl rfl (A1 (I7 _)) Cf (Fj (I7 _))) ?_);refine G2 ?_
     exact ⟨(by intro e he; simp at he; rcases he with rfl | rfl <;> first | exact .refl | exact Te hw),⟨rfl,trivial⟩,sb,rfl,rfl⟩
     refine G4 ?_;refine TAn 4 ?_ (fun hg => ?_) ?_
     rotate_left
     ·refine On hg (Ad (v := .agg (hcs (k.hyps.get lb))) ldC rfl rfl (Bt (I7 _))) ?_;refine Gn hg ?_
      refine Bh rfl rfl rfl (by rw [hg]; rfl) rfl rfl rfl rfl (Asc _ ⟨lb,fl,tx⟩ _ hg (by show tx.length < _; omega)) ?_
      refine Gn hg ?_;exact Ez
     refine G ?_;refine Ab rfl ?_ ?_ <;> intro h5
     ·refine G5 ?_;refine Bb hw rfl ?_;exact congrArg iV ((if_neg (fun hh => Bool.noConfusion (h1.symm.trans hh))).trans ((if_neg (fun hh => Bool.noConfusion (h2.symm.trans hh))).trans ((if_neg (fun hh => Bool.noConfusion (h3.symm.trans hh))).trans ((if_neg (fun hh => Bool.noConfusion (h4.symm.trans hh))).trans (if_pos h5))))).symm
     ·refine G6 ?_;refine Bb hw rfl ?_;exact congrArg iV ((if_neg (fun hh => Bool.noConfusion (h1.symm.trans hh))).trans ((if_neg (fun hh => Bool.noConfusion (h2.symm.trans hh))).trans ((if_neg (fun hh => Bool.noConfusion (h3.symm.trans hh))).trans ((if_neg (fun hh => Bool.noConfusion (h4.symm.trans hh))).trans (if_neg (fun hh => Bool.noConfusion (h5.symm.trans hh))))))).symm
theorem f211 (m : Nat) (k : Kn) (ra rb : Nat) (lab : SM Bool) (ty : SM Str) (h : Hp) (du : Bool) (U : Sto) (hk : Gk U m k) (hl : E2 U ra lab) (ht : Bf sV U rb ty) (hb : h.text.length < 1000000) :
  Cv 211 [knV m,.agg [.mp ra,.mp rb],.agg (eH h),.bool du] U (iV (Tn k lab ty h du)) := f211p m k ra rb lab ty h.label h.floating h.text du U hk hl ht hb
theorem Rm {f : Nat} {args : List AV} {U : Sto} {v : AV} (he : Q3 Ew.P f) (h : ∀ C w (vs : Array Value),RL C (nx U) w args vs.toList -> ∃ x,Calls Ew.P f vs w (fun e w' => e = .returned x /\ w' = w) /\ R C (nx U) w v x) : Ao Ew f args U fun u τ => u = v /\ τ = U := by
 intro C w vs hs hg ha;obtain ⟨x,h1,h2⟩ := h C w vs ha;refine ⟨he,h1.mono fun e w' hq => ?_⟩
 obtain ⟨rfl,rfl⟩ := hq;exact ⟨v,U,C,⟨rfl,rfl⟩,hs,by_ _ _ _,h2⟩
theorem Agu {C : Ctx} {N : Nat} {w : World} {s : Str} {x : Value} (h : R C N w (sV s) x) : ∃ b : ByteArray,x = .string b /\ b.data.toList = s := by
 unfold sV R at h;obtain ⟨b,h1,h2⟩ := h;exact ⟨b,h1,Fb.1 h2⟩
theorem Ajb {C : Ctx} {N : Nat} {w : World} {a b : AV} {vs : Array Value} (h : RL C N w [a,b] vs.toList) : ∃ x y,vs = #[x,y] /\ R C N w a x /\ R C N w b y := by
 obtain ⟨l⟩ := vs
 match l,h with
 | [],h => unfold RL at h; exact h.elim
 | [_],h => unfold RL at h; have := h.2; unfold RL at this; exact this.elim
 | [x,y],h => unfold RL at h; have := h.2; unfold RL at this; exact ⟨x,y,rfl,h.1,this.1⟩
 | _ :: _ :: _ :: _,h => unfold RL at h; have := h.2; unfold RL at this; have := this.2; unfold RL at this; exact this.elim
theorem f263 (s t : Str) (U : Sto) : Cv 263 [sV s,sV t] U (iV (Lib.compareBytes s t)) := by
 refine Rm ⟨_,Tryz.func263,rfl,rfl⟩ fun C w vs ha => ?_
 obtain ⟨x,y,rfl,hx,hy⟩ := Ajb ha;obtain ⟨a,rfl,rfl⟩ := Agu hx;obtain ⟨b,rfl,rfl⟩ := Agu hy
 exact ⟨_,Tryz.strings_Compare a b w,by unfold iV R; rfl⟩
theorem Ac5 {E : Env} {lf n f : Nat} {a₀ : List AV} {L : List Nat} {v₀ : AV} {o₀ : List AO} (ep : Be E (Jq E lf n)) (hgl : ∀ g cs,E.gl g = some cs -> AV.closeds [.pv cs] = true) (hcl : AV.closeds a₀ = true) (hL : L.Nodup)
  (bx : Af2 L (Jq E lf n f a₀ ⟨.e,0⟩) = some (v₀,o₀)) : Ev E f (S9 a₀ v₀ o₀) := by
 intro C w U args vs v U' hs hg bj h;unfold S9 at h
 split at h
 ·rename_i hb
  have := AV.beqs_eq _ _ hb;subst this
  split at h
  ·rename_i l hl
   cases h;unfold Af2 at bx
   split at bx
   ·rename_i v₁ U₁ dh
    split at bx
    ·rename_i l₀ hl₀
     cases bx
     have hGl : Gc C.iso 0 w E := by
      refine ⟨fun g cs hh => ?_,fun c P hc => by rw [C.iso_own]; exact hg.2 c P hc⟩
      have h1 : RL C (nx U) w [.pv cs] [.pointer (some ⟨g,0,none⟩)] := by unfold RL; exact ⟨hg.1 g cs hh,by unfold RL; trivial⟩
      have h2 : RL C.iso 0 w [.pv cs] [.pointer (some ⟨g,0,none⟩)] := RL.closed (fun c hc => by rwa [C.iso_own] at hc) _ _ (hgl g cs hh) h1
      unfold RL at h2; exact h2.1
     obtain ⟨jc,hc⟩ := ep f C.iso w ⟨.e,0⟩ args vs v₁ U₁ hs.iso hGl
      (RL.closed (fun c hc => by rwa [C.iso_own] at hc) _ _ hcl bj) dh
     refine ⟨jc,hc.mono fun e w' he => ?_⟩
     cases e with
     | returned x =>
      obtain ⟨C₁,h1,h2,h3⟩ := he;obtain ⟨C₂,k1,k2,k3⟩ := Akd hs.iso h1 (C.iso_own).symm rfl h2 h3 hL hl₀;have bv := Vi hl₀
      have hl2 : H6 (List.range o₀.length) (nx U) (Hi o₀ ⟨.e,0⟩) (List.range o₀.length) = some l := by
       rw [Q7 _ o₀ (by simp) fun i a ha => ?_]
       ·exact hl
       ·obtain ⟨g1,g2⟩ := aa_.1 ha
        simp at g1 g2
        subst g2
        rw [Hj,if_neg (by simp [nx])]
        simp only [nx,ed_];rw [an_ g1]
      exact Akd hs k1 rfl rfl k2 k3 List.nodup_range hl2
     | panicked _ => exact he.elim
     | outgrown => exact he.elim
    ·cases bx
   ·cases bx
  ·cases h
 ·cases h
theorem Ac6 (g : Nat) (cs : List AV) (h : Ew.gl g = some cs) : AV.closeds [.pv cs] = true := by
 have h : glW g = some cs := h;unfold glW at h
 split at h
 ·cases h; rfl
 ·cases h
def Amu (m : SM Bool) : List Str -> SM Bool × Nat -> SM Bool × Nat
 | [],q => q
 | s :: r,q => Amu m r (if m.has s then (q.1.put s true,q.2 + 1) else q)
def Ajc (m : SM Bool) : List (List Str) -> SM Bool × Nat -> SM Bool × Nat
 | [],q => q
 | t :: r,q => Ajc m r (Amu m t q)
def occM (m : SM Bool) (ll : List (List Str)) : SM Bool := (Ajc m ll ([],0)).1
def Qb (m : SM Bool) (ll : List (List Str)) : AO := .map 9 (B6 bV (occM m ll)) (Ajc m ll ([],0)).2
theorem undB {N : Nat} (m : SM Bool) : Ih N (B6 bV m) = true := Acp (fun _ => rfl) m
theorem f239x (r : Nat) (m : SM Bool) (ll : List (List Str)) (U : Sto) (hm : E2 U r m) (hb : ll.length < 2000000) (hb2 : ∀ t ∈ ll,t.length < 1000000) : Ao Ew 239 [.mp r,slV eL 1 ll] U fun v U' => v = .mp (nx U) /\ U' = U.new (Qb m ll) := by
 refine An Tryz.func239 rfl rfl fun hw hu0 => ?_
 refine G6 ?_;refine O1 (M0 Cg) ?_;refine G10 ?_
 refine Bq ll.length (fun i0 => [(0,.mp r),(5,.mp (nx U)),(11,slV eL 1 ll),(12,iV (.ofNat ll.length)),(13,iV (.ofNat i0))]) (fun i0 U0 => nx U < nx U0 /\ Below (nx U) U U0 /\ ∃ q,U0.get (nx U) = some (.map 9 (B6 bV q.1) q.2) /\ Ajc m ll ([],0) = Ajc m (ll.drop i0) q) SL ⟨by rw [Af]; omega,Below.rfl'.new nl _,([],0),by rw [ab_,if_pos rfl]; rfl,rfl⟩ ?_
 rintro i0 U0 hi0 ⟨hn0,cp,q0,ho0,hf0⟩;refine G5 ?_;refine Ab rfl ?_ ?_ <;> intro h1
 ·have bc : i0 < ll.length := by simpa using h1
  obtain ⟨a0,ha0⟩ := A6 bc;have hd0 := Ay ha0;have hb3 := hb2 a0 (ae_ ha0)
  iterate 16 refine G ?_
  refine Bq a0.length (fun i2 => [(0,.mp r),(5,.mp (nx U)),(11,slV eL 1 ll),(12,iV (.ofNat ll.length)),(13,iV (.ofNat i0)),(17,Aq a0),(18,iV (.ofNat a0.length)),(19,iV (.ofNat i2))]) (fun i2 U2 => nx U < nx U2 /\ Below (nx U) U U2 /\ ∃ q,U2.get (nx U) = some (.map 9 (B6 bV q.1) q.2) /\ Amu m a0 q0 = Amu m (a0.drop i2) q) SL ⟨hn0,cp,q0,ho0,rfl⟩ ?_
  rintro i2 U2 hi2 ⟨hn2,bn,q2,ho2,hf2⟩;refine G5 ?_;refine Ab rfl ?_ ?_ <;> intro h2
  ·have bw : i2 < a0.length := by simpa using h2
   obtain ⟨a2,ha2⟩ := A6 bw;have hd2 := Ay ha2;have hr := hm.lt hw;have hm2 : E2 U2 r m := hm.of_get (bn.2 r hr)
   iterate 13 refine G ?_
   refine O1 (Cx st9 Cg rfl hm2 rfl) ?_;refine G ?_;refine Ab rfl ?_ ?_ <;> intro h3
   ·refine G3 ?_
    refine O1 (Fl (v := true) st9 Cg rfl ho2 rfl rfl (fun te k1 k2 => by first | exact Gt k1 k2 | exact Hk k1 k2 | exact Gu k1 k2 | exact H8 k1 k2 | exact F8 k1 k2 rfl)) ?_
    refine G5 ?_
    refine ⟨bw,SL,by rw [Ac]; exact hn2,bn.set nl _,(q2.1.put a2 true,q2.2 + 1),by rw [a_,if_pos rfl],by rw [hf2,hd2,Amu,if_pos h3]⟩
   ·refine G5 ?_
    refine ⟨bw,SL,hn2,bn,q2,ho2,by rw [hf2,hd2,Amu,if_neg (by rw [h3]; simp)]⟩
  ·have b6 : a0.length <= i2 := by simpa using h2
   refine G5 ?_
   refine ⟨bc,SL,hn2,bn,q2,ho2,by rw [hf0,hd0,Ajc,hf2,ah_ b6]; rfl⟩
 ·have bk : ll.length <= i0 := by simpa using h1
  refine G6 ?_
  have hq : Ajc m ll ([],0) = q0 := by rw [hf0,ah_ bk]; rfl
  subst hq;refine G ?_
  exact ⟨_,rfl,_,U.new (Qb m ll),D5.newMap hw cp ho0 hn0 (undB _),by rw [Af]; exact eu_ _,.same (Ce (by rw [Af]; exact bj_ _)),rfl,rfl⟩
def cmpP (p q : Pr) : Int := if (!decide (Lib.compareBytes p.a q.a = 0)) = true then Lib.compareBytes p.a q.a else Lib.compareBytes p.b q.b
theorem f241 (p q : Pr) (U : Sto) : Cv 241 [.agg (eP p),.agg (eP q)] U (iV (cmpP p q)) := by
 refine An Tryz.func241 rfl rfl fun hw hu0 => ?_
 iterate 13 refine G ?_
 refine Ag rfl rfl rfl rfl (f263 p.a q.a _) ?_;refine G7 ?_;refine Ab rfl ?_ ?_ <;> intro h1
 ·refine G6 ?_;refine Bb hw rfl ?_;exact congrArg iV (if_pos h1).symm
 ·refine G7 ?_;refine Ag rfl rfl rfl rfl (f263 p.b q.b _) ?_;refine G3 ?_;refine Bb hw rfl ?_;exact congrArg iV (if_neg (fun hh => Bool.noConfusion (h1.symm.trans hh))).symm
def O4 (mu : SM Bool) : List Hp -> Nat -> Option Nat
 | [],n => some n
 | h :: r,n => if h.floating = true then (if (!mu.has (h.text.tail.headD [])) = true then none else O4 mu r (n + 1)) else O4 mu r n
def Ak6 (l : List Pr) (i : Nat) (p : Pr) : Bool := match i with
 | 0 => false
 | j + 1 => match l[j]? with | some q => decide ((0 : Int) <= cmpP q p) | none => false
theorem Ao0 {l : List Pr} {i : Nat} {p q : Pr} (h : 1 <= i) (hq : l[i - 1]? = some q) : Ak6 l i p = decide ((0 : Int) <= cmpP q p) := by
 cases i with
 | zero => omega
 | succ j => simp only [Nat.add_sub_cancel] at hq; simp only [Ak6,hq]
theorem Arb {l : List Pr} {i : Nat} {p : Pr} (h : i = 0) : Ak6 l i p = false := by subst h; rfl
def Vn (k : Kn) (l : List Pr) (i : Nat) (p : Pr) : Bool := ((!ltS p.a p.b || !k.vars.has p.a) || !k.vars.has p.b) || Ak6 l i p
def Ne (k : Kn) (l : List Pr) : List Pr -> Nat -> Bool
 | [],_ => false
 | p :: r,i => Vn k l i p || Ne k l r (i + 1)
def Ju (k : Kn) (f : Fr) : SM Bool := occM k.vars (f.text :: Hl f.hyps)
def P6 (mu : SM Bool) (l : List Pr) : List Pr := D9 (fun p => !mu.has p.a || !mu.has p.b) l
def Jg (k : Kn) (f : Fr) : Int := match O4 (Ju k f) f.hyps 0 with
 | none => 70
 | some n => if (!decide (Int.ofNat n = Int.ofNat (Ju k f).length)) = true then 70 else if Ne k f.wide f.wide 0 = true then 70 else if (!decide (f.apart = P6 (Ju k f) f.wide)) = true then 70 else 0
theorem Gk.new {U : Sto} {m : Nat} {k : Kn} {o : AO} (hw : WFS U) (h : Gk U m k) : Gk (U.new o) m k := ⟨h.c.new (h.c.lt hw),h.v.new (h.v.lt hw),h.f.new (h.f.lt hw),h.h.new (h.h.lt hw),h.t.new (h.t.lt hw)⟩
theorem f213 (m : Nat) (k : Kn) (f : Fr) (U : Sto) (hk : Gk U m k) (hb : f.hyps.length < 1000000) (hb2 : ∀ t ∈ f.text :: Hl f.hyps,t.length < 1000000) (hb3 : f.wide.length < 1000000) (hfl : ∀ h ∈ f.hyps,h.floating = true -> ∃ a b,h.text = [a,b]) : Cv 213 [knV m,.agg (eF f)] U (iV (Jg k f)) := by
 refine An Tryz.func213 rfl rfl fun hw hu0 => ?_
 refine G6 ?_
 refine XX 1 (l := [(240,[slV eH 3 f.hyps,Aq f.text],U,slV eL 1 (f.text :: Hl f.hyps),U),(239,[.mp (m + 1),slV eL 1 (f.text :: Hl f.hyps)],U,.mp (nx U),(U.new (Qb k.vars (f.text :: Hl f.hyps))))]) ⟨f240 f.hyps f.text U hb,f239x (m + 1) k.vars (f.text :: Hl f.hyps) U hk.v (by have := Ak4 (l := f.hyps); simp; omega) hb2,trivial⟩ ?_
 refine G9 ?_
 refine DT (Bg rfl rfl (B5 (by decide) Bo)) ?_
 refine G2 ?_
 refine ⟨(by intro e he; simp at he; subst he; exact .refl),?_⟩
 refine G12 ?_;have hmu : E2 (U.new (Qb k.vars (f.text :: Hl f.hyps))) (nx U) (Ju k f) := Bf.fresh;have hk1 : Gk (U.new (Qb k.vars (f.text :: Hl f.hyps))) m k := hk.new hw;refine G ?_;refine B3 (fun q : Nat × AV => [(0,knV m),(3,.pv (eF f)),(5,.mp (nx U)),(6,q.2),(22,slV eH 3 f.hyps),(23,iV (.ofNat f.hyps.length)),(24,iV (.ofNat q.1))]) (fun q U0 => q.1 <= f.hyps.length /\ U0 = (U.new (Qb k.vars (f.text :: Hl f.hyps))) /\ ∃ n,q.2 = iV (.ofNat n) /\ n <= q.1 /\ O4 (Ju k f) f.hyps 0 = O4 (Ju k f) (f.hyps.drop q.1) n) (fun q => f.hyps.length - q.1) (0,iV (.ofNat 0)) SL ⟨bh_ _,rfl,0,rfl,nl,rfl⟩ ?_
 rintro ⟨i0,v0⟩ U0 hP0;obtain ⟨hi0,rfl,n,hvn,hni,hf0⟩ : i0 <= f.hyps.length /\ U0 = (U.new (Qb k.vars (f.text :: Hl f.hyps))) /\ ∃ n,v0 = iV (.ofNat n) /\ n <= i0 /\ O4 (Ju k f) f.hyps 0 = O4 (Ju k f) (f.hyps.drop i0) n := hP0;refine G5 ?_;refine Ab rfl ?_ ?_ <;> intro h1
 ·have bc : i0 < f.hyps.length := by simpa using h1
  obtain ⟨a0,ha0⟩ := A6 bc;have hd0 := Ay ha0;subst hvn
  iterate 14 refine G ?_
  refine Ab rfl ?_ ?_ <;> intro h2
  ·have h2' : a0.floating = true := h2;obtain ⟨ta,tb,htx⟩ := hfl a0 (ae_ ha0) h2';refine G6 ?_
   refine O1 (Ax elC (fun _ => rfl) rfl rfl (by rw [htx]; rfl : a0.text[1]? = some tb) (i := 1)) ?_
   refine G ?_;refine O1 (Cx st9 Cg rfl hmu rfl) ?_;refine G2 ?_;refine Ab rfl ?_ ?_ <;> intro h3
   ·refine G4 ?_
    have hS : Jg k f = 70 := by rw [Jg,hf0,hd0,O4,if_pos h2',if_pos (by rw [htx]; exact h3)]
    refine G ?_;exact ⟨_,rfl,_,U,as_ hw (Below.rfl'.new nl _),nl,.same rfl,congrArg iV hS.symm,rfl⟩
   ·refine G3 ?_;refine O1 (Dg (p := n) (q := 1) okC rfl rfl Om) ?_;refine G6 ?_
    refine ⟨(i0 + 1,iV (.ofNat (n + 1))),by show f.hyps.length - (i0 + 1) < f.hyps.length - i0; omega,SL,bc,rfl,n + 1,rfl,by omega,by rw [hf0,hd0,O4,if_pos h2',if_neg (by rw [htx]; exact fun hh => Bool.noConfusion (h3.symm.trans hh))]⟩
  ·have h2' : a0.floating = false := h2;refine G5 ?_
   refine ⟨(i0 + 1,iV (.ofNat n)),by show f.hyps.length - (i0 + 1) < f.hyps.length - i0; omega,SL,bc,rfl,n,rfl,by omega,by rw [hf0,hd0,O4,if_neg (by rw [h2']; simp)]⟩
 ·have bk : f.hyps.length <= i0 := by simpa using h1
  subst hvn
  have hs : O4 (Ju k f) f.hyps 0 = some n := by rw [hf0,ah_ bk]; rfl
  refine G6 ?_;refine O1 (Aq1 Cg rfl hmu) ?_;refine G2 ?_;refine Ab rfl ?_ ?_ <;> intro h2
  ·refine G4 ?_
   have hS : Jg k f = 70 := by rw [Jg,hs]; exact if_pos h2
   refine G ?_;exact ⟨_,rfl,_,U,as_ hw (Below.rfl'.new nl _),nl,.same rfl,congrArg iV hS.symm,rfl⟩
  ·refine G10 ?_;refine Bq f.wide.length (fun i2 => [(0,knV m),(3,.pv (eF f)),(5,.mp (nx U)),(45,slV eP 2 f.wide),(46,iV (.ofNat f.wide.length)),(47,iV (.ofNat i2))]) (fun i2 U2 => U2 = (U.new (Qb k.vars (f.text :: Hl f.hyps))) /\ Ne k f.wide f.wide 0 = Ne k f.wide (f.wide.drop i2) i2) SL ⟨rfl,rfl⟩ ?_
   rintro i2 U2 hi2 ⟨rfl,hf2⟩;refine G5 ?_;refine Ab rfl ?_ ?_ <;> intro h3
   ·have bw : i2 < f.wide.length := by simpa using h3
    obtain ⟨a2,ha2⟩ := A6 bw;have hd2 := Ay ha2;refine G8 ?_;refine M5 ziC ldC rfl rfl (fun _ => rfl) rfl (fun _ => rfl) rfl rfl rfl rfl rfl ?_
    refine G ?_;refine Gg [(91,.bool (Vn k f.wide i2 a2))] ?_ ?_
    ·rcases au_ (!ltS a2.a a2.b) with hg5 | hg5
     ·refine XS (l := []) trivial ?_;refine G4 ?_;refine DF (Zp okC rfl rfl) ?_;refine G ?_
      refine Wx (w := by simp [hg5]) ?_
      refine Wx (w := by simp [hg5]) ?_
      refine Wx (w := by simp [hg5]) ?_
      refine Wx (w := by simp [hg5]) ?_
      refine Wx (w := by simp [hg5]) ?_
      refine Wx (w := by simp [hg5]) ?_
      refine Wx (w := by simp [hg5]) ?_
      refine Wx (w := by simp [hg5]) ?_
      refine DF (B8 rfl (by simp [hg5]) rfl) ?_
      refine DF (Al rfl) (Wx (w := by simp [hg5]) ?_)
      refine Wx (w := by simp [hg5]) ?_
      refine Wx (w := by simp [hg5]) ?_
      refine Wx (w := by simp [hg5]) ?_
      refine Wx (w := by simp [hg5]) ?_
      refine Wx (w := by simp [hg5]) ?_
      refine Wx (w := by simp [hg5]) ?_
      refine Wx (w := by simp [hg5]) ?_
      refine DF (B8 rfl (by simp [hg5]) rfl) ?_
      refine DF (Al rfl) (Wx (w := by simp [hg5]) ?_)
      refine Wx (w := by simp [hg5]) ?_
      refine Wx (w := by simp [hg5]) ?_
      refine Du (Du (Du (Du (Du (Du (Du (Xw (e := true) rfl rfl rfl rfl rfl rfl ?_)))))))
      refine Du (Wx (w := by simp [hg5]) ?_)
      refine DF (B8 rfl (by simp [hg5]) rfl) ?_
      refine Dq ?_
      exact ⟨⟨congrArg (fun b => some (AV.bool b)) (by unfold Vn; rw [hg5]; rfl),trivial⟩,sb,rfl⟩
     ·rcases au_ (!k.vars.has a2.a) with bf | bf
      ·refine XS (l := []) trivial ?_
       refine DF (Aj fdC rfl rfl) (DF (Ad ldC rfl rfl rfl) (DF (Aj fdC rfl rfl) (DF (Ad ldC rfl rfl rfl) (DF (Zp okC rfl rfl) (DF (Al rfl) (Wn (w := by simp [bf,hg5]) (Al rfl) ?_))))))
       refine Wn (w := by simp [bf,hg5]) (Ex rfl) ?_
       refine Wn (w := by simp [bf,hg5]) (Aj fdC rfl rfl) ?_
       refine Wn (w := by simp [bf,hg5]) (Ad ldC rfl rfl rfl) ?_
       refine Wn (w := by simp [bf,hg5]) (Aj fdC rfl rfl) ?_
       refine Wn (w := by simp [bf,hg5]) (Ad ldC rfl rfl rfl) ?_
       refine Wn (w := by simp [bf,hg5]) (Cx st9 Cg rfl hk1.v rfl) ?_
       refine Wn (w := by simp [bf,hg5]) (F4 rfl) ?_
       refine DF (A7 rfl (by simp [bf,hg5]) rfl) ?_
       refine DF (Al rfl) (Wx (w := by simp [bf,hg5]) ?_)
       refine Wx (w := by simp [bf,hg5]) ?_
       refine Wx (w := by simp [bf,hg5]) ?_
       refine Wx (w := by simp [bf,hg5]) ?_
       refine Wx (w := by simp [bf,hg5]) ?_
       refine Wx (w := by simp [bf,hg5]) ?_
       refine Wx (w := by simp [bf,hg5]) ?_
       refine Wx (w := by simp [bf,hg5]) ?_
       refine DF (B8 rfl (by simp [bf,hg5]) rfl) ?_
       refine DF (Al rfl) (Wx (w := by simp [bf,hg5]) ?_)
       refine Wx (w := by simp [bf,hg5]) ?_
       refine Wx (w := by simp [bf,hg5]) ?_
       refine Du (Du (Du (Du (Du (Du (Du (Xw (e := true) rfl rfl rfl rfl rfl rfl ?_)))))))
       refine Du (Wx (w := by simp [bf,hg5]) ?_)
       refine DF (B8 rfl (by simp [bf,hg5]) rfl) ?_
       refine Dq ?_
       exact ⟨⟨congrArg (fun b => some (AV.bool b)) (by unfold Vn; rw [hg5,bf]; rfl),trivial⟩,sb,rfl⟩
      ·rcases au_ (!k.vars.has a2.b) with bg | bg
       ·refine XS (l := []) trivial ?_
        refine DF (Aj fdC rfl rfl) (DF (Ad ldC rfl rfl rfl) (DF (Aj fdC rfl rfl) (DF (Ad ldC rfl rfl rfl) (DF (Zp okC rfl rfl) (DF (Al rfl) (Wn (w := by simp [bg,bf,hg5]) (Al rfl) ?_))))))
        refine Wn (w := by simp [bg,bf,hg5]) (Ex rfl) ?_
        refine Wn (w := by simp [bg,bf,hg5]) (Aj fdC rfl rfl) ?_
        refine Wn (w := by simp [bg,bf,hg5]) (Ad ldC rfl rfl rfl) ?_
        refine Wn (w := by simp [bg,bf,hg5]) (Aj fdC rfl rfl) ?_
        refine Wn (w := by simp [bg,bf,hg5]) (Ad ldC rfl rfl rfl) ?_
        refine Wn (w := by simp [bg,bf,hg5]) (Cx st9 Cg rfl hk1.v rfl) ?_
        refine Wn (w := by simp [bg,bf,hg5]) (F4 rfl) ?_
        refine DF (A7 rfl (by simp [bg,bf,hg5]) rfl) ?_
        refine DF (Al rfl) (Wn (w := by simp [bg,bf,hg5]) (Al rfl) ?_)
        refine Wn (w := by simp [bg,bf,hg5]) (Ex rfl) ?_
        refine Wn (w := by simp [bg,bf,hg5]) (Aj fdC rfl rfl) ?_
        refine Wn (w := by simp [bg,bf,hg5]) (Ad ldC rfl rfl rfl) ?_
        refine Wn (w := by simp [bg,bf,hg5]) (Aj fdC rfl rfl) ?_
        refine Wn (w := by simp [bg,bf,hg5]) (Ad ldC rfl rfl rfl) ?_
        refine Wn (w := by simp [bg,bf,hg5]) (Cx st9 Cg rfl hk1.v rfl) ?_
        refine Wn (w := by simp [bg,bf,hg5]) (F4 rfl) ?_
        refine DF (A7 rfl (by simp [bg,bf,hg5]) rfl) ?_
        refine DF (Al rfl) (Wx (w := by simp [bg,bf,hg5]) ?_)
        refine Wx (w := by simp [bg,bf,hg5]) ?_
        refine Wx (w := by simp [bg,bf,hg5]) ?_
        refine Du (Du (Du (Du (Du (Du (Du (Xw (e := true) rfl rfl rfl rfl rfl rfl ?_)))))))
        refine Du (Wx (w := by simp [bg,bf,hg5]) ?_)
        refine DF (B8 rfl (by simp [bg,bf,hg5]) rfl) ?_
        refine Dq ?_
        exact ⟨⟨congrArg (fun b => some (AV.bool b)) (by unfold Vn; rw [hg5,bf,bg]; rfl),trivial⟩,sb,rfl⟩
       ·rcases au_ (decide ((0 : Int) < Int.ofNat i2)) with bm | bm
        ·have h1i : 0 < i2 := by simpa using bm
         obtain ⟨pq,hpq⟩ := A6 (show i2 - 1 < f.wide.length by omega)
         refine XS (l := [(241,[.agg (eP pq),.agg (eP a2)],(U.new (Qb k.vars (f.text :: Hl f.hyps))),iV (cmpP pq a2),(U.new (Qb k.vars (f.text :: Hl f.hyps))))]) ⟨f241 pq a2 _,trivial⟩ ?_
         refine DF (Aj fdC rfl rfl) (DF (Ad ldC rfl rfl rfl) (DF (Aj fdC rfl rfl) (DF (Ad ldC rfl rfl rfl) (DF (Zp okC rfl rfl) (DF (Al rfl) (Wn (w := by simp [bm,bg,bf,hg5]) (Al rfl) ?_))))))
         refine Wn (w := by simp [bm,bg,bf,hg5]) (Ex rfl) ?_
         refine Wn (w := by simp [bm,bg,bf,hg5]) (Aj fdC rfl rfl) ?_
         refine Wn (w := by simp [bm,bg,bf,hg5]) (Ad ldC rfl rfl rfl) ?_
         refine Wn (w := by simp [bm,bg,bf,hg5]) (Aj fdC rfl rfl) ?_
         refine Wn (w := by simp [bm,bg,bf,hg5]) (Ad ldC rfl rfl rfl) ?_
         refine Wn (w := by simp [bm,bg,bf,hg5]) (Cx st9 Cg rfl hk1.v rfl) ?_
         refine Wn (w := by simp [bm,bg,bf,hg5]) (F4 rfl) ?_
         refine DF (A7 rfl (by simp [bm,bg,bf,hg5]) rfl) ?_
         refine DF (Al rfl) (Wn (w := by simp [bm,bg,bf,hg5]) (Al rfl) ?_)
         refine Wn (w := by simp [bm,bg,bf,hg5]) (Ex rfl) ?_
         refine Wn (w := by simp [bm,bg,bf,hg5]) (Aj fdC rfl rfl) ?_
         refine Wn (w := by simp [bm,bg,bf,hg5]) (Ad ldC rfl rfl rfl) ?_
         refine Wn (w := by simp [bm,bg,bf,hg5]) (Aj fdC rfl rfl) ?_
         refine Wn (w := by simp [bm,bg,bf,hg5]) (Ad ldC rfl rfl rfl) ?_
         refine Wn (w := by simp [bm,bg,bf,hg5]) (Cx st9 Cg rfl hk1.v rfl) ?_
         refine Wn (w := by simp [bm,bg,bf,hg5]) (F4 rfl) ?_
         refine DF (A7 rfl (by simp [bm,bg,bf,hg5]) rfl) ?_
         refine DF (Al rfl) (Wn (w := by simp [bm,bg,bf,hg5]) (Al rfl) ?_)
         refine Wn (w := by simp [bm,bg,bf,hg5]) (Aee (q := 0) okC rfl rfl) ?_
         refine Wn (w := by simp [bm,bg,bf,hg5]) (Al rfl) ?_
         refine Wn (w := by simp only [bm,bg,bf,hg5]<;>rfl) (Aj fdC rfl rfl) ?_
         refine Wn (w := by simp only [bm,bg,bf,hg5]<;>rfl) (Ad ldC rfl rfl rfl) ?_
         refine Wn (w := by simp only [bm,bg,bf,hg5]<;>rfl) (Al rfl) ?_
         refine Wn (w := by simp only [bm,bg,bf,hg5]<;>rfl) (Ly (p := i2) (q := 1) okC rfl rfl Om Om) ?_
         refine Wn (w := by simp only [bm,bg,bf,hg5]<;>rfl) (Ax elC (fun _ => rfl) rfl rfl hpq) ?_
         refine Wn (w := by simp only [bm,bg,bf,hg5]<;>rfl) (Ad ldC rfl rfl rfl) ?_
         refine Wn (w := by simp only [bm,bg,bf,hg5]<;>rfl) (Ad ldC rfl rfl rfl) ?_
         refine Ow (e := true) rfl rfl rfl rfl (by simp only [bm,bg,bf,hg5]<;>rfl) rfl rfl (Bg rfl rfl Bo) ?_
         refine Wn (w := by simp only [bm,bg,bf,hg5]<;>rfl) (Aif (q := 0) okC rfl rfl) ?_
         refine Wn (w := by simp only [bm,bg,bf,hg5]<;>rfl) (B8 rfl (by simp only [bm,bg,bf,hg5]<;>rfl) rfl) ?_
         refine DF (A7 rfl (by simp [bm,bg,bf,hg5]) rfl) ?_
         refine Dq ?_
         exact ⟨⟨congrArg (fun b => some (AV.bool b)) (by unfold Vn; rw [hg5,bf,bg,Ao0 h1i hpq]; rfl),trivial⟩,sb,rfl⟩
        ·refine XS (l := []) trivial ?_
         refine DF (Aj fdC rfl rfl) (DF (Ad ldC rfl rfl rfl) (DF (Aj fdC rfl rfl) (DF (Ad ldC rfl rfl rfl) (DF (Zp okC rfl rfl) (DF (Al rfl) (Wn (w := by simp [bm,bg,bf,hg5]) (Al rfl) ?_))))))
         refine Wn (w := by simp [bm,bg,bf,hg5]) (Ex rfl) ?_
         refine Wn (w := by simp [bm,bg,bf,hg5]) (Aj fdC rfl rfl) ?_
         refine Wn (w := by simp [bm,bg,bf,hg5]) (Ad ldC rfl rfl rfl) ?_
         refine Wn (w := by simp [bm,bg,bf,hg5]) (Aj fdC rfl rfl) ?_
         refine Wn (w := by simp [bm,bg,bf,hg5]) (Ad ldC rfl rfl rfl) ?_
         refine Wn (w := by simp [bm,bg,bf,hg5]) (Cx st9 Cg rfl hk1.v rfl) ?_
         refine Wn (w := by simp [bm,bg,bf,hg5]) (F4 rfl) ?_
         refine DF (A7 rfl (by simp [bm,bg,bf,hg5]) rfl) ?_
         refine DF (Al rfl) (Wn (w := by simp [bm,bg,bf,hg5]) (Al rfl) ?_)
         refine Wn (w := by simp [bm,bg,bf,hg5]) (Ex rfl) ?_
         refine Wn (w := by simp [bm,bg,bf,hg5]) (Aj fdC rfl rfl) ?_
         refine Wn (w := by simp [bm,bg,bf,hg5]) (Ad ldC rfl rfl rfl) ?_
         refine Wn (w := by simp [bm,bg,bf,hg5]) (Aj fdC rfl rfl) ?_
         refine Wn (w := by simp [bm,bg,bf,hg5]) (Ad ldC rfl rfl rfl) ?_
         refine Wn (w := by simp [bm,bg,bf,hg5]) (Cx st9 Cg rfl hk1.v rfl) ?_
         refine Wn (w := by simp [bm,bg,bf,hg5]) (F4 rfl) ?_
         refine DF (A7 rfl (by simp [bm,bg,bf,hg5]) rfl) ?_
         refine DF (Al rfl) (Wn (w := by simp [bm,bg,bf,hg5]) (Al rfl) ?_)
         refine Wn (w := by simp [bm,bg,bf,hg5]) (Aee (q := 0) okC rfl rfl) ?_
         refine Wn (w := by simp [bm,bg,bf,hg5]) (Al rfl) ?_
         refine Wx (w := by simp only [bm,bg,bf,hg5]<;>rfl) ?_
         refine Wx (w := by simp only [bm,bg,bf,hg5]<;>rfl) ?_
         refine Wx (w := by simp only [bm,bg,bf,hg5]<;>rfl) ?_
         refine Wx (w := by simp only [bm,bg,bf,hg5]<;>rfl) ?_
         refine Wx (w := by simp only [bm,bg,bf,hg5]<;>rfl) ?_
         refine Wx (w := by simp only [bm,bg,bf,hg5]<;>rfl) ?_
         refine Wx (w := by simp only [bm,bg,bf,hg5]<;>rfl) ?_
         refine Rd (e := true) rfl rfl rfl rfl (by simp only [bm,bg,bf,hg5]<;>rfl) rfl rfl ?_
         refine Wx (w := by simp only [bm,bg,bf,hg5]<;>rfl) ?_
         refine Wn (w := by simp only [bm,bg,bf,hg5]<;>rfl) (A7 rfl (by simp only [bm,bg,bf,hg5]<;>rfl) rfl) ?_
         refine DF (A7 rfl (by simp [bm,bg,bf,hg5]) rfl) ?_
         refine Dq ?_
         exact ⟨⟨congrArg (fun b => some (AV.bool b)) (by unfold Vn; rw [hg5,bf,bg,Arb (by simpa using bm)]; rfl),trivial⟩,sb,rfl⟩
    refine Ab rfl ?_ ?_ <;> intro h4
    ·refine G4 ?_
     have hS : Jg k f = 70 := by rw [Jg,hs]; exact (if_neg (fun hh => Bool.noConfusion (h2.symm.trans hh))).trans (if_pos (by rw [hf2,hd2,Ne,h4]; rfl))
     refine G ?_;exact ⟨_,rfl,_,U,as_ hw (Below.rfl'.new nl _),nl,.same rfl,congrArg iV hS.symm,rfl⟩
    ·have hx4 : Vn k f.wide i2 a2 = false := h4;refine G5 ?_
     refine ⟨bw,SL,rfl,by rw [hf2,hd2,Ne,hx4]; rfl⟩
   ·have b6 : f.wide.length <= i2 := by simpa using h3
    have hwb : Ne k f.wide f.wide 0 = false := by rw [hf2,ah_ b6]; rfl
    refine G3 ?_
    refine XX 1 (l := [(243,[.mp (nx U),slV eP 2 f.wide],(U.new (Qb k.vars (f.text :: Hl f.hyps))),slV eP 2 (P6 (Ju k f) f.wide),(U.new (Qb k.vars (f.text :: Hl f.hyps)))),(242,[slV eP 2 f.apart,slV eP 2 (P6 (Ju k f) f.wide)],(U.new (Qb k.vars (f.text :: Hl f.hyps))),.bool (decide (f.apart = P6 (Ju k f) f.wide)),(U.new (Qb k.vars (f.text :: Hl f.hyps))))]) ⟨f243 (nx U) (Ju k f) f.wide (U.new (Qb k.vars (f.text :: Hl f.hyps))) hmu hb3,f242 f.apart (P6 (Ju k f) f.wide) (U.new (Qb k.vars (f.text :: Hl f.hyps))) (by have := Hb (p := fun p : Pr => !(Ju k f).has p.a || !(Ju k f).has p.b) (l := f.wide); unfold P6; omega),trivial⟩ ?_
    refine G9 ?_
    refine ⟨(by intro e he; simp at he; subst he; exact .refl),?_⟩
    refine Ab rfl ?_ ?_ <;> intro h4
    ·refine G4 ?_
     have hS : Jg k f = 70 := by rw [Jg,hs]; exact (if_neg (fun hh => Bool.noConfusion (h2.symm.trans hh))).trans ((if_neg (fun hh => Bool.noConfusion (hwb.symm.trans hh))).trans (if_pos h4))
     refine G ?_;exact ⟨_,rfl,_,U,as_ hw (Below.rfl'.new nl _),nl,.same rfl,congrArg iV hS.symm,rfl⟩
    ·refine G5 ?_
     have hS : Jg k f = 0 := by rw [Jg,hs]; exact (if_neg (fun hh => Bool.noConfusion (h2.symm.trans hh))).trans ((if_neg (fun hh => Bool.noConfusion (hwb.symm.trans hh))).trans (if_neg (fun hh => Bool.noConfusion (h4.symm.trans hh))))
     refine G ?_;exact ⟨_,rfl,_,U,as_ hw (Below.rfl'.new nl _),nl,.same rfl,congrArg iV hS.symm,rfl⟩
theorem Agv (k : Nat) (U : Sto) : Cv 283 [.fn (.func k) [] []] U (.fn (.func 284) [] [.pv [.fn (.func k) [] []]]) := by
 refine An Tryz.func283 rfl rfl fun hw hu0 => ?_
 refine G11 ?_;refine Bb hw rfl ?_;exact rfl
theorem Agw (k : Nat) (s : Str) (b : Bool) (U : Sto) (hk : Cv k [sV s] U (.bool b)) : Cv 284 [sV s,.pv [.fn (.func k) [] []]] U (.bool (!b)) := by
 refine An Tryz.func284 rfl rfl fun hw hu0 => ?_
 refine G8 ?_;refine Ag rfl rfl rfl rfl hk ?_;refine G4 ?_;refine Bb hw rfl ?_;exact rfl
structure Stm where
 kind : Int
 label : Str
 text : List Str
 proof : List Str
def eSt (s : Stm) : List AV := [iV s.kind,sV s.label,Aq s.text,Aq s.proof]
theorem f282 (p : Stm -> Bool) (l : List Stm) (k : Nat) (cap : List AV) (U : Sto) (hb : l.length < 1000000) (hk : ∀ a ∈ l,Ao Ew k ([.agg (eSt a)] ++ cap) U fun v U' => v = .bool (p a) /\ U' = U) : Cv 282 [slV eSt 4 l,.fn (.func k) [] cap] U (iV (A2 p l 0)) := by
 refine An Tryz.func282 rfl rfl fun hw hu0 => ?_
 refine G12 ?_;refine Bq l.length (fun i0 => [(0,slV eSt 4 l),(1,.fn (.func k) [] cap),(7,iV (.ofNat l.length)),(8,iV (.ofNat i0))]) (fun i0 U0 => U0 = U /\ A2 p l 0 = A2 p (l.drop i0) i0) SL ⟨rfl,rfl⟩ ?_
 rintro i0 U0 hi0 ⟨rfl,hf0⟩;refine G5 ?_;refine Ab rfl ?_ ?_ <;> intro h1
 ·have bc : i0 < l.length := by simpa using h1
  obtain ⟨a0,ha0⟩ := A6 bc;have hd0 := Ay ha0
  iterate 15 refine G ?_
  refine Ag rfl rfl rfl rfl (hk a0 (ae_ ha0)) ?_;refine G ?_;refine Ab rfl ?_ ?_ <;> intro h2
  ·refine G6 ?_;refine Bb hw rfl ?_
   exact (by rw [hf0,hd0]; simp only [A2,h2,cond_true]; rfl)
  ·refine G5 ?_
   refine ⟨bc,SL,rfl,by rw [hf0,hd0]; simp only [A2,h2,cond_false]⟩
 ·have bk : l.length <= i0 := by simpa using h1
  refine G6 ?_;refine Bb hw rfl ?_
  exact (by rw [hf0,ah_ bk]; rfl)
theorem f267 (p : Stm -> Bool) (l : List Stm) (k : Nat) (cap : List AV) (U : Sto) (hb : l.length < 1000000) (hk : ∀ a ∈ l,Ao Ew k ([.agg (eSt a)] ++ cap) U fun v U' => v = .bool (p a) /\ U' = U) : Cv 267 [slV eSt 4 l,.fn (.func k) [] cap] U (.bool (l.any p)) := by
 refine An Tryz.func267 rfl rfl fun hw hu0 => ?_
 refine G8 ?_;refine Ag rfl rfl rfl rfl (f282 p l k cap U hb hk) ?_;refine G4 ?_;refine Bb hw rfl ?_;exact congrArg AV.bool (E1 l)
theorem labX : K6 [2] [120] = true := Kr
theorem symX : K6 [2,3] [120] = true := Kr
theorem Mf {f f' : Nat} {a a' : List AV} {s s' t : Sto} {v : AV} {r : List (Nat × List AV × Sto × AV × Sto)} {o : Option (AV × Sto)} (h : a' ≠ a) (k : Dl r f' a' t = o) : Dl ((f,a,s,v,s') :: r) f' a' t = o := by
 simp only [Dl]; rw [if_neg (fun hh => h hh.2.1)]; exact k
def stX (s : Str) : List AV := [iV 7,sV [120],Aq [[120]],Aq [s]]
theorem f269 (s : Str) (b : Bool) (U : Sto) (hp : Cv 285 [sV s] U (.bool b)) : Cv 269 [.agg (stX s)] U (.bool b) := by
 refine An Tryz.func269 rfl rfl fun hw hu0 => ?_
 refine G12 ?_;refine TOr 3 ?_ (fun hg => ?_) ?_
 rotate_left
 ·iterate 3 refine Gn hg ?_
  exact Ez
 refine G ?_;refine Ab rfl ?_ ?_ <;> intro h1
 ·exact absurd h1 (by decide)
 ·refine G5 ?_
  refine O1 (Cl Asb rfl rfl (by decide) (n := 7) rfl) ?_
  refine G9 ?_;refine Lx 4 _ ?_ rfl rfl rfl rfl rfl (Md rfl) (fun hg => ?_) (fun hg => ?_) ?_
  rotate_left
  ·iterate 2 refine Gn hg ?_
   refine Bh rfl rfl rfl (by rw [hg]; rfl) rfl rfl rfl rfl (f209 [120] _) ?_
   refine Gn hg ?_;refine G ?_;refine ⟨rfl,?_,?_⟩
   ·exact sb
   ·exact rfl
  ·exact absurd hg (by decide)
  refine G ?_;refine TOr 8 ?_ (fun hg => ?_) ?_
  rotate_left
  ·iterate 4 refine Gn hg ?_
   refine Lx 3 _ ?_ rfl rfl rfl rfl rfl (I6 rfl rfl rfl rfl (by rw [hg]; rfl)) (fun hg => ?_) (fun hg => ?_) ?_
   rotate_left
   ·iterate 2 refine Gn hg ?_
    refine On hg (Ey (q := []) okC rfl rfl) ?_;refine G ?_;refine ⟨rfl,?_,?_⟩
    ·exact sb
    ·exact rfl
   ·iterate 3 refine Gn hg ?_
    refine G ?_;exact ⟨rfl,sb⟩
   exact Ez
  refine G ?_;refine TOr 6 ?_ (fun hg => ?_) ?_
  rotate_left
  ·iterate 6 refine Gn hg ?_
   exact Ez
  refine G ?_;refine TOr 6 ?_ (fun hg => ?_) ?_
  rotate_left
  ·iterate 6 refine Gn hg ?_
   exact Ez
  refine G ?_;refine Ab rfl ?_ ?_ <;> intro h2
  ·exact absurd h2 (by rw [labX]; decide)
  ·refine G5 ?_;refine Acq [(2,.bool b)] U ?_ ?_
   ·rcases au_ (true) with hg6 | hg6
    ·rcases au_ (b) with bs | bs
     ·rcases au_ (true) with b7 | b7
      ·refine XI (l := [(283,[.fn (.func 207) [] []],U,.fn (.func 284) [] [.pv [.fn (.func 207) [] []]],U),(31,[Aq [[120]],.fn (.func 284) [] [.pv [.fn (.func 207) [] []]]],U,.bool false,U),(283,[.fn (.func 285) [] []],U,.fn (.func 284) [] [.pv [.fn (.func 285) [] []]],U),(31,[Aq [s],.fn (.func 284) [] [.pv [.fn (.func 285) [] []]]],U,.bool (!b),U)]) ⟨Agv 207 U,(by have := f31 (fun w => !K6 [2,3] w) [[120]] 284 [.pv [.fn (.func 207) [] []]] U (by simp) (fun a _ => Agw 207 a _ U (Ams a U)); simpa [symX] using this),Agv 285 U,(by have := f31 (fun _ => !b) [s] 284 [.pv [.fn (.func 285) [] []]] U (by simp) (fun a ha => by simp at ha; subst ha; exact Agw 285 a b U hp); simpa using this),trivial⟩ ?_
       refine G4 ?_
       refine DT (Bg rfl rfl (B5 (by decide) Bo)) ?_
       refine G5 ?_
       refine Ow (e := true) rfl rfl rfl rfl (by simp [b7,bs,hg6]) rfl rfl (Bg rfl rfl (Mf (by intro h; simp at h) (B5 (by decide) Bo))) ?_
       refine Ow (e := true) rfl rfl rfl rfl (by simp [b7,bs,hg6]) rfl rfl (Bg rfl rfl (B5 (by decide) (Mf (by intro h; simp at h) (B5 (by decide) Bo)))) ?_
       iterate 15 refine G ?_
       exact ⟨rfl,by simp,⟨⟨congrArg (fun b => some (AV.bool b)) (by first | exact absurd hg6 (by decide) | exact absurd b7 (by decide) | exact bs.symm | rfl | (simp [bs]; done)),trivial⟩,rfl⟩⟩
      ·refine XI (l := [(283,[.fn (.func 207) [] []],U,.fn (.func 284) [] [.pv [.fn (.func 207) [] []]],U),(31,[Aq [[120]],.fn (.func 284) [] [.pv [.fn (.func 207) [] []]]],U,.bool false,U),(283,[.fn (.func 285) [] []],U,.fn (.func 284) [] [.pv [.fn (.func 285) [] []]],U),(31,[Aq [s],.fn (.func 284) [] [.pv [.fn (.func 285) [] []]]],U,.bool (!b),U)]) ⟨Agv 207 U,(by have := f31 (fun w => !K6 [2,3] w) [[120]] 284 [.pv [.fn (.func 207) [] []]] U (by simp) (fun a _ => Agw 207 a _ U (Ams a U)); simpa [symX] using this),Agv 285 U,(by have := f31 (fun _ => !b) [s] 284 [.pv [.fn (.func 285) [] []]] U (by simp) (fun a ha => by simp at ha; subst ha; exact Agw 285 a b U hp); simpa using this),trivial⟩ ?_
       refine G4 ?_
       refine DT (Bg rfl rfl (B5 (by decide) Bo)) ?_
       refine DF (F4 rfl) (DF (Al rfl) (Wn (w := by simp [b7,bs,hg6]) (Aj fdC rfl rfl) ?_))
       refine Wn (w := by simp [b7,bs,hg6]) (Ad ldC rfl rfl rfl) ?_
       refine Wn (w := by simp [b7,bs,hg6]) (Al rfl) ?_
       refine Ow (e := true) rfl rfl rfl rfl (by simp [b7,bs,hg6]) rfl rfl (Bg rfl rfl (Mf (by intro h; simp at h) (B5 (by decide) Bo))) ?_
       refine Ow (e := true) rfl rfl rfl rfl (by simp [b7,bs,hg6]) rfl rfl (Bg rfl rfl (B5 (by decide) (Mf (by intro h; simp at h) (B5 (by decide) Bo)))) ?_
       refine Wn (w := by simp [b7,bs,hg6]) (F4 rfl) ?_
       refine G2 ?_
       refine Wn (w := by simp [b7,bs,hg6]) (Aj fdC rfl rfl) ?_
       refine Wn (w := by simp [b7,bs,hg6]) (Ad ldC rfl rfl rfl) ?_
       refine Wn (w := by simp [b7,bs,hg6]) (Mz (q := 7) okC rfl rfl) ?_
       refine Wn (w := by simp [b7,bs,hg6]) (Al rfl) ?_
       refine Wn (w := by simp [b7,bs,hg6]) (Aj fdC rfl rfl) ?_
       refine Wn (w := by simp [b7,bs,hg6]) (Ad ldC rfl rfl rfl) ?_
       refine Wn (w := by simp [b7,bs,hg6]) (Jm slC rfl) ?_
       refine Wn (w := by simp [b7,bs,hg6]) (Mz (q := 0) okC rfl rfl) ?_
       refine Wn (w := by simp [b7,bs,hg6]) (A7 rfl (by simp [b7,bs,hg6]) rfl) ?_
       refine G3 ?_
       exact ⟨rfl,by simp,⟨⟨congrArg (fun b => some (AV.bool b)) (by first | exact absurd hg6 (by decide) | exact absurd b7 (by decide) | exact bs.symm | rfl | (simp [bs]; done)),trivial⟩,rfl⟩⟩
     ·refine XI (l := [(283,[.fn (.func 207) [] []],U,.fn (.func 284) [] [.pv [.fn (.func 207) [] []]],U),(31,[Aq [[120]],.fn (.func 284) [] [.pv [.fn (.func 207) [] []]]],U,.bool false,U),(283,[.fn (.func 285) [] []],U,.fn (.func 284) [] [.pv [.fn (.func 285) [] []]],U),(31,[Aq [s],.fn (.func 284) [] [.pv [.fn (.func 285) [] []]]],U,.bool (!b),U)]) ⟨Agv 207 U,(by have := f31 (fun w => !K6 [2,3] w) [[120]] 284 [.pv [.fn (.func 207) [] []]] U (by simp) (fun a _ => Agw 207 a _ U (Ams a U)); simpa [symX] using this),Agv 285 U,(by have := f31 (fun _ => !b) [s] 284 [.pv [.fn (.func 285) [] []]] U (by simp) (fun a ha => by simp at ha; subst ha; exact Agw 285 a b U hp); simpa using this),trivial⟩ ?_
      refine G4 ?_
      refine DT (Bg rfl rfl (B5 (by decide) Bo)) ?_
      refine G5 ?_
      refine Ow (e := true) rfl rfl rfl rfl (by simp [bs,hg6]) rfl rfl (Bg rfl rfl (Mf (by intro h; simp at h) (B5 (by decide) Bo))) ?_
      refine Ow (e := true) rfl rfl rfl rfl (by simp [bs,hg6]) rfl rfl (Bg rfl rfl (B5 (by decide) (Mf (by intro h; simp at h) (B5 (by decide) Bo)))) ?_
      refine Wn (w := by simp [bs,hg6]) (F4 rfl) ?_
      refine DF (B8 rfl (by simp [bs,hg6]) rfl) ?_
      refine DF (Al rfl) (Wx (w := by simp [bs,hg6]) ?_)
      refine Wx (w := by simp [bs,hg6]) ?_
      refine Wx (w := by simp [bs,hg6]) ?_
      refine Wx (w := by simp [bs,hg6]) ?_
      refine Du (Du (Du (Du (Wx (w := by simp [bs,hg6]) ?_))))
      refine DF (A7 rfl (by simp [bs,hg6]) rfl) ?_
      refine DF (Fi rfl) (Dq ?_)
      exact ⟨rfl,by simp,⟨⟨congrArg (fun b => some (AV.bool b)) (by first | exact absurd hg6 (by decide) | exact absurd b7 (by decide) | exact bs.symm | rfl | (simp [bs]; done)),trivial⟩,rfl⟩⟩
    ·refine XI (l := [(283,[.fn (.func 207) [] []],U,.fn (.func 284) [] [.pv [.fn (.func 207) [] []]],U),(31,[Aq [[120]],.fn (.func 284) [] [.pv [.fn (.func 207) [] []]]],U,.bool false,U),(283,[.fn (.func 285) [] []],U,.fn (.func 284) [] [.pv [.fn (.func 285) [] []]],U),(31,[Aq [s],.fn (.func 284) [] [.pv [.fn (.func 285) [] []]]],U,.bool (!b),U)]) ⟨Agv 207 U,(by have := f31 (fun w => !K6 [2,3] w) [[120]] 284 [.pv [.fn (.func 207) [] []]] U (by simp) (fun a _ => Agw 207 a _ U (Ams a U)); simpa [symX] using this),Agv 285 U,(by have := f31 (fun _ => !b) [s] 284 [.pv [.fn (.func 285) [] []]] U (by simp) (fun a ha => by simp at ha; subst ha; exact Agw 285 a b U hp); simpa using this),trivial⟩ ?_
     refine G4 ?_
     refine DT (Bg rfl rfl (B5 (by decide) Bo)) ?_
     refine G5 ?_
     refine Rd (e := true) rfl rfl rfl rfl (by simp [hg6]) rfl rfl ?_
     refine Rd (e := true) rfl rfl rfl rfl (by simp [hg6]) rfl rfl ?_
     refine Wx (w := by simp [hg6]) ?_
     refine DF (A7 rfl (by simp [hg6]) rfl) ?_
     refine DF (Al rfl) (Wx (w := by simp [hg6]) ?_)
     refine Wx (w := by simp [hg6]) ?_
     refine Wx (w := by simp [hg6]) ?_
     refine Wx (w := by simp [hg6]) ?_
     refine G4 ?_
     refine Wx (w := by simp [hg6]) ?_
     refine DF (A7 rfl (by simp [hg6]) rfl) ?_
     refine DF (Fi rfl) (Dq ?_)
     exact ⟨rfl,by simp,⟨⟨congrArg (fun b => some (AV.bool b)) (by first | exact absurd hg6 (by decide) | exact absurd b7 (by decide) | exact bs.symm | rfl | (simp [bs]; done)),trivial⟩,rfl⟩⟩
   refine G ?_;refine Bb hw rfl ?_;exact rfl
theorem f268 (s : Str) (b : Bool) (U : Sto) (hp : Cv 285 [sV s] U (.bool b)) : Cv 268 [.agg (stX s)] U (.bool (!b)) := by
 refine An Tryz.func268 rfl rfl fun hw hu0 => ?_
 refine G8 ?_;refine Ag rfl rfl rfl rfl (f269 s b U hp) ?_;refine G4 ?_;refine Bb hw rfl ?_;exact rfl
theorem Amv {N : Nat} : ∀ m : SM Str,Ih N (B6 sV m) = true := fun m => Acp (fun _ => rfl) m
theorem f218 (a b va : Nat) (M N : SM Str) (U : Sto) (ha : U.get a = some (.map 9 (B6 sV M) va)) (hb : Bf sV U b N) (hab : a ≠ b) (sM : SM.Srt M) (sN : SM.Srt N) :
  Ao Ew 218 [.mp a,.mp b] U fun v U' => v = Au /\ U' = U.set a (.map 9 (B6 sV (SM.over N M)) (va + N.length)) := by
 refine An Tryz.func218 rfl rfl fun hw hu0 => ?_
 refine T_itv fun hi => ?_
 obtain ⟨vb,hb⟩ := hb;have hla : a < nx U := (hw _ _ ha).1;have hlb : b < nx U := (hw _ _ hb).1;refine G3 ?_;refine O1 (Agg Ac0 rfl hb) ?_;refine G2 ?_;refine B3 (fun q : SM Str × SM Str => [(0,.mp a),(7,.it (nx U))])
  (fun q U0 => (∃ cur,U0.get (nx U) = some (.iter (some b) vb (B6 sV q.1) cur)) /\ U0.get a = some (.map 9 (B6 sV q.2) (va + (N.length - q.1.length))) /\ q.1.length <= N.length /\ nx U <= nx U0 /\ (∀ c,c < nx U -> c ≠ a -> U0.get c = U.get c) /\ SM.Srt q.2 /\ SM.Key1 q.1 /\ (q.1 = N -> q.2 = M) /\ ∀ s,(q.1.get s).or (q.2.get s) = (N.get s).or (M.get s))
  (fun q => q.1.length) (N,M) SL
  ⟨⟨none,by rw [ab_,if_pos rfl]⟩,by rw [ab_,if_neg Om,ha,Nat.sub_self]; rfl,nl,by rw [Af]; omega,fun c hc _ => by rw [ab_,if_neg Om],sM,sN.key1,fun _ => rfl,fun _ => rfl⟩ ?_
 rintro ⟨left,M1⟩ U0 ⟨⟨cur,hit⟩,hM,hln,hn,hk,hs,hk1,hid,hg⟩;simp only at hit hM hln hs hk1 hid hg;refine G ?_
 refine Aol rfl rfl rfl hit (by show (match U0.get b with | some (.map _ _ v) => Nat.beq v vb | _ => false) = true; rw [hk b hlb (fi_ hab),hb]; exact bf_ _) (fun h0 => ?_) (fun p hp => ?_)
 ·have h0' : left = [] := by cases left with
   | nil => rfl
   | cons x l => cases h0
  subst h0';refine G3 ?_
  refine Ab rfl (fun h1 => by cases h1) (fun h1 => ?_)
  refine G ?_
  have hO : M1 = SM.over N M := hs.ext (SM.Srt.over sM) fun s => by rw [SM.get_over sN.key1,← hg s]; simp [SM.get]
  subst hO
  refine ⟨_,rfl,Au,U.set a (.map 9 (B6 sV (SM.over N M)) (va + N.length)),D5.setMap hw hi ha (Amv _) ?_ (by rw [Ac]; exact hn) (fun c hc hne => ?_) ?_,by rw [Ac]; exact nl,.same rfl,rfl,rfl⟩
  ·cases N with
   | nil => exact .inr ⟨rfl,rfl⟩
   | cons x l => exact .inl (by simp only [at_]; omega)
  ·rw [a_,if_neg Om]; exact hk c hc hne
  ·rw [a_,if_neg Om,hM]; simp
 ·obtain ⟨q,hq,rfl⟩ := Rh hp;obtain ⟨q1,q2,q3⟩ := Zw hk1 hq;obtain ⟨_,_,q4⟩ := Pz hq
  have hM' : (U0.set (nx U) (.iter (some b) vb (B6 sV q.2) (some (kS q.1.1,sV q.1.2)))).get a = some (.map 9 (B6 sV M1) (va + (N.length - left.length))) := by rw [a_,if_neg Om]; exact hM
  refine G3 ?_
  refine Ab rfl (fun h1 => ?_) (fun h1 => by cases h1)
  refine G4 ?_
  refine O1 (Agh rfl (by rw [a_,if_pos rfl]) (by rw [a_,if_neg Om,hk b hlb (fi_ hab)]; exact hb)) ?_
  refine G9 ?_;refine O1 (Fl (v := q.1.2) st9 Ac0 rfl hM' rfl rfl (fun te k1 k2 => Hk k1 k2)) ?_
  refine G ?_
  refine ⟨(q.2,M1.put q.1.1 q.1.2),by show q.2.length < left.length; omega,SL,⟨_,by rw [a_,if_neg Om,a_,if_pos rfl]⟩,?_,by show q.2.length <= N.length; omega,by rw [Ac,Ac]; exact hn,fun c hc hne => ?_,hs.put,q1,fun hh => ?_,fun s => ?_⟩
  ·rw [a_,if_pos rfl]
   show some _ = some (AO.map 9 _ (va + (N.length - q.2.length)))
   congr 2; omega
  ·rw [a_,if_neg Om,a_,if_neg Om]; exact hk c hc hne
  ·have : q.2.length = N.length := congrArg List.length hh;omega
  ·show (SM.get q.2 s).or ((M1.put q.1.1 q.1.2).get s) = _
   rw [← hg s,q3 s,ci_]
   by_cases hs : s = q.1.1
   ·subst hs; simp [q2]
   ·simp [hs]
end Go.AM
