/- A part of the proof; shortened by program. -/
import Derived.Test.YtolkkkghemedjaaGreatDoorP06
set_option maxRecDepth 100000
set_option linter.unusedSimpArgs false
set_option linter.unusedVariables false
namespace Go.AM
open Go Go.Proofs
theorem f261 (σ : Sto) : Ah Ew 261 [] σ fun v σ' => v = .agg G5 /\ σ' = σ := s261.callTo rfl
def clsN (n : Nat) : Nat := match G5[n]? with | some (.int _ (.ofNat k)) => k | _ => 0
theorem Ahe : G5.length = 256 := by kernel_rfl
theorem Ahf : G5.all (fun v => match v with | .int .u8 (.ofNat _) => true | _ => false) = true := by kernel_rfl
theorem Aks (b : UInt8) : G5.drop (b.toNat * 1) = .int .u8 (.ofNat (clsN b.toNat)) :: G5.drop (b.toNat + 1) := by
 have hb : b.toNat < G5.length := by rw [Ahe]; exact b.toNat_lt
 rw [Nat.mul_one, List.drop_eq_getElem_cons hb]
 congr 1
 have h := List.all_eq_true.1 Ahf _ (List.getElem_mem hb);unfold clsN;rw [List.getElem?_eq_getElem hb]
 generalize G5[b.toNat] = v at h ⊢
 split at h
 ·rfl
 ·cases h
theorem f78 (l : List Str) (s : Str) (σ : Sto) (hb : l.length < 4611686018427387904) : Ah Ew 78 [slV (fun s => [sV s]) 1 l, sV s] σ fun v σ' => v = iV (Bk (fun x => decide (s = x)) l 0) /\ σ' = σ := by
 refine A2 Tryz.func78 rfl rfl fun hw _ => ?_
 refine Ad (Aa (OA rfl (Ab (Ad (Ad (Aa (OM rfl ?_)))))));refine O1 (As D0 rfl) (OM rfl (Ab (Am ?_)));refine Cg l.length (fun i => [(0, slV (fun s => [sV s]) 1 l), (1, sV s), (7, iV (.ofNat l.length)), (8, iV (.ofNat i))]) (fun i σ' => σ' = σ /\ Bk (fun x => decide (s = x)) l 0 = Bk (fun x => decide (s = x)) (l.drop i) i) ⟨rfl, rfl, rfl, rfl, trivial⟩ ⟨rfl, rfl⟩ ?_  -- reads [8, 7, 9, 10, 1, 0, 5, 12, 13, 14, 11, 15, 16, 17, 18]
 rintro i σ' hi ⟨rfl, hf⟩;refine Ad (Aa (O1 (Bb ok3 rfl rfl) (Ab (Ad ?_))));refine Ai rfl (fun h => ?_) (fun h => ?_)
 ·have hlt : i < l.length := by simpa using h
  obtain ⟨a, ha⟩ : ∃ a, l[i]? = some a := ⟨_, List.getElem?_eq_getElem hlt⟩
  have hd : l.drop i = a :: l.drop (i + 1) := by
   obtain ⟨h1, rfl⟩ := List.getElem?_eq_some_iff.1 ha;exact List.drop_eq_getElem_cons h1
  refine Aj (Ad (Am (Ad (Aa (OM rfl (OA rfl (Ab ?_)))))));refine Ad (Aa (OM rfl (OM rfl (OM rfl (O1 (A3 C5 (fun _ => rfl) rfl rfl ha) ?_)))))
  refine O1 (Ae ld9 rfl rfl rfl) (O1 (Hr ok9 rfl rfl) (Ab ?_));refine Ai rfl (fun h' => ?_) (fun h' => ?_)
  ·refine Ad (Aa (OM rfl (OA rfl (Ab ?_))));refine Ak (Bw hw rfl ?_);rw [hf, hd]; simp only [Bk, h', cond_true]; rfl
  ·refine Aj (Aa (O1 (A1 (p := i) (q := 1) ok3 rfl rfl (by omega)) ?_))
   refine OM rfl (Ab ?_);refine ⟨hlt, ⟨rfl, rfl, rfl, rfl, trivial⟩, rfl, ?_⟩;rw [hf, hd]; simp only [Bk, h', cond_false]
 ·have hge : l.length <= i := by simpa using h
  refine Bf ?_;refine Ad (Aa (OA rfl (Ab ?_)));refine Ak (Bw hw rfl ?_);rw [hf, List.drop_eq_nil_of_le hge]; rfl
theorem byW (e : Nat) : Ew.byref e = false := rfl
def eB (n : Nat) : List AV := [.int .u8 (.ofNat n)]
theorem f279 (l : List Nat) (s : Nat) (σ : Sto) (hb : l.length < 4611686018427387904) : Ah Ew 279 [slV eB 1 l, .int .u8 (.ofNat s)] σ fun v σ' => v = iV (Bk (fun x => decide (Int.ofNat s = Int.ofNat x)) l 0) /\ σ' = σ := by
 refine A2 Tryz.func279 rfl rfl fun hw _ => ?_
 refine Ad (Aa (OA rfl (Ab (Ad (Ad (Aa (OM rfl ?_)))))));refine O1 (As sl253 rfl) (OM rfl (Ab (Am ?_)));refine Cg l.length (fun i => [(0, slV eB 1 l), (1, .int .u8 (.ofNat s)), (7, iV (.ofNat l.length)), (8, iV (.ofNat i))]) (fun i σ' => σ' = σ /\ Bk (fun x => decide (Int.ofNat s = Int.ofNat x)) l 0 = Bk (fun x => decide (Int.ofNat s = Int.ofNat x)) (l.drop i) i) ⟨rfl, rfl, rfl, rfl, trivial⟩ ⟨rfl, rfl⟩ ?_  -- reads [8, 7, 9, 10, 1, 0, 5, 12, 13, 14, 11, 15, 16, 17, 18]
 rintro i σ' hi ⟨rfl, hf⟩;refine Ad (Aa (O1 (Bb ok3 rfl rfl) (Ab (Ad ?_))));refine Ai rfl (fun h => ?_) (fun h => ?_)
 ·have hlt : i < l.length := by simpa using h
  obtain ⟨a, ha⟩ : ∃ a, l[i]? = some a := ⟨_, List.getElem?_eq_getElem hlt⟩
  have hd : l.drop i = a :: l.drop (i + 1) := by
   obtain ⟨h1, rfl⟩ := List.getElem?_eq_some_iff.1 ha;exact List.drop_eq_getElem_cons h1
  refine Aj (Ad (Am (Ad (Aa (OM rfl (OA rfl (Ab ?_)))))));refine Ad (Aa (OM rfl (OM rfl (OM rfl (O1 (A3 Amy (fun _ => rfl) rfl rfl ha) ?_)))))
  refine O1 (Ae ld5 rfl rfl rfl) (O1 (Dq ok5 rfl rfl) (Ab ?_));refine Ai rfl (fun h' => ?_) (fun h' => ?_)
  ·refine Ad (Aa (OM rfl (OA rfl (Ab ?_))));refine Ak (Bw hw rfl ?_);rw [hf, hd]; simp only [Bk, h', cond_true]; rfl
  ·refine Aj (Aa (O1 (A1 (p := i) (q := 1) ok3 rfl rfl (by omega)) ?_))
   refine OM rfl (Ab ?_);refine ⟨hlt, ⟨rfl, rfl, rfl, rfl, trivial⟩, rfl, ?_⟩;rw [hf, hd]; simp only [Bk, h', cond_false]
 ·have hge : l.length <= i := by simpa using h
  refine Bf ?_;refine Ad (Aa (OA rfl (Ab ?_)));refine Ak (Bw hw rfl ?_);rw [hf, List.drop_eq_nil_of_le hge]; rfl
theorem f30 (l : List Str) (s : Str) (σ : Sto) (hb : l.length < 4611686018427387904) : Ah Ew 30 [slV (fun s => [sV s]) 1 l, sV s] σ fun v σ' => v = .bool (l.any fun x => decide (s = x)) /\ σ' = σ := by
 refine A2 Tryz.func30 rfl rfl fun hw _ => ?_
 refine Ad (Aa (OA rfl (Ab (Ad (Aa (OM rfl (OM rfl ?_)))))));refine Aq rfl rfl rfl rfl (f78 l s σ hb) (O1 (Gi (q := 0) ok3 rfl rfl) (OA rfl (Ab ?_)));refine Ak (Bw hw rfl ?_);exact congrArg AV.bool (E1 l)
theorem f262 (l : List Nat) (s : Nat) (σ : Sto) (hb : l.length < 4611686018427387904) : Ah Ew 262 [slV eB 1 l, .int .u8 (.ofNat s)] σ fun v σ' => v = .bool (l.any fun x => decide (Int.ofNat s = Int.ofNat x)) /\ σ' = σ := by
 refine A2 Tryz.func262 rfl rfl fun hw _ => ?_
 refine Ad (Aa (OA rfl (Ab (Ad (Aa (OM rfl (OM rfl ?_)))))));refine Aq rfl rfl rfl rfl (f279 l s σ hb) (O1 (Gi (q := 0) ok3 rfl rfl) (OA rfl (Ab ?_)));refine Ak (Bw hw rfl ?_);exact congrArg AV.bool (E1 l)
def okB (perm : List Nat) (b : UInt8) : Bool := perm.any fun x => decide (Int.ofNat (clsN b.toNat) = Int.ofNat x)
def Kl (perm : List Nat) (s : Str) : Bool := !(decide (s = []) || decide ((60 : Int) < Int.ofNat s.length)) && s.all (okB perm)
theorem f236 (s : Str) (perm : List Nat) (σ : Sto) (hb : perm.length < 4611686018427387904) : Ah Ew 236 [sV s, slV eB 1 perm] σ fun v σ' => v = .bool (Kl perm s) /\ σ' = σ := by
 refine A2 Tryz.func236 rfl rfl fun hw _ => ?_
 refine Ad (Aa (OA rfl (Ab (Ad (Ad (Aa (OM rfl ?_)))))));refine O1 (Hr (q := []) ok9 rfl rfl) (OM rfl ?_);refine Co 3 _ ?_ rfl rfl rfl rfl rfl (Av rfl) (fun hg => ?_) (fun hg => ?_) ?_
 rotate_left
 ·refine On hg (Ag rfl) (On hg (We st9 rfl) (On hg (Cm (q := 60) ok3 rfl rfl) (Ab ?_)));refine ⟨rfl, ?_, ?_⟩
  ·exact sb
  ·exact rfl
 ·refine Of hg (Of hg (Of hg (Ab ?_)));exact ⟨rfl, sb⟩
 refine Ab ?_;refine Ai rfl (fun h => ?_) (fun h => ?_)
 ·refine Ad (Aa (OA rfl (Ab ?_)));refine Ak (Bw hw rfl ?_);rw [Kl, h]; rfl
 ·refine Aj (Ad (Aa (Aq rfl rfl rfl rfl (f261 σ) (B6 zi358 ld358 rfl (fun _ => rfl) rfl rfl rfl rfl ?_))))
  refine Ab (Ad (Ad (Aa (OM rfl (O1 (We st9 rfl) (OM rfl (Ab ?_)))))));refine Am ?_;refine Cg s.length (fun i => [(0, sV s), (1, slV eB 1 perm), (5, .pv G5), (16, iV (.ofNat s.length)), (17, iV (.ofNat i))]) (fun i σ' => σ' = σ /\ s.all (okB perm) = (s.drop i).all (okB perm)) ⟨rfl, rfl, rfl, rfl, rfl, trivial⟩ ⟨rfl, rfl⟩ ?_  -- reads [17, 16, 18, 19, 1, 0, 6, 21, 22, 5, 23, 24, 20, 25, 26, 27, 28]
  rintro i σ' hi ⟨rfl, hf⟩;refine Ad (Aa (O1 (Bb ok3 rfl rfl) (Ab (Ad ?_))));refine Ai rfl (fun h1 => ?_) (fun h1 => ?_)
  ·have hlt : i < s.length := by simpa using h1
   obtain ⟨a, ha⟩ : ∃ a, s[i]? = some a := ⟨_, List.getElem?_eq_getElem hlt⟩
   have hd : s.drop i = a :: s.drop (i + 1) := by
    obtain ⟨h1, rfl⟩ := List.getElem?_eq_some_iff.1 ha;exact List.drop_eq_getElem_cons h1
   refine Aj (Ad (Am (Ad (Aa (OM rfl (OA rfl (Ab ?_)))))))
   refine Ad (Aa (OM rfl (OM rfl (OM rfl (O1 (Aij st9 rfl rfl ha) (O1 (I1 (n := a.toNat) ar358 rfl rfl a.toNat_lt rfl) (O1 (Ae (v := .int .u8 (.ofNat (clsN a.toNat))) ld5 rfl rfl (by show Lz 1 false (G5.drop (a.toNat * 1)) = _; rw [Aks]; rfl)) ?_)))))))
   refine Aq rfl rfl rfl rfl (f262 perm _ _ hb) (O1 (A8 rfl) (Ab ?_));refine Ai rfl (fun h2 => ?_) (fun h2 => ?_)
   ·refine Ad (Aa (OA rfl (Ab ?_)));refine Ak (Bw hw rfl ?_)
    rw [Kl, h, hf, hd, List.all_cons, show okB perm a = false by simpa [okB] using h2]; rfl
   ·refine Aj (Aa (O1 (A1 (p := i) (q := 1) ok3 rfl rfl (by simp at h; omega)) ?_))
    refine OM rfl (Ab ?_);refine ⟨hlt, ⟨rfl, rfl, rfl, rfl, rfl, trivial⟩, rfl, ?_⟩
    rw [hf, hd, List.all_cons, show okB perm a = true by simpa [okB] using h2]; rfl
  ·have hge : s.length <= i := by simpa using h1
   refine Bf ?_;refine Ad (Aa (OA rfl (Ab ?_)));refine Ak (Bw hw rfl ?_);rw [Kl, h, hf, List.drop_eq_nil_of_le hge]; rfl
theorem f209 (s : Str) (σ : Sto) : Ah Ew 209 [sV s] σ fun v σ' => v = .bool (Kl [2] s) /\ σ' = σ := by
 refine A2 Tryz.func209 rfl rfl fun hw _ => ?_
 refine Ad (Aa (OA rfl (Ab (Ad (Aa (OM rfl (E2 (Br Amy byW rfl rfl rfl) (Gq (len := 1)) rfl rfl ?_)))))))
 refine Aq rfl rfl rfl rfl (f236 s [2] σ (by decide)) ?_
 refine OA rfl (Ab ?_);refine Ak (Bw hw rfl ?_);exact rfl
theorem Akt (s : Str) (σ : Sto) : Ah Ew 207 [sV s] σ fun v σ' => v = .bool (Kl [2, 3] s) /\ σ' = σ := by
 refine A2 Tryz.func207 rfl rfl fun hw _ => ?_
 refine Ad (Aa (OA rfl (Ab (Ad (Aa (OM rfl (E2 (Br Amy byW rfl rfl rfl) (Gq (len := 2)) rfl rfl ?_)))))))
 refine Aq rfl rfl rfl rfl (f236 s [2, 3] σ (by decide)) ?_
 refine OA rfl (Ab ?_);refine Ak (Bw hw rfl ?_);exact rfl
def Yt (h : Hp) : Bool := decide ((60 : Int) < Int.ofNat h.text.length)
def Am4 (s : Str) : Bool := decide ((400 : Int) < Int.ofNat s.length)
theorem f45 (s : Str) (σ : Sto) : Ah Ew 45 [sV s] σ fun v σ' => v = .bool (Am4 s) /\ σ' = σ := by
 refine A2 Tryz.func45 rfl rfl fun hw _ => ?_
 refine Ad (Aa (OA rfl (Ab (Ad (Aa (OM rfl (O1 (We st9 rfl) ?_)))))));refine O1 (Cm (q := 400) ok3 rfl rfl) (OA rfl (Ab ?_));refine Ak (Bw hw rfl ?_);exact rfl
theorem f43 (h : Hp) (σ : Sto) : Ah Ew 43 [.agg (eH h)] σ fun v σ' => v = .bool (Yt h) /\ σ' = σ := by
 refine A2 Tryz.func43 rfl rfl fun hw _ => ?_
 refine Ad (Aa (Ax Dy rfl rfl rfl (OA rfl (Ab (Ad (Aa (O1 (Ac Da rfl rfl) ?_)))))));refine O1 (Ae Cf rfl rfl rfl) (O1 (As D0 rfl) (O1 (Cm (q := 60) ok3 rfl rfl) (OA rfl (Ab ?_))));refine Ak (Bw hw rfl ?_);exact rfl
def bigF (words : Int) (f : Fr) : Bool :=
 decide (words < Int.ofNat f.proof.length) || decide ((60 : Int) < Int.ofNat f.text.length) || decide ((60 : Int) < Int.ofNat f.hyps.length) || decide ((60 : Int) < Int.ofNat f.dummies.length) || decide ((200 : Int) < Int.ofNat f.apart.length) ||
  decide ((300 : Int) < Int.ofNat f.wide.length) || f.hyps.any Yt || f.dummies.any Yt || f.proof.any Am4
def Ada (d : Db) (frames words : Int) : Bool :=
 decide (Int.ofNat d.frames.length <= frames) && decide (Int.ofNat d.consts.length <= (200 : Int)) && decide (Int.ofNat d.vars.length <= (60 : Int)) && !(d.frames.any (bigF words))
theorem f42 (f : Fr) (words : Int) (σ : Sto) (hw' : words < 1000000) : Ah Ew 42 [.agg (eF f), .pv [iV words]] σ fun v σ' => v = .bool (bigF words f) /\ σ' = σ := by
 refine A2 Tryz.func42 rfl rfl fun hw _ => ?_
 refine Ad (Aa (Ax Oe rfl rfl rfl (OA rfl (Ab (Ad (Aa (OA rfl ?_)))))));refine Ab (Ad (Aa (O1 (Ac Yr rfl rfl) (O1 (Ae Cf rfl rfl rfl) (O1 (As D0 rfl) (O1 (Ae ld3 rfl rfl rfl) (O1 (Cm ok3 rfl rfl) ?_)))))));refine OM rfl ?_;refine Co 4 _ ?_ rfl rfl rfl rfl rfl (Av rfl) (fun hg => ?_) (fun hg => ?_) ?_
 rotate_left
 ·refine On hg (Ac Uk rfl rfl) (On hg (Ae Cf rfl rfl rfl) (On hg (As D0 rfl) (On hg (Cm (q := 60) ok3 rfl rfl) (Ab ?_))));refine ⟨rfl, ?_, ?_⟩
  ·exact sb
  ·exact rfl
 ·refine Of hg (Of hg (Of hg (Of hg (Ab ?_))));exact ⟨rfl, sb⟩
 refine OM rfl ?_;refine Co 4 _ ?_ rfl rfl rfl rfl rfl (Av rfl) (fun hg => ?_) (fun hg => ?_) ?_
 rotate_left
 ·refine On hg (Ac G4 rfl rfl) (On hg (Ae Kk rfl rfl rfl) (On hg (As Fs rfl) (On hg (Cm (q := 60) ok3 rfl rfl) (Ab ?_))));refine ⟨rfl, ?_, ?_⟩
  ·exact sb
  ·exact rfl
 ·refine Of hg (Of hg (Of hg (Of hg (Ab ?_))));exact ⟨rfl, sb⟩
 refine OM rfl ?_;refine Co 4 _ ?_ rfl rfl rfl rfl rfl (Av rfl) (fun hg => ?_) (fun hg => ?_) ?_
 rotate_left
 ·refine On hg (Ac Ul rfl rfl) (On hg (Ae Kk rfl rfl rfl) (On hg (As Fs rfl) (On hg (Cm (q := 60) ok3 rfl rfl) (Ab ?_))));refine ⟨rfl, ?_, ?_⟩
  ·exact sb
  ·exact rfl
 ·refine Of hg (Of hg (Of hg (Of hg (Ab ?_))));exact ⟨rfl, sb⟩
 refine OM rfl ?_;refine Co 4 _ ?_ rfl rfl rfl rfl rfl (Av rfl) (fun hg => ?_) (fun hg => ?_) ?_
 rotate_left
 ·refine On hg (Ac Amp rfl rfl) (On hg (Ae Akr rfl rfl rfl) (On hg (As Yq rfl) (On hg (Cm (q := 200) ok3 rfl rfl) (Ab ?_))));refine ⟨rfl, ?_, ?_⟩
  ·exact sb
  ·exact rfl
 ·refine Of hg (Of hg (Of hg (Of hg (Ab ?_))));exact ⟨rfl, sb⟩
 refine OM rfl ?_;refine Co 4 _ ?_ rfl rfl rfl rfl rfl (Av rfl) (fun hg => ?_) (fun hg => ?_) ?_
 rotate_left
 ·refine On hg (Ac Ac4 rfl rfl) (On hg (Ae Akr rfl rfl rfl) (On hg (As Yq rfl) (On hg (Cm (q := 300) ok3 rfl rfl) (Ab ?_))));refine ⟨rfl, ?_, ?_⟩
  ·exact sb
  ·exact rfl
 ·refine Of hg (Of hg (Of hg (Of hg (Ab ?_))));exact ⟨rfl, sb⟩
 refine OM rfl ?_;refine Co 4 _ ?_ rfl rfl rfl rfl rfl (Av rfl) (fun hg => ?_) (fun hg => ?_) ?_
 rotate_left
 ·refine On hg (Ac G4 rfl rfl) (On hg (Ae Kk rfl rfl rfl) (On hg (Ag rfl) (B0 rfl rfl rfl (by rw [hg]; rfl) rfl rfl rfl rfl (f44 Yt f.hyps 43 [] σ (by simp at hg; omega) (fun a _ => f43 a σ)) ?_)))
  refine Ab ?_;refine ⟨rfl, ?_, ?_⟩
  ·exact sb
  ·exact rfl
 ·refine Of hg (Of hg (Of hg (Of hg (Ab ?_))));exact ⟨rfl, sb⟩
 refine OM rfl ?_;refine Co 4 _ ?_ rfl rfl rfl rfl rfl (Av rfl) (fun hg => ?_) (fun hg => ?_) ?_
 rotate_left
 ·refine On hg (Ac Ul rfl rfl) (On hg (Ae Kk rfl rfl rfl) (On hg (Ag rfl) (B0 rfl rfl rfl (by rw [hg]; rfl) rfl rfl rfl rfl (f44 Yt f.dummies 43 [] σ (by simp at hg; omega) (fun a _ => f43 a σ)) ?_)))
  refine Ab ?_;refine ⟨rfl, ?_, ?_⟩
  ·exact sb
  ·exact rfl
 ·refine Of hg (Of hg (Of hg (Of hg (Ab ?_))));exact ⟨rfl, sb⟩
 refine OM rfl ?_;refine Co 3 _ ?_ rfl rfl rfl rfl rfl (Av rfl) (fun hg => ?_) (fun hg => ?_) ?_
 rotate_left
 ·refine On hg (Ac Yr rfl rfl) (On hg (Ae Cf rfl rfl rfl) (B0 rfl rfl rfl (by rw [hg]; rfl) rfl rfl rfl rfl (f31 Am4 f.proof 45 [] σ (by simp at hg; omega) (fun a _ => f45 a σ)) ?_))
  refine Ab ?_;refine ⟨rfl, ?_, ?_⟩
  ·exact sb
  ·exact rfl
 ·refine Of hg (Of hg (Of hg (Ab ?_)));exact ⟨rfl, sb⟩
 refine OA rfl (Ab ?_);refine Ak (Bw hw rfl ?_);exact rfl
theorem f9 (d : Db) (frames words : Int) (σ : Sto) (h1 : frames < 1000000) (h2 : words < 1000000) : Ah Ew 9 [dbV d, iV frames, iV words] σ fun v σ' => v = .bool (Ada d frames words) /\ σ' = σ := by
 refine A2 Tryz.func9 rfl rfl fun hw _ => ?_
 refine Ad (Aa (Ax Ki rfl rfl rfl (Ax ld3 rfl rfl rfl (OA rfl (Ab (Ad (Aa ?_)))))));refine O1 (Ac Rf rfl rfl) (O1 (Ae Ag8 rfl rfl rfl) (O1 (As Ag9 rfl) (OM rfl (O1 (Ach ok3 rfl rfl) (OM rfl ?_)))));refine Cv 4 _ ?_ rfl rfl rfl rfl rfl (Av rfl) (fun hg => ?_) (fun hg => ?_) ?_
 rotate_left
 ·refine On hg (Ac Aha rfl rfl) (On hg (Ae Cf rfl rfl rfl) (On hg (As D0 rfl) (On hg (Ach (q := 200) ok3 rfl rfl) (Ab ?_))));refine ⟨rfl, ?_, ?_⟩
  ·exact sb
  ·exact rfl
 ·refine Of hg (Of hg (Of hg (Of hg (Ab ?_))));exact ⟨rfl, sb⟩
 refine OM rfl ?_;refine Cv 4 _ ?_ rfl rfl rfl rfl rfl (Av rfl) (fun hg => ?_) (fun hg => ?_) ?_
 rotate_left
 ·refine On hg (Ac Od rfl rfl) (On hg (Ae Cf rfl rfl rfl) (On hg (As D0 rfl) (On hg (Ach (q := 60) ok3 rfl rfl) (Ab ?_))));refine ⟨rfl, ?_, ?_⟩
  ·exact sb
  ·exact rfl
 ·refine Of hg (Of hg (Of hg (Of hg (Ab ?_))));exact ⟨rfl, sb⟩
 refine OM rfl ?_;refine Cv 5 _ ?_ rfl rfl rfl rfl rfl (Av rfl) (fun hg => ?_) (fun hg => ?_) ?_
 rotate_left
 ·refine On hg (Ac Rf rfl rfl) (On hg (Ae Ag8 rfl rfl rfl) (On hg (E8 rfl rfl) (B0 rfl rfl rfl (by rw [hg]; rfl) rfl rfl rfl rfl (f41 (bigF words) d.frames 42 [.pv [iV words]] σ (by simp at hg; omega) (fun a _ => f42 a words σ h2)) ?_)))
  refine On hg (A8 rfl) (Ab ?_);refine ⟨rfl, ?_, ?_⟩
  ·exact sb
  ·exact rfl
 ·refine Of hg (Of hg (Of hg (Of hg (Of hg (Ab ?_)))));exact ⟨rfl, sb⟩
 refine OA rfl (Ab ?_);refine Ak (Bw hw rfl ?_);exact rfl
theorem f46n (lb : Str) (ks : List Ay) (n : Int) (σ : Sto) (a : Nat) (hn : 0 <= n) (hn2 : n <= 1000) (hc : σ.cells a = some [.fn (.func 46) [] [.pr a 0]])
  (ih : ∀ t ∈ ks, ∀ (n : Int), 0 <= n -> n <= 1000 -> Ah Ew 46 [A4 t, iV n, .pr a 0] σ fun v σ' => v = iV (Ll t n) /\ σ' = σ) : Ah Ew 46 [A4 (.node lb ks), iV n, .pr a 0] σ fun v σ' => v = iV (Ll (.node lb ks) n) /\ σ' = σ := by
 simp only [A4, Hs];refine A2 Tryz.func46 rfl rfl fun hw _ => ?_
 refine Ad (Aa (Ax Bq rfl rfl rfl (OA rfl (Ab (Ad (Aa (OM rfl ?_)))))))
 refine O1 (Wf (p := n) (q := 1) ok3 rfl rfl (by omega) (by omega)) ?_
 refine OA rfl (Ab (Ad (Ad (Aa (OA rfl (Ab (Am ?_)))))))
 refine E9 (α := Nat × Int) (fun x => [(1, iV x.2), (2, .pr a 0), (3, .pv [sV lb, slV eT 2 ks]), (6, iV (.ofNat x.1))]) (fun x σ' => σ' = σ /\ x.1 <= ks.length /\ -1 <= x.2 /\ x.2 + x.1 <= n - 1 /\ Mx ks (n - 1) = Mx (ks.drop x.1) x.2) (fun x => ks.length - x.1) (0, n - 1) ⟨rfl, rfl, rfl, rfl, trivial⟩ ⟨rfl, by omega, by omega, by simp, rfl⟩ ?_  -- reads [6, 3, 10, 11, 9, 12, 13, 1, 15, 14, 16, 17, 2, 21, 22, 23, 24, 20, 25, 26, 27, 18, 19]
 rintro ⟨i, left⟩ σ' ⟨rfl, hi, hl1, hl2, hf⟩;simp only at hi hl1 hl2 hf;refine Ad (Ad (Aa (OM rfl (O1 (Ac Dk rfl rfl) (O1 (Ae H8 rfl rfl rfl) (O1 (As Kj rfl) (O1 (Bb ok3 rfl rfl) ?_)))))));refine OM rfl ?_;refine Cv 2 _ ?_ rfl rfl rfl rfl rfl (Av rfl) (fun hg => ?_) (fun hg => ?_) ?_
 rotate_left
 ·refine On hg (Ag rfl) (On hg (Gi (q := 0) ok3 rfl rfl) (Ab ?_));refine ⟨rfl, ?_, ?_⟩
  ·exact sb
  ·exact rfl
 ·refine Of hg (Of hg (Ab ?_));exact ⟨rfl, sb⟩
 refine Ab ?_;refine Ai rfl (fun h => ?_) (fun h => ?_)
 ·have hlt : i < ks.length /\ 0 <= left := by simpa using h
  obtain ⟨k, hk⟩ : ∃ k, ks[i]? = some k := ⟨_, List.getElem?_eq_getElem hlt.1⟩
  have hd : ks.drop i = k :: ks.drop (i + 1) := by
   obtain ⟨h1, rfl⟩ := List.getElem?_eq_some_iff.1 hk;exact List.drop_eq_getElem_cons h1
  have hfk := Ail k left hlt.2;refine Aj (Ad (Am ?_))
  refine Cq (anns := [aR 0 0, aP 0 0, aR 0 0, aP 0 0, aP 0 0, aR 0 0, aP 0 0, aE 0 1, aP 1 1]) A5 (Ar (l := [(46, [A4 k, iV left, .pr a 0], σ', iV (Ll k left), σ')]) ⟨ih k (List.mem_of_getElem? hk) left hlt.2 (by omega), trivial⟩) (by kernel_rfl) (by kernel_rfl) ?_
  refine DF (Ae (cs := [.fn (.func 46) [] [.pr a 0]]) ld84 rfl (by simp [B2, hc]) rfl) ?_
  refine DF (Ac Dk rfl rfl) (DF (Ae H8 rfl rfl rfl) (DF (Ag rfl) (DF (A3 L5 eT_len rfl rfl hk) (DF (Ae Bq rfl rfl (Cb (eT_len k) _)) (DF (Ag rfl) (DT (A7 rfl rfl Ba) (DF (Bv rfl) ?_)))))))
  refine Bl (Aa (OM rfl (O1 (A1 (p := i) (q := 1) ok3 rfl rfl (by omega)) ?_)))
  refine OA rfl (Ab ?_)
  refine ⟨(i + 1, Ll k left), by simp only; omega, ⟨rfl, rfl, rfl, rfl, trivial⟩, rfl, by simp only; omega, hfk.1, by simp only; omega, ?_⟩
  rw [hf, hd, Akh, if_pos hlt.2]
 ·refine Bf ?_;refine Ad (Aa (OM rfl (OA rfl (Ab ?_))));refine Ak (Bw hw rfl ?_)
  have hh : ks.length <= i ∨ left < 0 := by
   have : ¬ (i < ks.length /\ 0 <= left) := by simpa using h
   omega
  unfold Ll;rw [hf]
  rcases hh with hh | hh
  ·rw [List.drop_eq_nil_of_le hh]; unfold Mx; rfl
  ·rw [Aeq hh]; rfl
theorem f46 : ∀ (t : Ay) (n : Int) (σ : Sto) (a : Nat), 0 <= n -> n <= 1000 -> σ.cells a = some [.fn (.func 46) [] [.pr a 0]] -> Ah Ew 46 [A4 t, iV n, .pr a 0] σ fun v σ' => v = iV (Ll t n) /\ σ' = σ := by
 intro t n σ a
 revert n
 refine Ay.ind' (P := fun t => ∀ n : Int, 0 <= n -> n <= 1000 -> σ.cells a = some [.fn (.func 46) [] [.pr a 0]] -> Ah Ew 46 [A4 t, iV n, .pr a 0] σ fun v σ' => v = iV (Ll t n) /\ σ' = σ) ?_ t
 intro l ks ih n h1 h2 hc;exact f46n l ks n σ a h1 h2 hc fun t ht n h1 h2 => ih t ht n h1 h2 hc
def Aku (t : Ay) (most : Int) : Bool := decide (0 <= Ll t most)
theorem f10 (t : Ay) (most : Int) (σ : Sto) (h0 : 0 <= most) (h1 : most <= 1000) : Ah Ew 10 [A4 t, iV most] σ fun v σ' => v = .bool (Aku t most) /\ σ' = σ := by
 refine A2 Tryz.func10 rfl rfl fun hw _ => ?_
 refine Ad (Aa (Ax Bq rfl (Bp (eT_len t)) rfl (OA rfl (Ab (Ad (Aa (O1 (Dt zi84) ?_)))))));refine Ab (Ad (Aa (O1 (E8 rfl rfl) (O1 (A6 (vs := [.nil .nilFunc]) (vs' := [.fn (.func 46) [] [.pr (nx σ) 0]]) ld84 rfl rfl rfl Cd rfl) (Ab (Ad (Aa ?_)))))))
 refine O1 (Ae (cs := [.fn (.func 46) [] [.pr (nx σ) 0]]) ld84 rfl (by simp [B2, Sto.cells, Sto.get_set]) rfl) ?_
 refine O1 (Ae Bq rfl rfl (Be (eT_len t))) (OM rfl (Aq rfl rfl rfl rfl (f46 t most _ (nx σ) h0 h1 (by simp [Sto.cells, Sto.get_set])) ?_))
 refine O1 (Gi (q := 0) ok3 rfl rfl) (OA rfl (Ab ?_));refine Ak ?_;refine ⟨_, rfl, _, _, Aw.below hw ((Below.rfl'.new nl _).set nl _), nl, .same rfl, ?_, rfl⟩;exact rfl
def Yu (p : Ay -> Ay -> Bool) : List Ay -> List Ay -> Bool
 | [], _ => true
 | a :: r, b :: s => p a b && Yu p r s
 | _ :: _, [] => false
def eqBy (p : Ay -> Ay -> Bool) (l m : List Ay) : Bool := !(!decide (Int.ofNat l.length = Int.ofNat m.length)) && Yu p l m
theorem f62 (p : Ay -> Ay -> Bool) (l m : List Ay) (k : Nat) (σ : Sto) (hb : l.length < 4611686018427387904) (hk : ∀ a ∈ l, ∀ b ∈ m, Ah Ew k [A4 a, A4 b] σ fun v σ' => v = .bool (p a b) /\ σ' = σ) : Ah Ew 62 [slV eT 2 l, slV eT 2 m, .fn (.func k) [] []] σ fun v σ' => v = .bool (eqBy p l m) /\ σ' = σ := by
 refine A2 Tryz.func62 rfl rfl fun hw _ => ?_
 refine Ad (Aa (OA rfl (Ab (Ad (Ad (Aa (OM rfl ?_)))))));refine O1 (As Kj rfl) (OM rfl (O1 (As Kj rfl) (O1 (C9 ok3 rfl rfl) (Ab ?_))));refine Ai rfl (fun h => ?_) (fun h => ?_)
 ·refine Ad (Aa (OA rfl (Ab ?_)));refine Ak (Bw hw rfl ?_);simp only [eqBy, h]; rfl
 ·have hlen : l.length = m.length := by
   have h0 : (l.length : Int) = m.length := by simpa using h
   omega
  refine Aj (Ad (Ad (Aa (OM rfl (O1 (As Kj rfl) (OM rfl (Ab ?_)))))));refine Am ?_;refine Cg l.length (fun i => [(1, slV eT 2 m), (2, .fn (.func k) [] []), (15, slV eT 2 l), (16, iV (.ofNat l.length)), (17, iV (.ofNat i))]) (fun i σ' => σ' = σ /\ Yu p l m = Yu p (l.drop i) (m.drop i)) ⟨rfl, rfl, rfl, rfl, rfl, trivial⟩ ⟨rfl, rfl⟩ ?_  -- reads [17, 16, 18, 15, 20, 19, 8, 21, 1, 7, 22, 23, 24, 9, 25, 2, 26, 27, 28, 29, 30, 31]
  rintro i σ' hi ⟨rfl, hf⟩;refine Ad (Aa (O1 (Bb ok3 rfl rfl) (Ab (Ad ?_))));refine Ai rfl (fun h1 => ?_) (fun h1 => ?_)
  ·have hlt : i < l.length := by simpa using h1
   obtain ⟨a, ha⟩ : ∃ a, l[i]? = some a := ⟨_, List.getElem?_eq_getElem hlt⟩
   obtain ⟨b, hb'⟩ : ∃ b, m[i]? = some b := ⟨_, List.getElem?_eq_getElem (by omega)⟩
   have hd : l.drop i = a :: l.drop (i + 1) := by
    obtain ⟨h1, rfl⟩ := List.getElem?_eq_some_iff.1 ha;exact List.drop_eq_getElem_cons h1
   have hd' : m.drop i = b :: m.drop (i + 1) := by
    obtain ⟨h1, rfl⟩ := List.getElem?_eq_some_iff.1 hb';exact List.drop_eq_getElem_cons h1
   refine Aj (Ad (Am (Ad (Aa (OM rfl (O1 (A3 L5 eT_len rfl rfl ha) (O1 (Ae Bq rfl rfl (Cb (eT_len a) _)) ?_)))))));refine K9 Ku Bq rfl rfl (fun _ => rfl) rfl (fun _ => rfl) rfl (Bp (eT_len a)) rfl rfl rfl ?_
   refine Ab (Ad (Aa (OM rfl (OM rfl (O1 (A3 L5 eT_len rfl rfl hb') (O1 (Ae Bq rfl rfl (Cb (eT_len b) _)) (B6 Ku Bq rfl (fun _ => rfl) rfl (Bp (eT_len b)) rfl rfl ?_)))))))
   refine Ab (Ad (Aa (OM rfl (O1 (Ae Bq rfl rfl (Be (eT_len a))) (O1 (Ae Bq rfl rfl (Be (eT_len b))) (Aq rfl rfl rfl rfl (hk a (List.mem_of_getElem? ha) b (List.mem_of_getElem? hb')) (O1 (A8 rfl) ?_)))))));refine Ab ?_;refine Ai rfl (fun h2 => ?_) (fun h2 => ?_)
   ·refine Ad (Aa (OA rfl (Ab ?_)));refine Ak (Bw hw rfl ?_)
    have h2 : p a b = false := by simpa using h2
    simp only [eqBy, h, hf, hd, hd', Yu, h2, Bool.false_and, Bool.and_false]; rfl
   ·refine Aj (Aa (O1 (A1 (p := i) (q := 1) ok3 rfl rfl (by omega)) ?_))
    refine OM rfl (Ab ?_);refine ⟨hlt, ⟨rfl, rfl, rfl, rfl, rfl, trivial⟩, rfl, ?_⟩
    have h2 : p a b = true := by simpa using h2
    rw [hf, hd, hd']; simp only [Yu, h2, Bool.true_and]
  ·have hge : l.length <= i := by simpa using h1
   refine Bf ?_;refine Ad (Aa (OA rfl (Ab ?_)));refine Ak (Bw hw rfl ?_);simp only [eqBy, h, hf, List.drop_eq_nil_of_le hge, Yu]; rfl
mutual
def eqT : Ay -> Ay -> Bool
 | .node a k, .node b l => decide (a = b) && (!(!decide (Int.ofNat k.length = Int.ofNat l.length)) && Yv k l)
def Yv : List Ay -> List Ay -> Bool
 | [], _ => true
 | a :: r, b :: s => eqT a b && Yv r s
 | _ :: _, [] => false
end
theorem Yw : ∀ l m, Yv l m = Yu eqT l m
 | [], _ => by simp [Yv, Yu]
 | a :: r, b :: s => by simp [Yv, Yu, Yw r s]
 | _ :: _, [] => by simp [Yv, Yu]
theorem f14n (la lb : Str) (ka kb : List Ay) (σ : Sto) (hb : ka.length < 4611686018427387904) (ih : ∀ a ∈ ka, ∀ b ∈ kb, Ah Ew 14 [A4 a, A4 b] σ fun v σ' => v = .bool (eqT a b) /\ σ' = σ) : Ah Ew 14 [A4 (.node la ka), A4 (.node lb kb)] σ fun v σ' => v = .bool (eqT (.node la ka) (.node lb kb)) /\ σ' = σ := by
 simp only [A4, Hs];refine A2 Tryz.func14 rfl rfl fun hw _ => ?_
 refine Ad (Aa (Ax Bq rfl rfl rfl (Ax Bq rfl rfl rfl (OA rfl (Ab (Ad (Aa ?_)))))));refine O1 (Ac Dr rfl rfl) (O1 (Ae ld9 rfl rfl rfl) (O1 (Ac Dr rfl rfl) (O1 (Ae ld9 rfl rfl rfl) (O1 (Hr ok9 rfl rfl) (OM rfl ?_)))));refine Cv 5 _ ?_ rfl rfl rfl rfl rfl (Av rfl) (fun hg => ?_) (fun hg => ?_) ?_
 rotate_left
 ·refine On hg (Ac Dk rfl rfl) (On hg (Ae H8 rfl rfl rfl) (On hg (Ac Dk rfl rfl) (On hg (Ae H8 rfl rfl rfl) (B0 rfl rfl rfl (by rw [hg]; rfl) rfl rfl rfl rfl (f62 eqT ka kb 14 σ hb ih) ?_))))
  refine Ab ?_;refine ⟨rfl, ?_, ?_⟩
  ·exact sb
  ·exact rfl
 ·refine Of hg (Of hg (Of hg (Of hg (Of hg (Ab ?_)))));exact ⟨rfl, sb⟩
 refine OA rfl (Ab ?_);refine Ak (Bw hw rfl ?_);rw [eqT, Yw]; rfl
theorem f14 : ∀ (t u : Ay) (σ : Sto), L4 t = true -> Ah Ew 14 [A4 t, A4 u] σ fun v σ' => v = .bool (eqT t u) /\ σ' = σ := by
 intro t u σ
 revert u
 refine Ay.ind' (P := fun t => ∀ u, L4 t = true -> Ah Ew 14 [A4 t, A4 u] σ fun v σ' => v = .bool (eqT t u) /\ σ' = σ) ?_ t
 intro l ks ih u hw;obtain ⟨lu, ku⟩ := u;obtain ⟨h1, h2⟩ := Yc hw;exact f14n l lu ks ku σ h1 fun a ha b _ => ih a ha b (h2 a ha)
theorem f55n (la lb : Str) (ka kb : List Ay) (σ : Sto) (hb : ka.length < 4611686018427387904) (ih : ∀ a ∈ ka, ∀ b ∈ kb, Ah Ew 55 [A4 a, A4 b] σ fun v σ' => v = .bool (eqT a b) /\ σ' = σ) : Ah Ew 55 [A4 (.node la ka), A4 (.node lb kb)] σ fun v σ' => v = .bool (eqT (.node la ka) (.node lb kb)) /\ σ' = σ := by
 simp only [A4, Hs];refine A2 Tryz.func55 rfl rfl fun hw _ => ?_
 refine Ad (Aa (Ax Bq rfl rfl rfl (Ax Bq rfl rfl rfl (OA rfl (Ab (Ad (Aa ?_)))))));refine O1 (Ac Dr rfl rfl) (O1 (Ae ld9 rfl rfl rfl) (O1 (Ac Dr rfl rfl) (O1 (Ae ld9 rfl rfl rfl) (O1 (Hr ok9 rfl rfl) (OM rfl ?_)))));refine Cv 5 _ ?_ rfl rfl rfl rfl rfl (Av rfl) (fun hg => ?_) (fun hg => ?_) ?_
 rotate_left
 ·refine On hg (Ac Dk rfl rfl) (On hg (Ae H8 rfl rfl rfl) (On hg (Ac Dk rfl rfl) (On hg (Ae H8 rfl rfl rfl) (B0 rfl rfl rfl (by rw [hg]; rfl) rfl rfl rfl rfl (f62 eqT ka kb 55 σ hb ih) ?_))))
  refine Ab ?_;refine ⟨rfl, ?_, ?_⟩
  ·exact sb
  ·exact rfl
 ·refine Of hg (Of hg (Of hg (Of hg (Of hg (Ab ?_)))));exact ⟨rfl, sb⟩
 refine OA rfl (Ab ?_);refine Ak (Bw hw rfl ?_);rw [eqT, Yw]; rfl
theorem f55 : ∀ (t u : Ay) (σ : Sto), L4 t = true -> Ah Ew 55 [A4 t, A4 u] σ fun v σ' => v = .bool (eqT t u) /\ σ' = σ := by
 intro t u σ
 revert u
 refine Ay.ind' (P := fun t => ∀ u, L4 t = true -> Ah Ew 55 [A4 t, A4 u] σ fun v σ' => v = .bool (eqT t u) /\ σ' = σ) ?_ t
 intro l ks ih u hw;obtain ⟨lu, ku⟩ := u;obtain ⟨h1, h2⟩ := Yc hw;exact f55n l lu ks ku σ h1 fun a ha b _ => ih a ha b (h2 a ha)
theorem f18 (s : Str) (σ : Sto) : Ah Ew 18 [sV s] σ fun v σ' => v = A4 (.node s []) /\ σ' = σ := by
 refine A2 Tryz.func18 rfl rfl fun hw _ => ?_
 refine Ad (Aa (O1 (Dt Ku) (Ab (Ad (Aa (OM rfl (O1 (Cl Akp rfl rfl) ?_)))))));refine O1 (A6 (vs := [.str [], .nil (.slice none 0 0)]) (vs' := [sV s, .nil (.slice none 0 0)]) Bq rfl rfl rfl Cd rfl) (Ab ?_);refine Ak ?_
 exact ⟨_, Cc (vs := [sV s, .nil (.slice none 0 0)]) Bq rfl (by simp [Sto.cells, Sto.get_set]) rfl rfl, _, σ, Aw.below hw ((Below.rfl'.new nl _).set nl _), nl, .agg (.cons (.same rfl) (.cons C7 .nil)), rfl, rfl⟩
theorem f17 (s : Sb) (σ : Sto) (hw' : L4 s.tree = true) : Ah Ew 17 [.agg (eS s)] σ fun v σ' => v = .bool (!(eqT s.tree (.node s.label []))) /\ σ' = σ := by
 refine A2 Tryz.func17 rfl rfl fun hw _ => ?_
 refine Ad (Aa (Ax Amo rfl (Bp (eS_len s)) rfl (OA rfl (Ab (Ad ?_)))))
 refine Gu (anns := [aP 0 1, aR 0 1, aP 0 0, aR 0 0, aE 0 1, aE 1 2, aP 2 2, aP 2 2]) A5 (Ar (l := [(18, [sV s.label], σ, A4 (.node s.label []), σ), (14, [A4 s.tree, A4 (.node s.label [])], σ, .bool (eqT s.tree (.node s.label [])), σ)]) ⟨f18 s.label σ, f14 s.tree (.node s.label []) σ hw', trivial⟩) (by kernel_rfl) ?_
 refine DF (Ac Ac2 rfl rfl) (DF (Ae (v := A4 s.tree) Bq rfl rfl (Be (eT_len s.tree))) (DF (Ac Ahb rfl rfl) (DF (Ae ld9 rfl rfl rfl) (DT (A7 rfl rfl Ba) (DT (A7 rfl rfl (Cz (by decide) Ba)) ?_)))))
 refine DF (A8 rfl) (DF (Bv rfl) (Bl ?_))
 refine ⟨rfl, by simp, ?_⟩
 refine Ak (Bw hw rfl ?_);exact rfl
theorem f100 (s : Sb) (l : Str) (σ : Sto) : Ah Ew 100 [.agg (eS s), .pv [sV l]] σ fun v σ' => v = .bool (decide (s.label = l)) /\ σ' = σ := by
 refine A2 Tryz.func100 rfl rfl fun hw _ => ?_
 refine Ad (Aa (Ax Amo rfl (Bp (eS_len s)) rfl (OA rfl (Ab (Ad (Aa (O1 (Ac Ahb rfl rfl) ?_)))))));refine O1 (Ae ld9 rfl rfl rfl) (O1 (Ae ld9 rfl rfl rfl) (O1 (Hr ok9 rfl rfl) (OA rfl (Ab ?_))));refine Ak (Bw hw rfl ?_);exact rfl
def Cp (l : List Sb) (s : Str) : Option Ay := match l with
 | [] => none
 | a :: r => if a.label = s then some a.tree else Cp r s
theorem Rj {s : Str} : ∀ {l : List Sb} {i : Nat}, Bk (fun a => decide (a.label = s)) l i < 0 -> Cp l s = none
 | [], _, _ => rfl
 | a :: r, i, h => by
  unfold Bk at h
  by_cases ha : a.label = s
  ·rw [decide_eq_true ha, cond_true] at h; exact absurd h (by simp)
  ·rw [decide_eq_false ha, cond_false] at h;unfold Cp; rw [if_neg ha]; exact Rj h
theorem Rk {s : Str} : ∀ {l : List Sb} {i : Nat}, ¬ Bk (fun a => decide (a.label = s)) l i < 0 -> ∃ n a, Bk (fun a => decide (a.label = s)) l i = Int.ofNat (i + n) /\ l[n]? = some a /\ Cp l s = some a.tree
 | [], _, h => by simp [Bk] at h
 | a :: r, i, h => by
  unfold Bk at h ⊢
  by_cases ha : a.label = s
  ·rw [decide_eq_true ha, cond_true]; exact ⟨0, a, rfl, rfl, by unfold Cp; rw [if_pos ha]⟩
  ·rw [decide_eq_false ha, cond_false] at h ⊢;obtain ⟨n, b, h1, h2, h3⟩ := Rk h
   exact ⟨n + 1, b, by rw [h1]; congr 1; omega, by simpa using h2, by unfold Cp; rw [if_neg ha]; exact h3⟩
def Qr : Option Ay -> AV
 | none => .tup [A4 (.node [] []), .bool false]
 | some t => .tup [A4 t, .bool true]
theorem Aa4 {N : Nat} (o : Option Ay) : AV.und N (Qr o) = true := by
 cases o with
 | none => rfl
 | some t => show (AV.und N (A4 t) && (true && true)) = true; rw [Ya]; rfl
theorem f54 (l : List Sb) (s : Str) (σ : Sto) (hb : l.length < 4611686018427387904) : Ah Ew 54 [slV eS 3 l, sV s] σ fun v σ' => v = Qr (Cp l s) /\ σ' = σ := by
 refine A2 Tryz.func54 rfl rfl fun hw _ => ?_
 refine Ad (Aa (Ax ld9 rfl rfl rfl (O1 (Dt Ku) (OA rfl (Ab (Ad (Aa ?_)))))));refine OM rfl (O1 (E8 rfl rfl) (Aq rfl rfl rfl rfl (f64 (fun a => decide (a.label = s)) l 100 [.pv [sV s]] _ hb (fun a _ => f100 a s _)) ?_))
 refine OA rfl (Ab (Ad (Ad (Aa (OM rfl (O1 (Bb (q := 0) ok3 rfl rfl) (Ab ?_)))))));refine Ai rfl (fun h => ?_) (fun h => ?_)
 ·refine Ad (Aa (O1 (Cl Akp rfl rfl) (O1 (A6 (vs := [.str [], .nil (.slice none 0 0)]) (vs' := [.str [], .nil (.slice none 0 0)]) Bq rfl rfl rfl Cd rfl) (OA rfl (Ab ?_)))));refine Ak ?_
  refine ⟨_, Cc (vs := [.str [], .nil (.slice none 0 0)]) Bq rfl (by simp [Sto.cells, Sto.get_set]) rfl (Fe rfl rfl), Qr (Cp l s), σ, Aw.below hw ((Below.rfl'.new nl _).set nl _), nl, ?_, rfl, rfl⟩
  rw [Rj (by simpa using h)]
  exact .tup (.cons (.agg (.cons (.same rfl) (.cons C7 .nil))) (.cons (.same rfl) .nil))
 ·obtain ⟨n, a, hn, ha, hfs⟩ := Rk (by simpa using h)
  rw [Nat.zero_add] at hn;rw [hn];refine Aj (Ad (Aa (OM rfl (OM rfl (O1 (A3 Akq eS_len rfl rfl ha) (O1 (Ac Ac2 rfl rfl) (O1 (Ae (v := A4 a.tree) Bq rfl rfl (Cb (eT_len a.tree) _)) ?_)))))));refine O1 (A6 (vs := [.str [], .nil (.slice none 0 0)]) (vs' := eT a.tree) Bq rfl rfl (Bp (eT_len _)) Cd (Ey (eT_len _))) (OA rfl (Ab ?_));refine Ak ?_
  refine ⟨_, Cc (vs := eT a.tree) (v := A4 a.tree) Bq rfl (by simp [Sto.cells, Sto.get_set]) (Be (eT_len _)) (Fe rfl rfl), Qr (Cp l s), σ, Aw.below hw ((Below.rfl'.new nl _).set nl _), nl, ?_, rfl, rfl⟩
  rw [hfs]; exact .same (Aa4 (some a.tree))
structure Kn where
 consts : SM Bool
 vars : SM Bool
 frames : SM Bool
 hyps : SM Hp
 types : SM Str
def hV (h : Hp) : AV := .agg (eH h)
def knV (m : Nat) : AV := .pv [.mp m, .mp (m + 1), .mp (m + 2), .mp (m + 3), .mp (m + 4)]
structure Gc (σ : Sto) (m : Nat) (k : Kn) : Prop where
 c : E3 σ m k.consts
 v : E3 σ (m + 1) k.vars
 f : E3 σ (m + 2) k.frames
 h : Bg hV σ (m + 3) k.hyps
 t : Bg sV σ (m + 4) k.types
def Kn.isSym (k : Kn) (s : Str) : Bool := k.consts.has s || k.vars.has s
theorem Afc (m : Nat) (k : Kn) (s : Str) (σ : Sto) (hk : Gc σ m k) : Ah Ew 208 [knV m, sV s] σ fun v σ' => v = .bool (k.isSym s) /\ σ' = σ := by
 refine A2 Tryz.func208 rfl rfl fun hw _ => ?_
 refine Ad (Aa (OA rfl (Ab (Ad (Aa (OM rfl (O1 (Bz rfl) ?_)))))));refine O1 (Ac M2 rfl rfl) (O1 (Ae E4 rfl rfl rfl) (OM rfl (O1 (Dj st9 C1 rfl hk.c rfl) (OM rfl ?_))));refine Co 6 _ ?_ rfl rfl rfl rfl rfl (Av rfl) (fun hg => ?_) (fun hg => ?_) ?_
 rotate_left
 ·refine On hg (Ag rfl) (On hg (Bz rfl) (On hg (Ac H1 rfl rfl) (On hg (Ae E4 rfl rfl rfl) (On hg (Ag rfl) (On hg (Dj st9 C1 rfl hk.v rfl) (Ab ?_))))));refine ⟨rfl, ?_, ?_⟩
  ·exact sb
  ·exact rfl
 ·refine Of hg (Of hg (Of hg (Of hg (Of hg (Of hg (Ab ?_))))));exact ⟨rfl, sb⟩
 refine OA rfl (Ab ?_);refine Ak (Bw hw rfl ?_);exact rfl
theorem f238 (m : Nat) (k : Kn) (s : Str) (σ : Sto) (hk : Gc σ m k) : Ah Ew 238 [sV s, .pv [knV m]] σ fun v σ' => v = .bool (!k.isSym s) /\ σ' = σ := by
 refine A2 Tryz.func238 rfl rfl fun hw _ => ?_
 refine Ad (Aa (OA rfl (Ab (Ad (Aa (O1 (Ae Jd rfl rfl rfl) (OM rfl ?_)))))));refine Aq rfl rfl rfl rfl (Afc m k s _ hk) (O1 (A8 rfl) (OA rfl (Ab ?_)));refine Ak (Bw hw rfl ?_);exact rfl
def Kn.textF (k : Kn) (l : List Str) : Int :=
 if l = [] ∨ (200 : Int) < Int.ofNat l.length then 2 else if (!k.consts.has (l.headD []) || l.tail.any fun s => !k.isSym s) then 12 else 0
theorem f212 (m : Nat) (k : Kn) (l : List Str) (σ : Sto) (hk : Gc σ m k) (hb : l.length < 4611686018427387904) : Ah Ew 212 [knV m, A9 l] σ fun v σ' => v = iV (k.textF l) /\ σ' = σ := by
 refine A2 Tryz.func212 rfl rfl fun hw _ => ?_
 refine Ad (Aa (Ax Jd rfl rfl rfl (OA rfl (Ab (Ad (Am (Ad ?_)))))));refine Aa (OM rfl (O1 (As D0 rfl) (O1 (Dq (q := 0) ok3 rfl rfl) (OM rfl ?_))));refine Co 3 _ ?_ rfl rfl rfl rfl rfl (Av rfl) (fun hg => ?_) (fun hg => ?_) ?_
 rotate_left
 ·refine On hg (Ag rfl) (On hg (As D0 rfl) (On hg (Cm (q := 200) ok3 rfl rfl) (Ab ?_)));refine ⟨rfl, ?_, ?_⟩
  ·exact sb
  ·exact rfl
 ·refine Of hg (Of hg (Of hg (Ab ?_)));exact ⟨rfl, sb⟩
 refine OA rfl (Ab ?_);refine Ai rfl (fun h => ?_) (fun h => ?_)
 ·refine Ad (Aa (OA rfl (Ab ?_)));refine Ak (Bw hw rfl ?_)
  rw [Kn.textF, if_pos (by cases l with | nil => exact .inl rfl | cons a r => right; simp at h ⊢; omega)]; rfl
 ·obtain ⟨a, r, rfl⟩ : ∃ a r, l = a :: r := by cases l with | nil => simp at h | cons a r => exact ⟨a, r, rfl⟩
  have hn : ¬ (a :: r = [] ∨ (200 : Int) < Int.ofNat (a :: r).length) := by simp at h ⊢; omega
  refine Hg [(14, .bool (!k.consts.has a || r.any fun s => !k.isSym s))] ?_ ?_
  ·rcases Bool.eq_false_or_eq_true (!k.consts.has a) with hg9 | hg9
   ·refine Cq (anns := [aR 0 0, aP 0 0, aP 0 0, aR 0 0, aP 0 0, aP 0 0, aR 0 0, aR 0 0, aP 0 0, aP 0 0, aP 0 0, aP 0 0, aP 0 0, aE 0 1, aP 1 1, aP 1 1]) A5 (Ar (l := []) trivial) (by kernel_rfl) (by kernel_rfl) ?_
    refine DF (Ae Jd rfl rfl rfl) (DF (Bz rfl) (DF (Ac M2 rfl rfl) (DF (Ae E4 rfl rfl rfl) (DF (Ag rfl) (DF (A3 (i := 0) C5 (fun _ => rfl) rfl rfl rfl) ?_)))))
    refine DF (Ae ld9 rfl rfl rfl) (DF (Dj st9 C1 rfl hk.c rfl) (DF (A8 rfl) (DF (Ag rfl) (Lm (e := false) rfl rfl rfl rfl (by simp [hg9]) rfl rfl ?_))))
    refine Lm (e := false) rfl rfl rfl rfl (by simp [hg9]) rfl rfl ?_
    refine Lm (e := false) rfl rfl rfl rfl (by simp [hg9]) rfl rfl ?_
    refine Lm (e := true) rfl rfl rfl rfl (by simp [hg9]) rfl rfl ?_
    refine DF (Bx rfl (by simp [hg9]) rfl) ?_
    refine DF (Bv rfl) (Bl ?_)
    exact ⟨⟨congrArg (fun b => some (AV.bool b)) (by simp [hg9]), trivial⟩, sb, rfl⟩
   ·refine Cq (anns := [aR 0 0, aP 0 0, aP 0 0, aR 0 0, aP 0 0, aP 0 0, aR 0 0, aR 0 0, aP 0 0, aP 0 0, aP 0 0, aP 0 0, aP 0 0, aE 0 1, aP 1 1, aP 1 1]) A5 (Ar (l := [(31, [A9 r, .fn (.func 238) [] [.pv [knV m]]], σ, .bool (r.any fun s => !k.isSym s), σ)]) ⟨f31 (fun s => !k.isSym s) r 238 [.pv [knV m]] σ (by simp at hb ⊢; omega) (fun s _ => f238 m k s σ hk), trivial⟩) (by kernel_rfl) (by kernel_rfl) ?_
    refine DF (Ae Jd rfl rfl rfl) (DF (Bz rfl) (DF (Ac M2 rfl rfl) (DF (Ae E4 rfl rfl rfl) (DF (Ag rfl) (DF (A3 (i := 0) C5 (fun _ => rfl) rfl rfl rfl) ?_)))))
    refine DF (Ae ld9 rfl rfl rfl) (DF (Dj st9 C1 rfl hk.c rfl) (DF (A8 rfl) (DF (Ag rfl) (K8 (e := false) rfl rfl rfl rfl (by simp [hg9]) rfl rfl (Ag rfl) ?_))))
    refine K8 (e := false) rfl rfl rfl rfl (by simp [hg9]) rfl rfl (Acp (a := 1) C5 (fun _ => rfl) rfl rfl (by simp)) ?_
    refine K8 (e := false) rfl rfl rfl rfl (by simp [hg9]) rfl rfl (E8 rfl rfl) ?_
    refine K8 (e := true) rfl rfl rfl rfl (by simp [hg9]) rfl rfl (A7 rfl rfl Ba) ?_
    refine DF (Bt rfl (by simp [hg9]) rfl) ?_
    refine DF (Bv rfl) (Bl ?_)
    exact ⟨⟨congrArg (fun b => some (AV.bool b)) (by simp [hg9]), trivial⟩, sb, rfl⟩
  refine Ai rfl (fun h => ?_) (fun h => ?_)
  ·refine Ad (Aa (OA rfl (Ab ?_)));refine Ak (Bw hw rfl ?_)
   rw [Kn.textF, if_neg hn, if_pos (by simpa using h)]; rfl
  ·refine Aj (Ad (Aa (OA rfl (Ab ?_))));refine Ak (Bw hw rfl ?_)
   rw [Kn.textF, if_neg hn, if_neg (by simpa using h)]; rfl
def Afd (m : Nat) (σ σ' : Sto) : Prop := nx σ' = nx σ /\ ∀ b, b < m ∨ m + 5 <= b -> σ'.get b = σ.get b
theorem Afd.refl {m : Nat} {σ : Sto} : Afd m σ σ := ⟨rfl, fun _ _ => rfl⟩
theorem Afd.set {m a : Nat} {σ σ' : Sto} {o : AO} (h : Afd m σ σ') (h1 : m <= a) (h2 : a < m + 5) : Afd m σ (σ'.set a o) :=
 ⟨by rw [An]; exact h.1, fun b hb => by rw [Sto.get_set, if_neg (by omega)]; exact h.2 b hb⟩
def Pm (s : Str) : Bool := Kl [2, 3] s
def Rm : List Str -> Kn -> Int × Kn
 | [], k => (0, k)
 | c :: r, k => cond (!Pm c) (2, k) (cond (k.consts.has c) (6, k) (Rm r { k with consts := k.consts.put c true }))
def Tp : List Str -> Kn -> Int × Kn
 | [], k => (0, k)
 | c :: r, k => cond (!Pm c) (2, k) (cond (k.isSym c) (6, k) (Tp r { k with vars := k.vars.put c true }))
def Kv (d : Db) (k : Kn) : Int × Kn := if (Rm d.consts k).1 = 0 then Tp d.vars (Rm d.consts k).2 else Rm d.consts k
theorem Bn {α : Type} {l : List α} {i : Nat} {a : α} (ha : l[i]? = some a) : l.drop i = a :: l.drop (i + 1) := by
 obtain ⟨h1, rfl⟩ := List.getElem?_eq_some_iff.1 ha;exact List.drop_eq_getElem_cons h1
theorem B3 {α : Type} {l : List α} {i : Nat} (h : i < l.length) : ∃ a, l[i]? = some a := ⟨_, List.getElem?_eq_getElem h⟩
theorem f181 (m : Nat) (k : Kn) (d : Db) (σ : Sto) (hk : Gc σ m k) (hb : d.consts.length < 4611686018427387904) (hb2 : d.vars.length < 4611686018427387904) : Ah Ew 181 [knV m, dbV d] σ fun v σ' => v = iV (Kv d k).1 /\ Afd m σ σ' /\ Gc σ' m (Kv d k).2 := by
 refine A2 Tryz.func181 rfl rfl fun hw hu0 => ?_
 refine Ad (Aa (Ax Ki rfl rfl rfl (OA rfl (Ab (Ad (Ad (Aa ?_)))))));refine O1 (Ac Aha rfl rfl) (O1 (Ae Cf rfl rfl rfl) (O1 (As D0 rfl) (OM rfl (Ab (Am ?_)))));refine Cg d.consts.length (fun i0 => [(0, knV m), (3, .pv [A9 d.consts, A9 d.vars, slV eF 8 d.frames]), (10, A9 d.consts), (11, iV (.ofNat d.consts.length)), (12, iV (.ofNat i0))]) (fun i0 σ0 => ∃ ki, Afd m σ σ0 /\ Gc σ0 m ki /\ Rm d.consts k = Rm (d.consts.drop i0) ki) ⟨rfl, rfl, rfl, rfl, rfl, trivial⟩ ⟨k, .refl, hk, rfl⟩ ?_
 rintro i0 σ0 hi0 ⟨k0, hu0, hk0, hf0⟩;refine Ad (Aa (O1 (Bb ok3 rfl rfl) (Ab (Ad ?_))));refine Ai rfl (fun h1 => ?_) (fun h1 => ?_)
 ·have hlt0 : i0 < d.consts.length := by simpa using h1
  obtain ⟨a0, ha0⟩ := B3 hlt0;have hd0 := Bn ha0;obtain ⟨ver0, hver0⟩ := hk0.c;refine Aj (Ad (Am (Ad (Aa (O1 (A3 C5 (fun _ => rfl) rfl rfl ha0) ?_)))))
  refine O1 (Ae ld9 rfl rfl rfl) (OA rfl (Ab (Ad (Ad (Aa (OM rfl (Aq rfl rfl rfl rfl (Akt a0 _) ?_)))))));refine O1 (A8 rfl) (Ab ?_);refine Ai rfl (fun h2 => ?_) (fun h2 => ?_)
  ·refine Ad (Aa (OA rfl (Ab ?_)));refine Ec fun hw' => ?_
   refine Ak ?_
   exact ⟨_, rfl, _, _, Aw.of_same hw' nl (fun _ _ => rfl), by rw [hu0.1]; exact nl, .same rfl, by rw [Kv, hf0, hd0, Rm, Pm, h2]; rfl, hu0, by rw [Kv, hf0, hd0, Rm, Pm, h2]; exact hk0⟩
  ·refine Aj (Ad (Ad (Aa (OM rfl (O1 (Bz rfl) (O1 (Ac M2 rfl rfl) (O1 (Ae E4 rfl rfl rfl) ?_)))))));refine OM rfl (O1 (Dj st9 C1 rfl hk0.c rfl) (Ab ?_));refine Ai rfl (fun h3 => ?_) (fun h3 => ?_)
   ·refine Ad (Aa (OA rfl (Ab ?_)));refine Ec fun hw' => ?_
    refine Ak ?_
    exact ⟨_, rfl, _, _, Aw.of_same hw' nl (fun _ _ => rfl), by rw [hu0.1]; exact nl, .same rfl, by rw [Kv, hf0, hd0, Rm, Pm, h2, h3]; rfl, hu0, by rw [Kv, hf0, hd0, Rm, Pm, h2, h3]; exact hk0⟩
   ·refine Aj (Aa (OM rfl (O1 (Bz rfl) (O1 (Ac M2 rfl rfl) (O1 (Ae E4 rfl rfl rfl) (OM rfl (O1 (Fj (v := true) st9 C1 rfl hver0 rfl rfl (fun te k1 k2 => by first | exact G2 k1 k2 | exact G3 k1 k2 | exact Hu k1 k2 | exact Hv k1 k2 | exact Gj k1 k2 rfl)) ?_)))))))
    refine Ab (Aa (O1 (A1 (q := 1) ok3 rfl rfl (by omega)) ?_))
    refine OM rfl (Ab ?_)
    refine ⟨hlt0, ⟨rfl, rfl, rfl, rfl, rfl, trivial⟩, { k0 with consts := k0.consts.put a0 true }, hu0.set (by omega) (by omega), ⟨.put, hk0.v.set (by omega), hk0.f.set (by omega), hk0.h.set (by omega), hk0.t.set (by omega)⟩, by rw [hf0, hd0, Rm, Pm, h2, h3]; rfl⟩
 ·have hge0 : d.consts.length <= i0 := by simpa using h1
  have hs : Kv d k = Tp d.vars k0 := by rw [Kv, hf0, List.drop_eq_nil_of_le hge0]; rfl
  refine Bf ?_;refine Ad (Ad (Aa (O1 (Ac Od rfl rfl) (O1 (Ae Cf rfl rfl rfl) (O1 (As D0 rfl) (OM rfl (Ab ?_)))))));refine Am ?_;refine Cg d.vars.length (fun i2 => [(0, knV m), (32, A9 d.vars), (33, iV (.ofNat d.vars.length)), (34, iV (.ofNat i2))]) (fun i2 σ2 => ∃ ki, Afd m σ σ2 /\ Gc σ2 m ki /\ Tp d.vars k0 = Tp (d.vars.drop i2) ki) ⟨rfl, rfl, rfl, rfl, trivial⟩ ⟨k0, hu0, hk0, rfl⟩ ?_
  rintro i2 σ2 hi2 ⟨k2, hu2, hk2, hf2⟩;refine Ad (Aa (O1 (Bb ok3 rfl rfl) (Ab (Ad ?_))));refine Ai rfl (fun h2 => ?_) (fun h2 => ?_)
  ·have hlt2 : i2 < d.vars.length := by simpa using h2
   obtain ⟨a2, ha2⟩ := B3 hlt2;have hd2 := Bn ha2;obtain ⟨ver2, hver2⟩ := hk2.v;refine Aj (Ad (Am (Ad (Aa (O1 (A3 C5 (fun _ => rfl) rfl rfl ha2) ?_)))))
   refine O1 (Ae ld9 rfl rfl rfl) (OA rfl (Ab (Ad (Ad (Aa (OM rfl (Aq rfl rfl rfl rfl (Akt a2 _) ?_)))))));refine O1 (A8 rfl) (Ab ?_);refine Ai rfl (fun h3 => ?_) (fun h3 => ?_)
   ·refine Ad (Aa (OA rfl (Ab ?_)));refine Ec fun hw' => ?_
    refine Ak ?_
    exact ⟨_, rfl, _, _, Aw.of_same hw' nl (fun _ _ => rfl), by rw [hu2.1]; exact nl, .same rfl, by rw [hs, hf2, hd2, Tp, Pm, h3]; rfl, hu2, by rw [hs, hf2, hd2, Tp, Pm, h3]; exact hk2⟩
   ·refine Aj (Ad (Ad (Aa (OM rfl (OM rfl (Aq rfl rfl rfl rfl (Afc m k2 a2 _ hk2) (Ab ?_)))))));refine Ai rfl (fun h4 => ?_) (fun h4 => ?_)
    ·refine Ad (Aa (OA rfl (Ab ?_)));refine Ec fun hw' => ?_
     refine Ak ?_
     exact ⟨_, rfl, _, _, Aw.of_same hw' nl (fun _ _ => rfl), by rw [hu2.1]; exact nl, .same rfl, by rw [hs, hf2, hd2, Tp, Pm, h3, h4]; rfl, hu2, by rw [hs, hf2, hd2, Tp, Pm, h3, h4]; exact hk2⟩
    ·refine Aj (Aa (OM rfl (O1 (Bz rfl) (O1 (Ac H1 rfl rfl) (O1 (Ae E4 rfl rfl rfl) (OM rfl (O1 (Fj (v := true) st9 C1 rfl hver2 rfl rfl (fun te k1 k2 => by first | exact G2 k1 k2 | exact G3 k1 k2 | exact Hu k1 k2 | exact Hv k1 k2 | exact Gj k1 k2 rfl)) ?_)))))))
     refine Ab (Aa (O1 (A1 (q := 1) ok3 rfl rfl (by omega)) ?_))
     refine OM rfl (Ab ?_)
     refine ⟨hlt2, ⟨rfl, rfl, rfl, rfl, trivial⟩, { k2 with vars := k2.vars.put a2 true }, hu2.set (by omega) (by omega), ⟨hk2.c.set (by omega), .put, hk2.f.set (by omega), hk2.h.set (by omega), hk2.t.set (by omega)⟩, by rw [hf2, hd2, Tp, Pm, h3, h4]; rfl⟩
  ·have hge2 : d.vars.length <= i2 := by simpa using h2
   refine Bf ?_;refine Ad (Aa (OA rfl (Ab ?_)));refine Ec fun hw' => ?_
   refine Ak ?_
   exact ⟨_, rfl, _, _, Aw.of_same hw' nl (fun _ _ => rfl), by rw [hu2.1]; exact nl, .same rfl, by rw [hs, hf2, List.drop_eq_nil_of_le hge2]; rfl, hu2, by rw [hs, hf2, List.drop_eq_nil_of_le hge2]; exact hk2⟩
theorem ok301 : okI Ew.P 301 = true := by kernel_rfl
theorem bo4 : Wa Ew.P 4 = true := by kernel_rfl
theorem Cx {α : Type} {l : List α} {i : Nat} {a : α} (ha : l[i]? = some a) : l.take (i + 1) = l.take i ++ [a] := by rw [List.take_add_one, ha]; rfl
theorem keyP (p : Pr) : Hb Ew.P 301 (.agg (eP p)) = some (.agg [kS p.a, kS p.b]) := by kernel_rfl
theorem Ai5 (p q : Pr) : Key.eq (.agg [kS p.a, kS p.b]) (.agg [kS q.a, kS q.b]) = decide (p = q) := by
 show cond (Key.eq (kS p.a) (kS q.a)) (cond (Key.eq (kS p.b) (kS q.b)) true false) false = _
 rw [Aes, Aes];obtain ⟨a, b⟩ := p;obtain ⟨c, d⟩ := q
 by_cases h1 : a = c <;> by_cases h2 : b = d <;> simp [h1, h2]
theorem f35 (l m : List Str) (σ : Sto) (hb : m.length < 4611686018427387904) : Ah Ew 35 [A9 l, A9 m] σ fun v σ' => v = .bool (decide (l = m)) /\ σ' = σ := by
 refine A2 Tryz.func35 rfl rfl fun hw hu0 => ?_
 refine Ad (Aa (OA rfl (Ab (Ad (Ad (Aa (OM rfl ?_)))))));refine O1 (As D0 rfl) (OM rfl (O1 (As D0 rfl) (O1 (C9 ok3 rfl rfl) (Ab ?_))));refine Ai rfl (fun h1 => ?_) (fun h1 => ?_)
 ·refine Ad (Aa (OA rfl (Ab ?_)));refine Ak (Bw hw rfl ?_)
  exact congrArg AV.bool (decide_eq_false (fun hh => by subst hh; simp at h1)).symm
 ·have hlen : l.length = m.length := by simp at h1; omega
  refine Aj (Ad (Ad (Aa (OM rfl (O1 (As D0 rfl) (OM rfl (Ab ?_)))))));refine Am ?_;refine Cg l.length (fun i0 => [(0, A9 l), (1, A9 m), (12, iV (.ofNat l.length)), (13, iV (.ofNat i0))]) (fun i0 σ0 => σ0 = σ /\ l.take i0 = m.take i0) ⟨rfl, rfl, rfl, rfl, trivial⟩ ⟨rfl, rfl⟩ ?_
  rintro i0 σ0 hi0 ⟨rfl, hf0⟩;refine Ad (Aa (O1 (Bb ok3 rfl rfl) (Ab (Ad ?_))));refine Ai rfl (fun h2 => ?_) (fun h2 => ?_)
  ·have hlt0 : i0 < l.length := by simpa using h2
   obtain ⟨a0, ha0⟩ := B3 hlt0;have hd0 := Bn ha0
   obtain ⟨b, hb0⟩ := B3 (show i0 < m.length by omega)
   refine Aj (Ad (Am (Ad (Aa (OM rfl (OA rfl (Ab ?_)))))));refine Ad ?_
   refine Ht (anns := [aP 0 0, aP 0 0, aP 0 0, aR 0 0, aP 0 0, aP 0 0, aP 0 0, aR 0 0, aP 0 0]) A5 (by kernel_rfl) (by kernel_rfl) ?_
   refine DF (Ag rfl) (DF (Ag rfl) (DF (A3 C5 (fun _ => rfl) rfl rfl ha0) ?_))
   refine DF (Ae ld9 rfl rfl rfl) (DF (Ag rfl) (DF (Ag rfl) (DF (A3 C5 (fun _ => rfl) rfl rfl hb0) ?_)))
   refine DF (Ae ld9 rfl rfl rfl) (DF (En ok9 rfl rfl) (Bl ?_));refine ⟨rfl, rfl, ?_⟩;refine Ai rfl (fun h3 => ?_) (fun h3 => ?_)
   ·refine Ad (Aa (OA rfl (Ab ?_)));refine Ak (Bw hw rfl ?_)
    exact congrArg AV.bool (decide_eq_false (fun hh => by
     have h4 : a0 ≠ b := (by simpa using h3)
     subst hh; rw [ha0] at hb0; cases hb0; exact h4 rfl)).symm
   ·refine Aj (Aa (O1 (A1 (q := 1) ok3 rfl rfl (by omega)) ?_))
    refine OM rfl (Ab ?_)
    refine ⟨hlt0, ⟨rfl, rfl, rfl, rfl, trivial⟩, rfl, (have h4 : a0 = b := (by simpa using h3); by rw [Cx ha0, Cx hb0, hf0, h4])⟩
  ·have hge0 : l.length <= i0 := by simpa using h2
   refine Bf ?_;refine Ad (Aa (OA rfl (Ab ?_)));refine Ak (Bw hw rfl ?_)
   exact congrArg AV.bool (decide_eq_true (by rw [List.take_of_length_le hge0, List.take_of_length_le (by omega)] at hf0; exact hf0)).symm
theorem f242 (l m : List Pr) (σ : Sto) (hb : m.length < 4611686018427387904) : Ah Ew 242 [slV eP 2 l, slV eP 2 m] σ fun v σ' => v = .bool (decide (l = m)) /\ σ' = σ := by
 refine A2 Tryz.func242 rfl rfl fun hw hu0 => ?_
 refine Ad (Aa (OA rfl (Ab (Ad (Ad (Aa (OM rfl ?_)))))));refine O1 (As Yq rfl) (OM rfl (O1 (As Yq rfl) (O1 (C9 ok3 rfl rfl) (Ab ?_))));refine Ai rfl (fun h1 => ?_) (fun h1 => ?_)
 ·refine Ad (Aa (OA rfl (Ab ?_)));refine Ak (Bw hw rfl ?_)
  exact congrArg AV.bool (decide_eq_false (fun hh => by subst hh; simp at h1)).symm
 ·have hlen : l.length = m.length := by simp at h1; omega
  refine Aj (Ad (Ad (Aa (OM rfl (O1 (As Yq rfl) (OM rfl (Ab ?_)))))));refine Am ?_;refine Cg l.length (fun i0 => [(0, slV eP 2 l), (1, slV eP 2 m), (12, iV (.ofNat l.length)), (13, iV (.ofNat i0))]) (fun i0 σ0 => σ0 = σ /\ l.take i0 = m.take i0) ⟨rfl, rfl, rfl, rfl, trivial⟩ ⟨rfl, rfl⟩ ?_
  rintro i0 σ0 hi0 ⟨rfl, hf0⟩;refine Ad (Aa (O1 (Bb ok3 rfl rfl) (Ab (Ad ?_))));refine Ai rfl (fun h2 => ?_) (fun h2 => ?_)
  ·have hlt0 : i0 < l.length := by simpa using h2
   obtain ⟨a0, ha0⟩ := B3 hlt0;have hd0 := Bn ha0
   obtain ⟨b, hb0⟩ := B3 (show i0 < m.length by omega)
   refine Aj (Ad (Am (Ad (Aa (OM rfl (OA rfl (Ab ?_)))))));refine Ad ?_
   refine Ht (anns := [aP 0 0, aP 0 0, aP 0 0, aR 0 0, aP 0 0, aP 0 0, aP 0 0, aR 0 0, aP 0 0]) A5 (by kernel_rfl) (by kernel_rfl) ?_
   refine DF (Ag rfl) (DF (Ag rfl) (DF (A3 Uj (fun _ => rfl) rfl rfl ha0) ?_))
   refine DF (Ae Je rfl rfl rfl) (DF (Ag rfl) (DF (Ag rfl) (DF (A3 Uj (fun _ => rfl) rfl rfl hb0) ?_)))
   refine DF (Ae Je rfl rfl rfl) (DF (Aqy ok301 rfl rfl rfl rfl (keyP a0) (keyP b)) (Bl ?_));refine ⟨rfl, rfl, ?_⟩;refine Ai rfl (fun h3 => ?_) (fun h3 => ?_)
   ·refine Ad (Aa (OA rfl (Ab ?_)));refine Ak (Bw hw rfl ?_)
    exact congrArg AV.bool (decide_eq_false (fun hh => by
     have h4 : a0 ≠ b := (by rw [Ai5] at h3; simpa using h3)
     subst hh; rw [ha0] at hb0; cases hb0; exact h4 rfl)).symm
   ·refine Aj (Aa (O1 (A1 (q := 1) ok3 rfl rfl (by omega)) ?_))
    refine OM rfl (Ab ?_)
    refine ⟨hlt0, ⟨rfl, rfl, rfl, rfl, trivial⟩, rfl, (have h4 : a0 = b := (by rw [Ai5] at h3; simpa using h3); by rw [Cx ha0, Cx hb0, hf0, h4])⟩
  ·have hge0 : l.length <= i0 := by simpa using h2
   refine Bf ?_;refine Ad (Aa (OA rfl (Ab ?_)));refine Ak (Bw hw rfl ?_)
   exact congrArg AV.bool (decide_eq_true (by rw [List.take_of_length_le hge0, List.take_of_length_le (by omega)] at hf0; exact hf0)).symm
def Ai6 (a b : Hp) : Bool := decide (a.label = b.label) && (a.floating == b.floating) && decide (a.text = b.text)
theorem f187 (a b : Hp) (σ : Sto) (hb : b.text.length < 4611686018427387904) : Ah Ew 187 [.agg (eH a), .agg (eH b)] σ fun v σ' => v = .bool (Ai6 a b) /\ σ' = σ := by
 refine A2 Tryz.func187 rfl rfl fun hw hu0 => ?_
 refine Ad (Aa (Ax Dy rfl rfl rfl (Ax Dy rfl rfl rfl (OA rfl (Ab (Ad (Aa ?_)))))));refine O1 (Ac Fk rfl rfl) (O1 (Ae ld9 rfl rfl rfl) (O1 (Ac Fk rfl rfl) (O1 (Ae ld9 rfl rfl rfl) (O1 (Hr ok9 rfl rfl) (OM rfl ?_)))));refine Cv 5 _ ?_ rfl rfl rfl rfl rfl (Av rfl) (fun hg => ?_) (fun hg => ?_) ?_
 rotate_left
 ·refine On hg (Ac Io rfl rfl) (On hg (Ae ld4 rfl rfl rfl) (On hg (Ac Io rfl rfl) (On hg (Ae ld4 rfl rfl rfl) (On hg (Aqx bo4 rfl rfl) (Ab ?_)))));refine ⟨rfl, ?_, ?_⟩
  ·exact sb
  ·exact rfl
 ·refine Of hg (Of hg (Of hg (Of hg (Of hg (Ab ?_)))));exact ⟨rfl, sb⟩
 refine OM rfl ?_;refine Cv 5 _ ?_ rfl rfl rfl rfl rfl (Av rfl) (fun hg => ?_) (fun hg => ?_) ?_
 rotate_left
 ·refine On hg (Ac Da rfl rfl) (On hg (Ae Cf rfl rfl rfl) (On hg (Ac Da rfl rfl) (On hg (Ae Cf rfl rfl rfl) (B0 rfl rfl rfl (by rw [hg]; rfl) rfl rfl rfl rfl (f35 a.text b.text _ hb) ?_))))
  refine Ab ?_;refine ⟨rfl, ?_, ?_⟩
  ·exact sb
  ·exact rfl
 ·refine Of hg (Of hg (Of hg (Of hg (Of hg (Ab ?_)))));exact ⟨rfl, sb⟩
 refine OA rfl (Ab ?_);refine Ak (Bw hw rfl ?_);exact rfl
theorem f223 (l : List Str) (σ : Sto) (hb : l.length < 1000000) : Ah Ew 223 [A9 l] σ fun v σ' => v = A9 l /\ σ' = σ := by
 refine A2 Tryz.func223 rfl rfl fun hw hu0 => ?_
 refine Ad (Aa (OA rfl (Ab (Ad (Ad (Aa (OM rfl ?_)))))));refine X6 D0 rfl rfl fun b hbn => ?_
 refine Ab ?_;refine Ai rfl (fun h1 => ?_) (fun h1 => ?_)
 ·refine Ad (Aa (OA rfl (Ab ?_)));obtain rfl := List.eq_nil_of_length_eq_zero (hbn h1);refine Ak ?_;exact ⟨_, rfl, A9 [], σ, Aw.of_same hw nl (fun _ _ => rfl), nl, C7, rfl, rfl⟩
 ·refine Aj (Ad (Aa ?_))
  obtain ⟨v, τ, happ, hown, hbel, _⟩ := Own.app (enc := fun s : Str => [sV s]) (sz := 1) (l := ([] : List Str)) (by' := 16) (N := nx σ) (fun s => rfl) nl (Own.emp (enc := fun s : Str => [sV s]) (sz := 1)) l (by simp [sizeLim]; omega)
  refine O1 (Br C5 byW rfl rfl rfl) (OM rfl (O1 (B5 C5 rfl D0 rfl rfl rfl (Yh (enc := fun s : Str => [sV s]) (sz := 1) (fun _ => rfl) _ l) happ) ?_))
  refine OA rfl (Ab ?_);refine Ak ?_;exact ⟨_, rfl, A9 l, σ, Aw.below hw hbel, nl, hown.fz (fun _ => rfl) (fun a ha => hw.none ha) (Ce (fun _ => rfl) l), rfl, rfl⟩
theorem f220 (l : List Hp) (σ : Sto) (hb : l.length < 1000000) : Ah Ew 220 [slV eH 3 l] σ fun v σ' => Own σ' (nx σ) eH 3 l v /\ Below (nx σ) σ σ' := by
 refine A2 Tryz.func220 rfl rfl fun hw hu0 => ?_
 refine Ad (Aa (OA rfl (Ab (Ad (Ad (Aa (OM rfl ?_)))))));refine X6 Fs rfl rfl fun b hbn => ?_
 refine Ab ?_;refine Ai rfl (fun h1 => ?_) (fun h1 => ?_)
 ·refine Ad (Aa (OA rfl (Ab ?_)));obtain rfl := List.eq_nil_of_length_eq_zero (hbn h1);refine Ak ?_;exact ⟨_, rfl, _, σ, Aw.of_same hw nl (fun _ _ => rfl), nl, .same rfl, .nil, .rfl'⟩
 ·refine Aj (Ad (Aa ?_))
  obtain ⟨v, τ, happ, hown, hbel, _⟩ := Own.app (enc := eH) (sz := 3) (l := ([] : List Hp)) (by' := 48) (N := nx σ) (fun s => rfl) nl (Own.emp (enc := eH) (sz := 3)) l (by simp [sizeLim]; omega)
  refine O1 (Br H0 byW rfl rfl rfl) (OM rfl (O1 (B5 H0 rfl Fs rfl rfl rfl (Yh (enc := eH) (sz := 3) (fun _ => rfl) _ l) happ) ?_))
  refine OA rfl (Ab ?_);refine Ec fun hw' => Apx (i := 2) rfl fun hu => ?_
  refine Ak ?_;exact ⟨_, rfl, _, _, Aw.of_same hw' nl (fun _ _ => rfl), hbel.1, .same hu, hown, hbel⟩
theorem f265 (l : List Pr) (σ : Sto) (hb : l.length < 1000000) : Ah Ew 265 [slV eP 2 l] σ fun v σ' => Own σ' (nx σ) eP 2 l v /\ Below (nx σ) σ σ' := by
 refine A2 Tryz.func265 rfl rfl fun hw hu0 => ?_
 refine Ad (Aa (OA rfl (Ab (Ad (Ad (Aa (OM rfl ?_)))))));refine X6 Yq rfl rfl fun b hbn => ?_
 refine Ab ?_;refine Ai rfl (fun h1 => ?_) (fun h1 => ?_)
 ·refine Ad (Aa (OA rfl (Ab ?_)));obtain rfl := List.eq_nil_of_length_eq_zero (hbn h1);refine Ak ?_;exact ⟨_, rfl, _, σ, Aw.of_same hw nl (fun _ _ => rfl), nl, .same rfl, .nil, .rfl'⟩
 ·refine Aj (Ad (Aa ?_))
  obtain ⟨v, τ, happ, hown, hbel, _⟩ := Own.app (enc := eP) (sz := 2) (l := ([] : List Pr)) (by' := 32) (N := nx σ) (fun s => rfl) nl (Own.emp (enc := eP) (sz := 2)) l (by simp [sizeLim]; omega)
  refine O1 (Br Uj byW rfl rfl rfl) (OM rfl (O1 (B5 Uj rfl Yq rfl rfl rfl (Yh (enc := eP) (sz := 2) (fun _ => rfl) _ l) happ) ?_))
  refine OA rfl (Ab ?_);refine Ec fun hw' => Apx (i := 2) rfl fun hu => ?_
  refine Ak ?_;exact ⟨_, rfl, _, _, Aw.of_same hw' nl (fun _ _ => rfl), hbel.1, .same hu, hown, hbel⟩
theorem Km {α : Type} {p : α -> Bool} : ∀ (l : List α) (i : Nat), (Bk p l i = -1 /\ ∀ a ∈ l, p a = false) ∨ ∃ n a, Bk p l i = Int.ofNat (i + n) /\ l[n]? = some a /\ p a = true /\ ∀ b ∈ l.take n, p b = false
 | [], i => .inl ⟨rfl, fun a ha => by simp at ha⟩
 | a :: r, i => by
  unfold Bk;cases hp : p a with
  | true => exact .inr ⟨0, a, rfl, rfl, hp, fun b hb => by simp at hb⟩
  | false =>
   rcases Km (p := p) r (i + 1) with ⟨h1, h2⟩ | ⟨n, b, h1, h2, h3, h4⟩
   ·refine .inl ⟨by rw [cond_false]; exact h1, fun b hb => ?_⟩
    rcases List.mem_cons.1 hb with rfl | hb
    ·exact hp
    ·exact h2 b hb
   ·refine .inr ⟨n + 1, b, by rw [cond_false, h1]; congr 1; omega, by simpa using h2, h3, fun c hc => ?_⟩
    rw [List.take_succ_cons] at hc
    rcases List.mem_cons.1 hc with rfl | hc
    ·exact hp
    ·exact h4 c hc
def Ea {α : Type} (p : α -> Bool) (l : List α) : List α := l.filter fun x => !p x
theorem Yx {α : Type} {p : α -> Bool} {l : List α} (h : ∀ a ∈ l, p a = false) : Ea p l = l := List.filter_eq_self.2 fun a ha => by simp [h a ha]
theorem Pf {α : Type} {p : α -> Bool} {l : List α} {a : α} : Ea p (l ++ [a]) = Ea p l ++ (if p a then [] else [a]) := by
 unfold Ea; rw [List.filter_append]; cases h : p a <;> simp [h]
theorem Gx {α : Type} {p : α -> Bool} {l : List α} : (Ea p l).length <= l.length := List.length_filter_le _ _
structure Tq {α : Type} (p : α -> Bool) (l c : List α) (j : Nat) : Prop where
 len : c.length = l.length
 fst : c.take (Ea p (l.take j)).length = Ea p (l.take j)
 snd : c.drop j = l.drop j
theorem Tq.start {α : Type} {p : α -> Bool} {l : List α} {n : Nat} {a : α} (h1 : l[n]? = some a) (h2 : p a = true) (h3 : ∀ b ∈ l.take n, p b = false) : (Ea p (l.take (n + 1))).length = n /\ Tq p l l (n + 1) := by
 have h : Ea p (l.take (n + 1)) = l.take n := by rw [Cx h1, Pf, Yx h3, if_pos h2, List.append_nil]
 have hn := (List.getElem?_eq_some_iff.1 h1).1
 have h4 : (Ea p (l.take (n + 1))).length = n := by rw [h, List.length_take, Nat.min_eq_left (Nat.le_of_lt hn)]
 exact ⟨h4, rfl, by rw [h4, h], rfl⟩
theorem Tq.at {α : Type} {p : α -> Bool} {l c : List α} {j : Nat} (h : Tq p l c j) : c[j]? = l[j]? := by
 have := congrArg (fun k : List α => k[0]?) h.snd
 simpa using this
theorem Tq.out {α : Type} {p : α -> Bool} {l c : List α} {j : Nat} {a : α} (h : Tq p l c j) (ha : l[j]? = some a) (hp : p a = true) : (Ea p (l.take (j + 1))).length = (Ea p (l.take j)).length /\ Tq p l c (j + 1) := by
 have h1 : Ea p (l.take (j + 1)) = Ea p (l.take j) := by rw [Cx ha, Pf, if_pos hp, List.append_nil]
 refine ⟨by rw [h1], h.len, by rw [h1]; exact h.fst, ?_⟩
 have := congrArg (List.drop 1) h.snd
 simpa [List.drop_drop, Nat.add_comm] using this
theorem Tq.keep {α : Type} {p : α -> Bool} {l c : List α} {j : Nat} {a : α} (h : Tq p l c j) (ha : l[j]? = some a) (hp : p a = false) :
  (Ea p (l.take (j + 1))).length = (Ea p (l.take j)).length + 1 /\ (Ea p (l.take j)).length < c.length /\ Tq p l (c.set (Ea p (l.take j)).length a) (j + 1) := by
 have hj := (List.getElem?_eq_some_iff.1 ha).1
 have h1 : Ea p (l.take (j + 1)) = Ea p (l.take j) ++ [a] := by rw [Cx ha, Pf, if_neg (by simp [hp])]
 have hw : (Ea p (l.take j)).length <= j := Nat.le_trans Gx (by rw [List.length_take]; omega)
 have hlt : (Ea p (l.take j)).length < c.length := by rw [h.len]; omega
 refine ⟨by rw [h1, List.length_append]; rfl, hlt, by rw [List.length_set]; exact h.len, ?_, ?_⟩
 ·rw [h1, List.length_append, List.length_singleton, Cx (a := a) (by rw [List.getElem?_set_self hlt]), List.take_set_of_le nl, h.fst]
 ·rw [List.drop_set_of_lt (by omega)]
  have := congrArg (List.drop 1) h.snd
  simpa [List.drop_drop, Nat.add_comm] using this
theorem f97o (p : Hp -> Bool) (l : List Hp) (a : Nat) (tl : List AV) (k : Nat) (cap : List AV) (σ : Sto) (hb : l.length < 1000000) (hg : σ.get a = some (.cells (l.flatMap eH ++ tl))) (hk : ∀ x ∈ l, Ah Ew k ([.agg (eH x)] ++ cap) σ fun v σ' => v = .bool (p x) /\ σ' = σ) : Ah Ew 97 [.sr a 0 3 l.length none, .fn (.func k) [] cap] σ fun v σ' => v = iV (Bk p l 0) /\ σ' = σ := by
 refine A2 Tryz.func97 rfl rfl fun hw hu0 => ?_
 refine Ad (Aa (OA rfl (Ab (Ad (Ad (Aa (OM rfl ?_)))))));refine O1 (Fd Fs rfl rfl rfl) (OM rfl (Ab (Am ?_)));refine Cg l.length (fun i0 => [(0, .sr a 0 3 l.length none), (1, .fn (.func k) [] cap), (7, iV (.ofNat l.length)), (8, iV (.ofNat i0))]) (fun i0 σ0 => σ0 = σ /\ Bk p l 0 = Bk p (l.drop i0) i0) ⟨rfl, rfl, rfl, rfl, trivial⟩ ⟨rfl, rfl⟩ ?_
 rintro i0 σ0 hi0 ⟨rfl, hf0⟩;refine Ad (Aa (O1 (Bb ok3 rfl rfl) (Ab (Ad ?_))));refine Ai rfl (fun h1 => ?_) (fun h1 => ?_)
 ·have hlt0 : i0 < l.length := by simpa using h1
  obtain ⟨a0, ha0⟩ := B3 hlt0;have hd0 := Bn ha0;refine Aj (Ad (Am (Ad (Aa (OM rfl (OA rfl (Ab ?_)))))));refine Ad (Aa (OM rfl (OM rfl (OM rfl (O1 (Hw H0 rfl rfl hlt0) (O1 (Uh (enc := eH) (v := .agg (eH a0)) (fun _ => rfl) Dy rfl hg ha0 (fun _ => rfl)) ?_))))))
  refine Aq rfl rfl rfl rfl (hk a0 (List.mem_of_getElem? ha0)) (Ab ?_);refine Ai rfl (fun h2 => ?_) (fun h2 => ?_)
  ·refine Ad (Aa (OM rfl (OA rfl (Ab ?_))));refine Ak (Bw hw rfl ?_)
   exact (by rw [hf0, hd0]; simp only [Bk, h2, cond_true]; rfl)
  ·refine Aj (Aa (O1 (A1 (q := 1) ok3 rfl rfl (by omega)) ?_))
   refine OM rfl (Ab ?_)
   refine ⟨hlt0, ⟨rfl, rfl, rfl, rfl, trivial⟩, rfl, by rw [hf0, hd0]; simp only [Bk, h2, cond_false]⟩
 ·have hge0 : l.length <= i0 := by simpa using h1
  refine Bf ?_;refine Ad (Aa (OA rfl (Ab ?_)));refine Ak (Bw hw rfl ?_)
  exact (by rw [hf0, List.drop_eq_nil_of_le hge0]; rfl)
theorem f219e (k : Nat) (cap : List AV) (v₀ : AV) (hv : v₀ = .nil (.slice none 0 0) ∨ v₀ = .sv [] 3 0 (some 0)) (σ : Sto) : Ah Ew 219 [v₀, .fn (.func k) [] cap] σ fun v σ' => v = v₀ /\ σ' = σ := by
 refine A2 Tryz.func219 rfl rfl fun hw hu0 => ?_
 refine Ad (Aa (OA rfl (Ab (Ad (Aa (OM rfl (OM rfl ?_)))))))
 refine Aq rfl rfl rfl rfl ((f97 (fun _ => false) [] k cap σ (by simp) (fun a ha => by simp at ha)).wk (.cons (by rcases hv with rfl | rfl <;> first | exact X5 | exact Gq) .refl)) ?_
 refine OA rfl (Ab (Ad (Ad (Aa (OM rfl (O1 (Dq (q := (-1)) ok3 rfl rfl) (Ab ?_)))))));refine Ai rfl (fun h1 => ?_) (fun h1 => ?_)
 ·refine Ad (Aa (OM rfl (OA rfl (Ab ?_))));refine Ak ?_
  exact ⟨_, rfl, _, _, Aw.of_same hw nl (fun _ _ => rfl), nl, .same (by rcases hv with rfl | rfl <;> rfl), rfl, rfl⟩
 ·exact absurd h1 (by simp [Bk])
theorem f219o (p : Hp -> Bool) (l : List Hp) (a N : Nat) (tl : List AV) (k : Nat) (cap : List AV) (σ : Sto) (hb : l.length < 1000000) (hN : N <= a) (hg : σ.get a = some (.cells (l.flatMap eH ++ tl))) (hk : ∀ x ∈ l, ∀ τ, (∀ b, b < N -> τ.get b = σ.get b) -> nx τ = nx σ -> Ah Ew k ([.agg (eH x)] ++ cap) τ fun v σ' => v = .bool (p x) /\ σ' = τ) : Ah Ew 219 [.sr a 0 3 l.length none, .fn (.func k) [] cap] σ fun v σ' => Own σ' N eH 3 (Ea p l) v /\ Below N σ σ' := by
 refine A2 Tryz.func219 rfl rfl fun hw hu0 => ?_
 have hanx := (hw _ _ hg).1;refine Ad (Aa (OA rfl (Ab (Ad (Aa (OM rfl (OM rfl ?_)))))));refine Aq rfl rfl rfl rfl (f97o p l a tl k cap _ hb hg (fun x hx => hk x hx _ (fun _ _ => rfl) rfl)) ?_
 refine OA rfl (Ab (Ad (Ad (Aa (OM rfl (O1 (Dq (q := (-1)) ok3 rfl rfl) (Ab ?_)))))));refine Ai rfl (fun h1 => ?_) (fun h1 => ?_)
 ·refine Ad (Aa (OM rfl (OA rfl (Ab ?_))))
  obtain hs : Ea p l = l := Yx ((Km (p := p) l 0).resolve_right (fun ⟨n, x, hf, _⟩ => by rw [hf] at h1; simp at h1)).2
  refine Ak ?_
  exact ⟨_, rfl, _, _, Aw.of_same hw nl (fun _ _ => rfl), nl, .same (D8 hanx), .inr ⟨a, tl, hN, hanx, by rw [hs]; rfl, by rw [hs]; exact hg⟩, .rfl'⟩
 ·rcases Km (p := p) l 0 with ⟨hf, hno⟩ | ⟨n, x, hf, hx, hpx, hpb⟩
  ·rw [hf] at h1; exact absurd h1 (by simp)
  obtain ⟨hst, hst2⟩ := Tq.start hx hpx hpb;have hn := (List.getElem?_eq_some_iff.1 hx).1;rw [hf, Nat.zero_add]
  refine Aj (Ad (Ad (Aa (OM rfl (O1 (A1 (q := 1) ok3 rfl rfl (by omega)) ?_)))))
  refine OA rfl (Ab (Am ?_));refine E9 (fun q : Nat × Nat => [(0, .sr a 0 3 l.length none), (1, .fn (.func k) [] cap), (5, iV (.ofNat q.2)), (6, iV (.ofNat q.1))])
   (fun q σ0 => q.1 <= l.length /\ q.2 = (Ea p (l.take q.1)).length /\ nx σ0 = nx σ /\ (∀ b, b ≠ a -> σ0.get b = σ.get b) /\ ∃ c, Tq p l c q.1 /\ σ0.get a = some (.cells (c.flatMap eH ++ tl))) (fun q => l.length - q.1) (n + 1, n) ⟨rfl, rfl, rfl, rfl, trivial⟩ ⟨hn, hst.symm, rfl, fun _ _ => rfl, l, hst2, hg⟩ ?_
  rintro ⟨j, w⟩ σ0 ⟨hjl, hw0, hnx, hoth, c, hdi, hc⟩;simp only at hjl hw0 hdi;refine Ad (Ad (Aa (OM rfl (OM rfl (O1 (Fd Fs rfl rfl rfl) (O1 (Bb ok3 rfl rfl) (Ab ?_)))))));refine Ai rfl (fun h2 => ?_) (fun h2 => ?_)
  ·have hlt0 : j < l.length := by simpa using h2
   obtain ⟨b, hb0⟩ := B3 hlt0;have hcb := hdi.at.trans hb0
   have hwl : w <= j := by rw [hw0]; exact Nat.le_trans Gx (by rw [List.length_take]; omega)
   refine Aj (Ad (Am (Ad (Aa (OM rfl (OM rfl (O1 (Hw H0 rfl rfl hlt0) ?_)))))));refine O1 (Uh (enc := eH) (v := .agg (eH b)) (fun _ => rfl) Dy rfl hc hcb (fun _ => rfl)) ?_
   refine B6 Rh Dy rfl (fun _ => rfl) rfl rfl rfl rfl ?_
   refine Ab (Ad (Aa (OM rfl (O1 (Ae Dy rfl rfl rfl) (Aq rfl rfl rfl rfl (hk b (List.mem_of_getElem? hb0) σ0 (fun b' hb' => hoth b' (by omega)) hnx) ?_)))))
   refine O1 (A8 rfl) (Ab ?_);refine Ai rfl (fun h3 => ?_) (fun h3 => ?_)
   ·have h4 : p b = false := by simpa using h3
    obtain ⟨e1, e2, e3⟩ := hdi.keep hb0 h4;rw [← hw0] at e1 e2 e3
    refine Ad (Aa (OM rfl (OM rfl (O1 (Ae Dy rfl rfl rfl) (O1 (Hw H0 rfl rfl (by omega)) ?_)))))
    refine O1 (Acr (enc := eH) (u := b) (fun _ => rfl) Dy rfl rfl rfl hc e2) ?_
    refine Ab (Aa (OM rfl (O1 (A1 (q := 1) ok3 rfl rfl (by omega)) ?_)))
    refine OA rfl (Ab (Aa (OM rfl (O1 (A1 (q := 1) ok3 rfl rfl (by omega)) ?_))))
    refine OA rfl (Ab ?_)
    refine ⟨(j + 1, w + 1), by show l.length - (j + 1) < l.length - j; omega, ⟨rfl, rfl, rfl, rfl, trivial⟩, hlt0, e1.symm, by rw [An]; exact hnx, fun b' hb' => by rw [Sto.get_set, if_neg hb']; exact hoth b' hb', c.set w b, e3, by rw [Sto.get_set, if_pos rfl]⟩
   ·have h4 : p b = true := by simpa using h3
    obtain ⟨e1, e2⟩ := hdi.out hb0 h4;rw [← hw0] at e1
    refine Aj (Aa (OM rfl (O1 (A1 (q := 1) ok3 rfl rfl (by omega)) ?_)))
    refine OA rfl (Ab ?_)
    refine ⟨(j + 1, w), by show l.length - (j + 1) < l.length - j; omega, ⟨rfl, rfl, rfl, rfl, trivial⟩, hlt0, e1.symm, hnx, hoth, c, e2, hc⟩
  ·have hge0 : j = l.length := by
    have h4 : ¬ (j < l.length) := by simpa using h2
    omega
   have hwl : w <= l.length := by rw [hw0]; exact Nat.le_trans Gx (by rw [List.length_take]; omega)
   refine Bf ?_
   refine Ad (Aa (OM rfl (OM rfl (O1 (Aet H0 rfl rfl hwl) (O1 (Aat (enc := eH) (l := c) (b := w) (fun _ => rfl) H0 rfl rfl hc (by rw [hdi.len]; omega)) ?_)))))
   refine Ab (Ad (Aa (OM rfl (OM rfl (O1 (Yg H0 rfl rfl hwl) (OA rfl (Ab ?_)))))))
   have hs : Ea p (l.take j) = Ea p l := by rw [hge0, List.take_length]
   rw [hs] at hw0;have hfst := hdi.fst;rw [hs, ← hw0] at hfst;refine Ec fun hw' => ?_
   refine Ak ?_
   refine ⟨_, rfl, _, _, Aw.of_same hw' nl (fun _ _ => rfl), Nat.le_of_eq (by rw [An, hnx]), .same (D8 (by rw [An, hnx]; exact hanx)), .inr ⟨a, rep [.str [], .bool false, .nil (.slice none 0 0)] (l.length - w) ++ tl, hN, by rw [An, hnx]; exact hanx, by rw [← hw0]; rfl, ?_⟩, ⟨Nat.le_of_eq (by rw [An, hnx]), fun b hb' => by rw [Sto.get_set, if_neg (by omega)]; exact hoth b (by omega)⟩⟩
   rw [Sto.get_set, if_pos rfl, hfst]
theorem f281o (p : Pr -> Bool) (l : List Pr) (a : Nat) (tl : List AV) (k : Nat) (cap : List AV) (σ : Sto) (hb : l.length < 1000000) (hg : σ.get a = some (.cells (l.flatMap eP ++ tl))) (hk : ∀ x ∈ l, Ah Ew k ([.agg (eP x)] ++ cap) σ fun v σ' => v = .bool (p x) /\ σ' = σ) : Ah Ew 281 [.sr a 0 2 l.length none, .fn (.func k) [] cap] σ fun v σ' => v = iV (Bk p l 0) /\ σ' = σ := by
 refine A2 Tryz.func281 rfl rfl fun hw hu0 => ?_
 refine Ad (Aa (OA rfl (Ab (Ad (Ad (Aa (OM rfl ?_)))))));refine O1 (Fd Yq rfl rfl rfl) (OM rfl (Ab (Am ?_)));refine Cg l.length (fun i0 => [(0, .sr a 0 2 l.length none), (1, .fn (.func k) [] cap), (7, iV (.ofNat l.length)), (8, iV (.ofNat i0))]) (fun i0 σ0 => σ0 = σ /\ Bk p l 0 = Bk p (l.drop i0) i0) ⟨rfl, rfl, rfl, rfl, trivial⟩ ⟨rfl, rfl⟩ ?_
 rintro i0 σ0 hi0 ⟨rfl, hf0⟩;refine Ad (Aa (O1 (Bb ok3 rfl rfl) (Ab (Ad ?_))));refine Ai rfl (fun h1 => ?_) (fun h1 => ?_)
 ·have hlt0 : i0 < l.length := by simpa using h1
  obtain ⟨a0, ha0⟩ := B3 hlt0;have hd0 := Bn ha0;refine Aj (Ad (Am (Ad (Aa (OM rfl (OA rfl (Ab ?_)))))));refine Ad (Aa (OM rfl (OM rfl (OM rfl (O1 (Hw Uj rfl rfl hlt0) (O1 (Uh (enc := eP) (v := .agg (eP a0)) (fun _ => rfl) Je rfl hg ha0 (fun _ => rfl)) ?_))))))
  refine Aq rfl rfl rfl rfl (hk a0 (List.mem_of_getElem? ha0)) (Ab ?_);refine Ai rfl (fun h2 => ?_) (fun h2 => ?_)
  ·refine Ad (Aa (OM rfl (OA rfl (Ab ?_))));refine Ak (Bw hw rfl ?_)
   exact (by rw [hf0, hd0]; simp only [Bk, h2, cond_true]; rfl)
  ·refine Aj (Aa (O1 (A1 (q := 1) ok3 rfl rfl (by omega)) ?_))
   refine OM rfl (Ab ?_)
   refine ⟨hlt0, ⟨rfl, rfl, rfl, rfl, trivial⟩, rfl, by rw [hf0, hd0]; simp only [Bk, h2, cond_false]⟩
 ·have hge0 : l.length <= i0 := by simpa using h1
  refine Bf ?_;refine Ad (Aa (OA rfl (Ab ?_)));refine Ak (Bw hw rfl ?_)
  exact (by rw [hf0, List.drop_eq_nil_of_le hge0]; rfl)
theorem f264e (k : Nat) (cap : List AV) (v₀ : AV) (hv : v₀ = .nil (.slice none 0 0) ∨ v₀ = .sv [] 2 0 (some 0)) (σ : Sto) : Ah Ew 264 [v₀, .fn (.func k) [] cap] σ fun v σ' => v = v₀ /\ σ' = σ := by
 refine A2 Tryz.func264 rfl rfl fun hw hu0 => ?_
 refine Ad (Aa (OA rfl (Ab (Ad (Aa (OM rfl (OM rfl ?_)))))))
 refine Aq rfl rfl rfl rfl ((f281 (fun _ => false) [] k cap σ (by simp) (fun a ha => by simp at ha)).wk (.cons (by rcases hv with rfl | rfl <;> first | exact X5 | exact Gq) .refl)) ?_
 refine OA rfl (Ab (Ad (Ad (Aa (OM rfl (O1 (Dq (q := (-1)) ok3 rfl rfl) (Ab ?_)))))));refine Ai rfl (fun h1 => ?_) (fun h1 => ?_)
 ·refine Ad (Aa (OM rfl (OA rfl (Ab ?_))));refine Ak ?_
  exact ⟨_, rfl, _, _, Aw.of_same hw nl (fun _ _ => rfl), nl, .same (by rcases hv with rfl | rfl <;> rfl), rfl, rfl⟩
 ·exact absurd h1 (by simp [Bk])
theorem f264o (p : Pr -> Bool) (l : List Pr) (a N : Nat) (tl : List AV) (k : Nat) (cap : List AV) (σ : Sto) (hb : l.length < 1000000) (hN : N <= a) (hg : σ.get a = some (.cells (l.flatMap eP ++ tl))) (hk : ∀ x ∈ l, ∀ τ, (∀ b, b < N -> τ.get b = σ.get b) -> nx τ = nx σ -> Ah Ew k ([.agg (eP x)] ++ cap) τ fun v σ' => v = .bool (p x) /\ σ' = τ) : Ah Ew 264 [.sr a 0 2 l.length none, .fn (.func k) [] cap] σ fun v σ' => Own σ' N eP 2 (Ea p l) v /\ Below N σ σ' := by
 refine A2 Tryz.func264 rfl rfl fun hw hu0 => ?_
 have hanx := (hw _ _ hg).1;refine Ad (Aa (OA rfl (Ab (Ad (Aa (OM rfl (OM rfl ?_)))))));refine Aq rfl rfl rfl rfl (f281o p l a tl k cap _ hb hg (fun x hx => hk x hx _ (fun _ _ => rfl) rfl)) ?_
 refine OA rfl (Ab (Ad (Ad (Aa (OM rfl (O1 (Dq (q := (-1)) ok3 rfl rfl) (Ab ?_)))))));refine Ai rfl (fun h1 => ?_) (fun h1 => ?_)
 ·refine Ad (Aa (OM rfl (OA rfl (Ab ?_))))
  obtain hs : Ea p l = l := Yx ((Km (p := p) l 0).resolve_right (fun ⟨n, x, hf, _⟩ => by rw [hf] at h1; simp at h1)).2
  refine Ak ?_
  exact ⟨_, rfl, _, _, Aw.of_same hw nl (fun _ _ => rfl), nl, .same (D8 hanx), .inr ⟨a, tl, hN, hanx, by rw [hs]; rfl, by rw [hs]; exact hg⟩, .rfl'⟩
 ·rcases Km (p := p) l 0 with ⟨hf, hno⟩ | ⟨n, x, hf, hx, hpx, hpb⟩
  ·rw [hf] at h1; exact absurd h1 (by simp)
  obtain ⟨hst, hst2⟩ := Tq.start hx hpx hpb;have hn := (List.getElem?_eq_some_iff.1 hx).1;rw [hf, Nat.zero_add]
  refine Aj (Ad (Ad (Aa (OM rfl (O1 (A1 (q := 1) ok3 rfl rfl (by omega)) ?_)))))
  refine OA rfl (Ab (Am ?_));refine E9 (fun q : Nat × Nat => [(0, .sr a 0 2 l.length none), (1, .fn (.func k) [] cap), (5, iV (.ofNat q.2)), (6, iV (.ofNat q.1))])
   (fun q σ0 => q.1 <= l.length /\ q.2 = (Ea p (l.take q.1)).length /\ nx σ0 = nx σ /\ (∀ b, b ≠ a -> σ0.get b = σ.get b) /\ ∃ c, Tq p l c q.1 /\ σ0.get a = some (.cells (c.flatMap eP ++ tl))) (fun q => l.length - q.1) (n + 1, n) ⟨rfl, rfl, rfl, rfl, trivial⟩ ⟨hn, hst.symm, rfl, fun _ _ => rfl, l, hst2, hg⟩ ?_
  rintro ⟨j, w⟩ σ0 ⟨hjl, hw0, hnx, hoth, c, hdi, hc⟩;simp only at hjl hw0 hdi;refine Ad (Ad (Aa (OM rfl (OM rfl (O1 (Fd Yq rfl rfl rfl) (O1 (Bb ok3 rfl rfl) (Ab ?_)))))));refine Ai rfl (fun h2 => ?_) (fun h2 => ?_)
  ·have hlt0 : j < l.length := by simpa using h2
   obtain ⟨b, hb0⟩ := B3 hlt0;have hcb := hdi.at.trans hb0
   have hwl : w <= j := by rw [hw0]; exact Nat.le_trans Gx (by rw [List.length_take]; omega)
   refine Aj (Ad (Am (Ad (Aa (OM rfl (OM rfl (O1 (Hw Uj rfl rfl hlt0) ?_)))))));refine O1 (Uh (enc := eP) (v := .agg (eP b)) (fun _ => rfl) Je rfl hc hcb (fun _ => rfl)) ?_
   refine B6 Ap4 Je rfl (fun _ => rfl) rfl rfl rfl rfl ?_
   refine Ab (Ad (Aa (OM rfl (O1 (Ae Je rfl rfl rfl) (Aq rfl rfl rfl rfl (hk b (List.mem_of_getElem? hb0) σ0 (fun b' hb' => hoth b' (by omega)) hnx) ?_)))))
   refine O1 (A8 rfl) (Ab ?_);refine Ai rfl (fun h3 => ?_) (fun h3 => ?_)
   ·have h4 : p b = false := by simpa using h3
    obtain ⟨e1, e2, e3⟩ := hdi.keep hb0 h4;rw [← hw0] at e1 e2 e3
    refine Ad (Aa (OM rfl (OM rfl (O1 (Ae Je rfl rfl rfl) (O1 (Hw Uj rfl rfl (by omega)) ?_)))))
    refine O1 (Acr (enc := eP) (u := b) (fun _ => rfl) Je rfl rfl rfl hc e2) ?_
    refine Ab (Aa (OM rfl (O1 (A1 (q := 1) ok3 rfl rfl (by omega)) ?_)))
    refine OA rfl (Ab (Aa (OM rfl (O1 (A1 (q := 1) ok3 rfl rfl (by omega)) ?_))))
    refine OA rfl (Ab ?_)
    refine ⟨(j + 1, w + 1), by show l.length - (j + 1) < l.length - j; omega, ⟨rfl, rfl, rfl, rfl, trivial⟩, hlt0, e1.symm, by rw [An]; exact hnx, fun b' hb' => by rw [Sto.get_set, if_neg hb']; exact hoth b' hb', c.set w b, e3, by rw [Sto.get_set, if_pos rfl]⟩
   ·have h4 : p b = true := by simpa using h3
    obtain ⟨e1, e2⟩ := hdi.out hb0 h4;rw [← hw0] at e1
    refine Aj (Aa (OM rfl (O1 (A1 (q := 1) ok3 rfl rfl (by omega)) ?_)))
    refine OA rfl (Ab ?_)
    refine ⟨(j + 1, w), by show l.length - (j + 1) < l.length - j; omega, ⟨rfl, rfl, rfl, rfl, trivial⟩, hlt0, e1.symm, hnx, hoth, c, e2, hc⟩
  ·have hge0 : j = l.length := by
    have h4 : ¬ (j < l.length) := by simpa using h2
    omega
   have hwl : w <= l.length := by rw [hw0]; exact Nat.le_trans Gx (by rw [List.length_take]; omega)
   refine Bf ?_
   refine Ad (Aa (OM rfl (OM rfl (O1 (Aet Uj rfl rfl hwl) (O1 (Aat (enc := eP) (l := c) (b := w) (fun _ => rfl) Uj rfl rfl hc (by rw [hdi.len]; omega)) ?_)))))
   refine Ab (Ad (Aa (OM rfl (OM rfl (O1 (Yg Uj rfl rfl hwl) (OA rfl (Ab ?_)))))))
   have hs : Ea p (l.take j) = Ea p l := by rw [hge0, List.take_length]
   rw [hs] at hw0;have hfst := hdi.fst;rw [hs, ← hw0] at hfst;refine Ec fun hw' => ?_
   refine Ak ?_
   refine ⟨_, rfl, _, _, Aw.of_same hw' nl (fun _ _ => rfl), Nat.le_of_eq (by rw [An, hnx]), .same (D8 (by rw [An, hnx]; exact hanx)), .inr ⟨a, rep [.str [], .str []] (l.length - w) ++ tl, hN, by rw [An, hnx]; exact hanx, by rw [← hw0]; rfl, ?_⟩, ⟨Nat.le_of_eq (by rw [An, hnx]), fun b hb' => by rw [Sto.get_set, if_neg (by omega)]; exact hoth b (by omega)⟩⟩
   rw [Sto.get_set, if_pos rfl, hfst]
theorem f219 (p : Hp -> Bool) (l : List Hp) (N : Nat) (k : Nat) (cap : List AV) (v₀ : AV) (σ : Sto) (h : Own σ N eH 3 l v₀) (hb : l.length < 1000000) (hk : ∀ x ∈ l, ∀ τ, (∀ b, b < N -> τ.get b = σ.get b) -> nx τ = nx σ -> Ah Ew k ([.agg (eH x)] ++ cap) τ fun v σ' => v = .bool (p x) /\ σ' = τ) :
  Ah Ew 219 [v₀, .fn (.func k) [] cap] σ fun v σ' => Own σ' N eH 3 (Ea p l) v /\ Below N σ σ' := by
 rcases h with ⟨rfl, hv⟩ | ⟨a, tl, h1, h2, rfl, h4⟩
 ·exact (f219e k cap v₀ hv σ).mono fun v τ ⟨e1, e2⟩ => by subst e1 e2; exact ⟨.inl ⟨rfl, hv⟩, .rfl'⟩
 ·exact f219o p l a N tl k cap σ hb h1 h4 hk
theorem f264 (p : Pr -> Bool) (l : List Pr) (N : Nat) (k : Nat) (cap : List AV) (v₀ : AV) (σ : Sto) (h : Own σ N eP 2 l v₀) (hb : l.length < 1000000) (hk : ∀ x ∈ l, ∀ τ, (∀ b, b < N -> τ.get b = σ.get b) -> nx τ = nx σ -> Ah Ew k ([.agg (eP x)] ++ cap) τ fun v σ' => v = .bool (p x) /\ σ' = τ) :
  Ah Ew 264 [v₀, .fn (.func k) [] cap] σ fun v σ' => Own σ' N eP 2 (Ea p l) v /\ Below N σ σ' := by
 rcases h with ⟨rfl, hv⟩ | ⟨a, tl, h1, h2, rfl, h4⟩
 ·exact (f264e k cap v₀ hv σ).mono fun v τ ⟨e1, e2⟩ => by subst e1 e2; exact ⟨.inl ⟨rfl, hv⟩, .rfl'⟩
 ·exact f264o p l a N tl k cap σ hb h1 h4 hk
theorem M5 {N : Nat} (h : Hp) : AV.unds N (eH h) = true := by
 show (true && (true && (AV.und N (A9 h.text) && true))) = true
 rw [Jo (fun _ => rfl) h.text]; rfl
theorem Apa {N : Nat} (h : Pr) : AV.unds N (eP h) = true := rfl
theorem Am5 {N : Nat} (l : List Hp) : AV.und N (slV eH 3 l) = true := Jo M5 l
def Ts (h : Hp) : Bool := !h.floating
theorem f221 (h : Hp) (σ : Sto) : Ah Ew 221 [.agg (eH h)] σ fun v σ' => v = .bool h.floating /\ σ' = σ := by
 refine A2 Tryz.func221 rfl rfl fun hw hu0 => ?_
 refine Ad (Aa (Ax Dy rfl rfl rfl (OA rfl (Ab (Ad (Aa (O1 (Ac Io rfl rfl) ?_)))))));refine O1 (Ae ld4 rfl rfl rfl) (OA rfl (Ab ?_));refine Ak (Bw hw rfl ?_);exact rfl
theorem f222 (h : Hp) (σ : Sto) : Ah Ew 222 [.agg (eH h)] σ fun v σ' => v = .bool (Ts h) /\ σ' = σ := by
 refine A2 Tryz.func222 rfl rfl fun hw hu0 => ?_
 refine Ad (Aa (Ax Dy rfl rfl rfl (OA rfl (Ab (Ad (Aa (O1 (Ac Io rfl rfl) ?_)))))));refine O1 (Ae ld4 rfl rfl rfl) (O1 (A8 rfl) (OA rfl (Ab ?_)));refine Ak (Bw hw rfl ?_);exact rfl
theorem f183 (f : Fr) (σ : Sto) (hb : f.hyps.length < 1000000) : Ah Ew 183 [.agg (eF f)] σ fun v σ' => v = slV eH 3 (Ea (fun h => h.floating) f.hyps) /\ σ' = σ := by
 refine A2 Tryz.func183 rfl rfl fun hw hu0 => ?_
 refine Ad (Aa (Ax Oe rfl rfl rfl (OA rfl (Ab (Ad (Aa (O1 (Ac G4 rfl rfl) ?_)))))));refine O1 (Ae Kk rfl rfl rfl) (Cu rfl rfl rfl rfl (f220 f.hyps _ hb) fun v τ ⟨hown, hbel⟩ => ?_)
 refine Cu rfl rfl rfl rfl (f219 (fun h => h.floating) f.hyps (nx σ) 221 [] v τ hown hb (fun x _ τ _ _ => f221 x τ)) fun v2 τ2 ⟨hown2, hbel2⟩ => ?_
 refine OA rfl (Ab ?_);refine Ak ?_;exact ⟨_, rfl, slV eH 3 (Ea (fun h => h.floating) f.hyps), σ, Aw.below hw (hbel.trans hbel2), nl, hown2.fz (fun _ => rfl) (fun a ha => hw.none ha) (Ce M5 _), rfl, rfl⟩
theorem f184 (l : List Hp) (σ : Sto) (hb : l.length < 1000000) : Ah Ew 184 [slV eH 3 l] σ fun v σ' => v = slV eH 3 (Ea Ts l) /\ σ' = σ := by
 refine A2 Tryz.func184 rfl rfl fun hw hu0 => ?_
 refine Ad (Aa (OA rfl (Ab (Ad (Aa (OM rfl (Cu rfl rfl rfl rfl (f220 l _ hb) fun v τ ⟨hown, hbel⟩ => ?_)))))))
 refine Cu rfl rfl rfl rfl (f219 Ts l (nx σ) 222 [] v τ hown hb (fun x _ τ _ _ => f222 x τ)) fun v2 τ2 ⟨hown2, hbel2⟩ => ?_
 refine OA rfl (Ab ?_);refine Ak ?_;exact ⟨_, rfl, slV eH 3 (Ea Ts l), σ, Aw.below hw (hbel.trans hbel2), nl, hown2.fz (fun _ => rfl) (fun a ha => hw.none ha) (Ce M5 _), rfl, rfl⟩
theorem f266 (p : Pr) (r : Nat) (m : SM Bool) (σ : Sto) (hm : E3 σ r m) : Ah Ew 266 [.agg (eP p), .pv [.mp r]] σ fun v σ' => v = .bool (!m.has p.a || !m.has p.b) /\ σ' = σ := by
 refine A2 Tryz.func266 rfl rfl fun hw hu0 => ?_
 refine Ad (Aa (Ax Je rfl rfl rfl (OA rfl (Ab (Ad (Aa (O1 (Ae E4 rfl rfl rfl) ?_)))))));refine O1 (Ac Gw rfl rfl) (O1 (Ae ld9 rfl rfl rfl) (O1 (Dj st9 C1 rfl hm rfl) (O1 (A8 rfl) (OM rfl ?_))));refine Co 5 _ ?_ rfl rfl rfl rfl rfl (Av rfl) (fun hg => ?_) (fun hg => ?_) ?_
 rotate_left
 ·refine On hg (Ae E4 rfl rfl rfl) (On hg (Ac H2 rfl rfl) (On hg (Ae ld9 rfl rfl rfl) (On hg (Dj st9 C1 rfl hm rfl) (On hg (A8 rfl) (Ab ?_)))));refine ⟨rfl, ?_, ?_⟩
  ·exact sb
  ·exact rfl
 ·refine Of hg (Of hg (Of hg (Of hg (Of hg (Ab ?_)))));exact ⟨rfl, sb⟩
 refine OA rfl (Ab ?_);refine Ak (Bw hw rfl ?_);exact rfl
theorem f243 (r : Nat) (m : SM Bool) (l : List Pr) (σ : Sto) (hm : E3 σ r m) (hb : l.length < 1000000) : Ah Ew 243 [.mp r, slV eP 2 l] σ fun v σ' => v = slV eP 2 (Ea (fun p => !m.has p.a || !m.has p.b) l) /\ σ' = σ := by
 refine A2 Tryz.func243 rfl rfl fun hw hu0 => ?_
 refine Ad (Aa (Ax E4 rfl rfl rfl (OA rfl (Ab (Ad (Aa (OM rfl ?_)))))));refine Cu rfl rfl rfl rfl (f265 l _ hb) fun v τ ⟨hown, hbel⟩ => ?_
 refine O1 (E8 rfl rfl) (Cu rfl rfl rfl rfl (f264 (fun p => !m.has p.a || !m.has p.b) l (nx σ) 266 [.pv [.mp r]] v τ hown hb (fun x _ τ3 h3 _ => f266 x r m τ3 (hm.of_get ((h3 r (hm.lt hw)).trans (hbel.2 r (hm.lt hw)))))) fun v2 τ2 ⟨hown2, hbel2⟩ => ?_)
 refine OA rfl (Ab ?_);refine Ak ?_
 exact ⟨_, rfl, slV eP 2 (Ea (fun p => !m.has p.a || !m.has p.b) l), σ, Aw.below hw (hbel.trans hbel2), nl, hown2.fz (fun _ => rfl) (fun a ha => hw.none ha) (Ce Apa _), rfl, rfl⟩
def G6 (l : List Hp) : List (List Str) := (Ea (fun h => h.floating) l).map (·.text)
theorem Aa5 {l : List Hp} {i : Nat} {a : Hp} (ha : l[i]? = some a) : G6 (l.take (i + 1)) = G6 (l.take i) ++ (if a.floating then [] else [a.text]) := by
 unfold G6; rw [Cx ha, Pf, List.map_append]; cases a.floating <;> rfl
theorem Ai7 {l : List Hp} : (G6 l).length <= l.length := by unfold G6; rw [List.length_map]; exact Gx
abbrev eL (t : List Str) : List AV := [A9 t]
theorem Aq6 : ∀ t, (eL t).length = 1 := fun _ => rfl
theorem Oh : ∀ t, (eH t).length = 3 := fun _ => rfl
theorem Apb {N : Nat} (t : List Str) : AV.unds N (eL t) = true := by show (AV.und N (A9 t) && true) = true; rw [Jo (fun _ => rfl)]; rfl
theorem f240 (l : List Hp) (t : List Str) (σ : Sto) (hb : l.length < 1000000) : Ah Ew 240 [slV eH 3 l, A9 t] σ fun v σ' => v = slV eL 1 (t :: G6 l) /\ σ' = σ := by
 refine A2 Tryz.func240 rfl rfl fun hw hu0 => ?_
 refine Ad (Aa (OA rfl (Ab (Ad (Aa (OM rfl (O1 (Br Aiv byW rfl rfl rfl) ?_)))))));refine OA rfl (Ab (Ad (Ad (Aa (OM rfl (O1 (As Fs rfl) (OM rfl ?_)))))));refine Ab (Am ?_);refine E9 (fun q : Nat × AV => [(5, q.2), (10, slV eH 3 l), (11, iV (.ofNat l.length)), (12, iV (.ofNat q.1))]) (fun q σ0 => q.1 <= l.length /\ Agu σ0 (nx σ) eL 1 (t :: G6 (l.take q.1)) q.2 /\ Below (nx σ) σ σ0) (fun q => l.length - q.1) (0, .sv [A9 t] 1 1 (some 1)) ⟨rfl, rfl, rfl, rfl, trivial⟩ ⟨Nat.zero_le _, .inl rfl, .rfl'⟩ ?_
 rintro ⟨i0, v0⟩ σ0 hP0;obtain ⟨hi0, hown0, hbel0⟩ : i0 <= l.length /\ Agu σ0 (nx σ) eL 1 (t :: G6 (l.take i0)) v0 /\ Below (nx σ) σ σ0 := hP0;refine Ad (Aa (O1 (Bb ok3 rfl rfl) (Ab (Ad ?_))));refine Ai rfl (fun h1 => ?_) (fun h1 => ?_)
 ·have hlt0 : i0 < l.length := by simpa using h1
  obtain ⟨a0, ha0⟩ := B3 hlt0;have hd0 := Bn ha0;refine Aj (Ad (Am (Ad (Aa (O1 (A3 H0 (fun _ => rfl) rfl rfl ha0) ?_)))))
  refine O1 (Ae Dy rfl rfl rfl) (B6 Rh Dy rfl (fun _ => rfl) rfl rfl rfl rfl ?_)
  refine Ab (Ad (Aa (O1 (Ac Io rfl rfl) (O1 (Ae ld4 rfl rfl rfl) (O1 (A8 rfl) (Ab ?_))))));refine Ai rfl (fun h2 => ?_) (fun h2 => ?_)
  ·have h4 : a0.floating = false := by simpa using h2
   have hlim : ((t :: G6 (l.take i0)).length + [a0.text].length) * (24 + 1) <= sizeLim := by have := Ai7 (l := l.take i0); rw [List.length_take] at this; simp [sizeLim]; omega
   obtain ⟨v, τ, happ, hown1, hbel1, _⟩ := hown0.app (by' := 24) Aq6 hbel0.1 [a0.text] hlim
   refine Aa (OM rfl (O1 (Ac Da rfl rfl) (O1 (Ae Cf rfl rfl rfl) (E2 (Br Aiv byW rfl rfl rfl) (Gq (len := 1)) rfl rfl (O1 (B5 Aiv rfl Ap2 rfl rfl rfl (new := eL a0.text) rfl happ) (OA rfl (Ab ?_)))))))
   refine Aa (O1 (A1 (q := 1) ok3 rfl rfl (by omega)) ?_)
   refine OM rfl (Ab ?_)
   refine ⟨(i0 + 1, v), by show l.length - (i0 + 1) < l.length - i0; omega, ⟨rfl, rfl, rfl, rfl, trivial⟩, hlt0, by rw [Aa5 ha0, if_neg (by rw [h4]; simp)]; exact hown1, hbel0.trans hbel1⟩
  ·have h4 : a0.floating = true := by simpa using h2
   refine Aj (Aa (O1 (A1 (q := 1) ok3 rfl rfl (by omega)) ?_))
   refine OM rfl (Ab ?_)
   refine ⟨(i0 + 1, v0), by show l.length - (i0 + 1) < l.length - i0; omega, ⟨rfl, rfl, rfl, rfl, trivial⟩, hlt0, by rw [Aa5 ha0, if_pos h4, List.append_nil]; exact hown0, hbel0⟩
 ·have hge0 : l.length <= i0 := by simpa using h1
  refine Bf ?_;refine Ad (Aa (OM rfl (OA rfl (Ab ?_))));rw [List.take_of_length_le hge0] at hown0;refine Ak ?_;exact ⟨_, rfl, slV eL 1 (t :: G6 l), σ, Aw.below hw hbel0, nl, hown0.fz (fun _ => rfl) (fun a ha => hw.none ha) (Ce Apb _), rfl, rfl⟩
theorem in3 : Agv Ew.P 3 = true := by kernel_rfl
theorem f186 (h : Hp) (σ : Sto) (hb : h.text.length < 1000000) : Ah Ew 186 [.agg (eH h)] σ fun v σ' => v = .agg (eH h) /\ σ' = σ := by
 refine A2 Tryz.func186 rfl rfl fun hw hu0 => ?_
 refine Ad (Aa (O1 (Aqq Dy rfl rfl) (O1 (Dt Rh) (Ab (Ad (Aa (O1 (Ac Da rfl rfl) ?_)))))))
 refine O1 (Ae (cs := (eH h).drop 2) Cf rfl (by simp only [B2, Aeu Apy]) rfl) ?_
 refine Aq rfl rfl rfl rfl (f223 h.text _ hb) (O1 (Ac Da rfl rfl) (O1 (A6 (vs := eH h) (vs' := eH h) Cf rfl rfl rfl (Aeu Apy) rfl) (Ab (Ad (Aa (O1 (Ae (cs := eH h) Dy rfl (by simp only [B2, Sto.cells, Sto.get_set, if_true]; rfl) rfl) ?_))))))
 refine O1 (A6 (vs := [.str [], .bool false, .nil (.slice none 0 0)]) (vs' := eH h) Dy rfl rfl rfl (by unfold Sto.cells; rw [Sto.get_set, if_neg (by rw [Ap]; omega), get2b]) rfl) ?_
 refine Ab ?_;refine Ak ?_
 exact ⟨_, Cc (vs := eH h) (v := .agg (eH h)) Dy rfl (by unfold Sto.cells; rw [Sto.get_set, if_pos rfl]) rfl rfl, .agg (eH h), σ, Aw.below hw ((((Below.rfl'.new nl _).new nl _).set nl _).set (by rw [Ap]; omega) _), nl, .same (M5 h), rfl, rfl⟩
theorem f237 (n : Nat) (σ : Sto) (hn : n < 1000000) : Ah Ew 237 [.nil (.slice none 0 0), iV (.ofNat n)] σ fun v σ' => Own σ' (nx σ) eH 3 [] v /\ Below (nx σ) σ σ' := by
 refine A2 Tryz.func237 rfl rfl fun hw hu0 => ?_
 refine Ad (Aa (OA rfl (Ab (Ad (Ad (Aa (OM rfl ?_)))))));refine O1 (Bb (q := 0) ok3 rfl rfl) (Ab ?_);refine Ai rfl (fun h1 => ?_) (fun h1 => ?_)
 ·exact absurd h1 (by simp)
 ·refine Aj (Ad (Ad (Aa (OM rfl (OM rfl (O1 (Aip Fs rfl) (OM rfl ?_)))))))
  refine O1 (Fd Fs rfl rfl rfl) (O1 (Aco (p := 0) (q := 0) ok3 rfl rfl (by omega) (by omega)) ?_)
  refine O1 (Aco (p := n) (q := 0) ok3 rfl rfl (by omega) (by omega)) ?_
  refine OA rfl (Ab (Ad (Aa (OM rfl (O1 (Cm (q := 0) ok3 rfl rfl) (Ab ?_))))));refine Ai rfl (fun h2 => ?_) (fun h2 => ?_)
  ·obtain ⟨n, rfl⟩ : ∃ k, n = k + 1 := ⟨n - 1, (by simp at h2; omega)⟩
   refine Aa (OM rfl (OM rfl (O1 (Aip Fs rfl) (O1 (Ao3 H0 rfl rfl) (OM rfl (O1 (Amc (n := n) H0 rfl in3 rfl rfl (by simp [sizeLim]; omega)) ?_))))))
   refine OM rfl (O1 (Fd Fs rfl rfl rfl) (O1 (Yg (b := 0) H0 rfl rfl (by omega)) ?_))
   refine OA rfl (Ab (Ad (Aa (OM rfl (OA rfl (Ab ?_))))));refine Ec fun hw' => ?_
   refine Ak ?_
   exact ⟨_, rfl, _, _, Aw.of_same hw' nl (fun _ _ => rfl), by rw [Ap]; omega, .same (D8 (by rw [Ap]; omega)), .inr ⟨nx σ, rep [.str [], .bool false, .nil (.slice none 0 0)] (n + 1), nl, by rw [Ap]; omega, rfl, by rw [Sto.get_new, if_pos rfl]; rfl⟩, Below.rfl'.new nl _⟩
  ·refine Aj (Ad (Aa (OM rfl (OA rfl (Ab ?_)))));refine Ak ?_;exact ⟨_, rfl, _, _, Aw.of_same hw nl (fun _ _ => rfl), nl, .same rfl, .nil, .rfl'⟩
abbrev eLH (l : List Hp) : List AV := [slV eH 3 l]
theorem Pg {α : Type} {ls : List (List α)} {i : Nat} {a : List α} (ha : ls[i]? = some a) : (ls.take (i + 1)).flatten = (ls.take i).flatten ++ a := by rw [Cx ha, List.flatten_append]; simp
theorem Tt {α : Type} (ls : List (List α)) (i : Nat) : ((ls.take i).flatten).length <= ls.flatten.length := by
 have h : ls.flatten = (ls.take i).flatten ++ (ls.drop i).flatten := by rw [← List.flatten_append, List.take_append_drop]
 rw [h, List.length_append]; omega
def Gy : List Hp -> List Hp -> Nat
 | a :: r, b :: s => if a.label = b.label then Gy r s + 1 else 0
 | _, _ => 0
def Ld (a b : List Hp) (n : Nat) : Bool := match a[n]?, b[n]? with
 | some x, some y => decide (x.label = y.label)
 | _, _ => false
theorem Rn {a b : List Hp} {n : Nat} {x y : Hp} (hx : a[n]? = some x) (hy : b[n]? = some y) : Ld a b n = decide (x.label = y.label) := by simp only [Ld, hx, hy]
theorem M6 {a b : List Hp} {n : Nat} (h : a.length <= n ∨ b.length <= n) : Ld a b n = false := by
 unfold Ld
 rcases h with h | h
 ·rw [List.getElem?_eq_none h]
 ·rw [List.getElem?_eq_none h]; cases a[n]? <;> rfl
theorem Yy {a b : List Hp} {n : Nat} (h : Ld a b n = true) : n < a.length /\ n < b.length := by
 refine ⟨Nat.lt_of_not_le fun hh => ?_, Nat.lt_of_not_le fun hh => ?_⟩
 ·rw [M6 (.inl hh)] at h; cases h
 ·rw [M6 (.inr hh)] at h; cases h
theorem Adb {a b : List Hp} {n : Nat} (h : Ld a b n = true) : Gy (a.drop n) (b.drop n) = Gy (a.drop (n + 1)) (b.drop (n + 1)) + 1 := by
 obtain ⟨h1, h2⟩ := Yy h;obtain ⟨x, hx⟩ := B3 h1;obtain ⟨y, hy⟩ := B3 h2;rw [Rn hx hy] at h;rw [Bn hx, Bn hy, Gy, if_pos (of_decide_eq_true h)]
theorem Adc {a b : List Hp} {n : Nat} (h : Ld a b n = false) : Gy (a.drop n) (b.drop n) = 0 := by
 by_cases h1 : n < a.length
 ·by_cases h2 : n < b.length
  ·obtain ⟨x, hx⟩ := B3 h1;obtain ⟨y, hy⟩ := B3 h2;rw [Rn hx hy] at h;rw [Bn hx, Bn hy, Gy, if_neg (of_decide_eq_false h)]
  ·rw [List.drop_eq_nil_of_le (show b.length <= n by omega)]; cases a.drop n <;> rfl
 ·rw [List.drop_eq_nil_of_le (show a.length <= n by omega)]; rfl
theorem Yz : ∀ (a b : List Hp), Gy a b <= b.length
 | a :: r, b :: s => by unfold Gy; split <;> simp [Yz r s]
 | [], _ => Nat.zero_le _
 | _ :: _, [] => Nat.zero_le _
theorem f210 (ls : List (List Hp)) (σ : Sto) (hb : ls.length < 1000) (hb2 : ls.flatten.length < 1000000) : Ah Ew 210 [slV eLH 1 ls] σ fun v σ' => v = slV eH 3 ls.flatten /\ σ' = σ := by
 refine A2 Tryz.func210 rfl rfl fun hw hu0 => ?_
 refine Ad (Aa (OA rfl (Ab (Ad (Aa (OA rfl (Ab ?_)))))));refine Ad (Ad (Aa (OM rfl (O1 (As Ap5 rfl) (OM rfl (Ab (Am ?_)))))));refine E9 (fun q : Nat × AV => [(0, slV eLH 1 ls), (3, q.2), (9, slV eLH 1 ls), (10, iV (.ofNat ls.length)), (11, iV (.ofNat q.1))]) (fun q σ0 => q.1 <= ls.length /\ σ0 = σ /\ ∃ s, q.2 = iV (.ofNat s) /\ s = ((ls.take q.1).flatten).length) (fun q => ls.length - q.1) (0, iV (.ofNat 0)) ⟨rfl, rfl, rfl, rfl, rfl, trivial⟩ ⟨Nat.zero_le _, rfl, 0, rfl, rfl⟩ ?_
 rintro ⟨i0, v0⟩ σ0 hP0;obtain ⟨hi0, rfl, s, hvs, hs⟩ : i0 <= ls.length /\ σ0 = σ /\ ∃ s, v0 = iV (.ofNat s) /\ s = ((ls.take i0).flatten).length := hP0;refine Ad (Aa (O1 (Bb ok3 rfl rfl) (Ab (Ad ?_))));refine Ai rfl (fun h1 => ?_) (fun h1 => ?_)
 ·have hlt0 : i0 < ls.length := by simpa using h1
  obtain ⟨a0, ha0⟩ := B3 hlt0;have hd0 := Bn ha0;subst hvs
  have hfl : ((ls.take i0).flatten).length + a0.length <= ls.flatten.length := by have := Tt ls (i0 + 1); rwa [Pg ha0, List.length_append] at this
  refine Aj (Ad (Am (Ad (Aa (O1 (A3 Ai2 (fun _ => rfl) rfl rfl ha0) ?_)))))
  refine O1 (Ae Kk rfl rfl rfl) (OA rfl (Ab (Ad (Aa (OM rfl (OM rfl (O1 (As Fs rfl) ?_)))))))
  refine O1 (A1 (p := s) (q := a0.length) ok3 rfl rfl (by omega)) ?_
  refine OA rfl (Ab (Ad (Aa (OM rfl (O1 (Bb (q := 0) ok3 rfl rfl) (Ab ?_))))));refine Ai rfl (fun h2 => ?_) (fun h2 => ?_)
  ·exact absurd h2 (by simp; omega)
  ·refine Aj (Aa (O1 (A1 (q := 1) ok3 rfl rfl (by omega)) ?_))
   refine OM rfl (Ab ?_)
   refine ⟨(i0 + 1, iV (.ofNat (s + a0.length))), by show ls.length - (i0 + 1) < ls.length - i0; omega, ⟨rfl, rfl, rfl, rfl, rfl, trivial⟩, hlt0, rfl, _, rfl, by rw [Pg ha0, List.length_append, hs]⟩
 ·have hge0 : ls.length <= i0 := by simpa using h1
  subst hvs;rw [List.take_of_length_le hge0] at hs;subst hs;refine Bf ?_;refine Ad (Aa (OM rfl (Cu rfl rfl rfl rfl (f237 ls.flatten.length _ hb2) fun v τ ⟨hown, hbel⟩ => ?_)))
  refine OA rfl (Ab (Ad (Ad (Aa (OM rfl (O1 (As Ap5 rfl) (OM rfl ?_)))))));refine Ab (Am ?_);refine E9 (fun q : Nat × AV => [(6, q.2), (25, slV eLH 1 ls), (26, iV (.ofNat ls.length)), (27, iV (.ofNat q.1))]) (fun q σ2 => q.1 <= ls.length /\ Own σ2 (nx σ0) eH 3 ((ls.take q.1).flatten) q.2 /\ Below (nx σ0) σ0 σ2) (fun q => ls.length - q.1) (0, v) ⟨rfl, rfl, rfl, rfl, trivial⟩ ⟨Nat.zero_le _, hown, hbel⟩ ?_
  rintro ⟨i2, v2⟩ σ2 hP2;obtain ⟨hi2, hown2, hbel2⟩ : i2 <= ls.length /\ Own σ2 (nx σ0) eH 3 ((ls.take i2).flatten) v2 /\ Below (nx σ0) σ0 σ2 := hP2;refine Ad (Aa (O1 (Bb ok3 rfl rfl) (Ab (Ad ?_))));refine Ai rfl (fun h2 => ?_) (fun h2 => ?_)
  ·have hlt2 : i2 < ls.length := by simpa using h2
   obtain ⟨a2, ha2⟩ := B3 hlt2;have hd2 := Bn ha2
   have hlim : (((ls.take i2).flatten).length + a2.length) * (48 + 1) <= sizeLim := by have := Tt ls (i2 + 1); rw [Pg ha2, List.length_append] at this; simp only [sizeLim]; omega
   obtain ⟨v, τ3, happ, hown3, hbel3, _⟩ := hown2.app (by' := 48) Oh hbel2.1 a2 hlim
   refine Aj (Ad (Am (Ad (Aa (O1 (A3 Ai2 (fun _ => rfl) rfl rfl ha2) ?_)))))
   refine O1 (Ae Kk rfl rfl rfl) (OA rfl (Ab (Aa (OM rfl (OM rfl (O1 (B5 H0 rfl Fs rfl rfl rfl (Yh Oh _ a2) happ) (OA rfl ?_)))))))
   refine Ab (Aa (O1 (A1 (q := 1) ok3 rfl rfl (by omega)) ?_))
   refine OM rfl (Ab ?_)
   refine ⟨(i2 + 1, v), by show ls.length - (i2 + 1) < ls.length - i2; omega, ⟨rfl, rfl, rfl, rfl, trivial⟩, hlt2, by rw [Pg ha2]; exact hown3, hbel2.trans hbel3⟩
  ·have hge2 : ls.length <= i2 := by simpa using h2
   refine Bf ?_;refine Ad (Aa (OM rfl (OA rfl (Ab ?_))));rw [List.take_of_length_le hge2] at hown2;refine Ak ?_;exact ⟨_, rfl, slV eH 3 ls.flatten, σ0, Aw.below hw hbel2, nl, hown2.fz Oh (fun a ha => hw.none ha) (Ce M5 _), rfl, rfl⟩
theorem f216 (a b : List Hp) (σ : Sto) (hb : a.length < 1000000) : Ah Ew 216 [slV eH 3 a, slV eH 3 b] σ fun v σ' => v = iV (.ofNat (Gy a b)) /\ σ' = σ := by
 refine A2 Tryz.func216 rfl rfl fun hw hu0 => ?_
 refine Ad (Aa (OA rfl (Ab (Ad (Aa (OA rfl (Ab ?_)))))));refine Ad (Am ?_);refine Cg a.length (fun i0 => [(0, slV eH 3 a), (1, slV eH 3 b), (5, iV (.ofNat i0))]) (fun i0 σ0 => σ0 = σ /\ Gy a b = i0 + Gy (a.drop i0) (b.drop i0)) ⟨rfl, rfl, rfl, trivial⟩ ⟨rfl, (Nat.zero_add _).symm⟩ ?_
 rintro i0 σ0 hi0 ⟨rfl, hf0⟩;refine Ad ?_;refine Hg [(28, .bool (Ld a b i0))] ?_ ?_
 ·rcases Bool.eq_false_or_eq_true (decide (Int.ofNat i0 < Int.ofNat a.length)) with hg4 | hg4
  ·rcases Bool.eq_false_or_eq_true (decide (Int.ofNat i0 < Int.ofNat b.length)) with hg10 | hg10
   ·obtain ⟨x, hx⟩ := B3 (show i0 < a.length by simpa using hg4)
    obtain ⟨y, hy⟩ := B3 (show i0 < b.length by simpa using hg10)
    refine Ht (anns := [aP 0 0, aP 0 0, aR 0 0, aP 0 0, aP 0 0, aP 0 0, aP 0 0, aR 0 0, aP 0 0, aP 0 0, aP 0 0, aP 0 0, aP 0 0, aP 0 0, aP 0 0, aR 0 0, aP 0 0, aP 0 0, aP 0 0, aP 0 0, aR 0 0, aP 0 0, aP 0 0]) A5 (by kernel_rfl) (by kernel_rfl) ?_
    refine DF (Ag rfl) (DF (Ag rfl) (DF (As Fs rfl) (DF (Bb ok3 rfl rfl) (DF (Ag rfl) ?_))))
    refine Dn rfl rfl rfl rfl (by first | rfl | simp only [hg10, hg4] <;> rfl | simp [hg10, hg4]) (Ag rfl) ?_
    refine Dn rfl rfl rfl rfl (by first | rfl | simp only [hg10, hg4] <;> rfl | simp [hg10, hg4]) (Ag rfl) ?_
    refine Dn rfl rfl rfl rfl (by first | rfl | simp only [hg10, hg4] <;> rfl | simp [hg10, hg4]) (As Fs rfl) ?_
    refine Dn rfl rfl rfl rfl (by first | rfl | simp only [hg10, hg4] <;> rfl | simp [hg10, hg4]) (Bb ok3 rfl rfl) ?_
    refine DF (Bx rfl (by first | rfl | simp only [hg10, hg4] <;> rfl | simp [hg10, hg4]) rfl) ?_
    refine DF (Ag rfl) ?_
    refine Dn rfl rfl rfl rfl (by first | rfl | simp only [hg10, hg4] <;> rfl | simp [hg10, hg4]) (Ag rfl) ?_
    refine Dn rfl rfl rfl rfl (by first | rfl | simp only [hg10, hg4] <;> rfl | simp [hg10, hg4]) (Ag rfl) ?_
    refine Dn rfl rfl rfl rfl (by first | rfl | simp only [hg10, hg4] <;> rfl | simp [hg10, hg4]) (A3 H0 (fun _ => rfl) rfl rfl hx) ?_
    refine Dn rfl rfl rfl rfl (by first | rfl | simp only [hg10, hg4] <;> rfl | simp [hg10, hg4]) (Ac Fk rfl rfl) ?_
    refine Dn rfl rfl rfl rfl (by first | rfl | simp only [hg10, hg4] <;> rfl | simp [hg10, hg4]) (Ae ld9 rfl rfl rfl) ?_
    refine Dn rfl rfl rfl rfl (by first | rfl | simp only [hg10, hg4] <;> rfl | simp [hg10, hg4]) (Ag rfl) ?_
    refine Dn rfl rfl rfl rfl (by first | rfl | simp only [hg10, hg4] <;> rfl | simp [hg10, hg4]) (Ag rfl) ?_
    refine Dn rfl rfl rfl rfl (by first | rfl | simp only [hg10, hg4] <;> rfl | simp [hg10, hg4]) (A3 H0 (fun _ => rfl) rfl rfl hy) ?_
    refine Dn rfl rfl rfl rfl (by first | rfl | simp only [hg10, hg4] <;> rfl | simp [hg10, hg4]) (Ac Fk rfl rfl) ?_
    refine Dn rfl rfl rfl rfl (by first | rfl | simp only [hg10, hg4] <;> rfl | simp [hg10, hg4]) (Ae ld9 rfl rfl rfl) ?_
    refine Dn rfl rfl rfl rfl (by first | rfl | simp only [hg10, hg4] <;> rfl | simp [hg10, hg4]) (Hr ok9 rfl rfl) ?_
    refine DF (Bx rfl (by first | rfl | simp only [hg10, hg4] <;> rfl | simp [hg10, hg4]) rfl) ?_
    refine Bl ?_;exact ⟨rfl, rfl, ⟨⟨congrArg (fun b => some (AV.bool b)) (Rn hx hy).symm, trivial⟩, sb, rfl⟩⟩
   ·refine Ht (anns := [aP 0 0, aP 0 0, aR 0 0, aP 0 0, aP 0 0, aP 0 0, aP 0 0, aR 0 0, aP 0 0, aP 0 0, aP 0 0, aP 0 0, aP 0 0, aP 0 0, aP 0 0, aR 0 0, aP 0 0, aP 0 0, aP 0 0, aP 0 0, aR 0 0, aP 0 0, aP 0 0]) A5 (by kernel_rfl) (by kernel_rfl) ?_
    refine DF (Ag rfl) (DF (Ag rfl) (DF (As Fs rfl) (DF (Bb ok3 rfl rfl) (DF (Ag rfl) ?_))))
    refine Dn rfl rfl rfl rfl (by first | rfl | simp only [hg10, hg4] <;> rfl | simp [hg10, hg4]) (Ag rfl) ?_
    refine Dn rfl rfl rfl rfl (by first | rfl | simp only [hg10, hg4] <;> rfl | simp [hg10, hg4]) (Ag rfl) ?_
    refine Dn rfl rfl rfl rfl (by first | rfl | simp only [hg10, hg4] <;> rfl | simp [hg10, hg4]) (As Fs rfl) ?_
    refine Dn rfl rfl rfl rfl (by first | rfl | simp only [hg10, hg4] <;> rfl | simp [hg10, hg4]) (Bb ok3 rfl rfl) ?_
    refine DF (Bx rfl (by first | rfl | simp only [hg10, hg4] <;> rfl | simp [hg10, hg4]) rfl) ?_
    refine DF (Ag rfl) ?_
    refine Dx rfl rfl rfl rfl (by first | rfl | simp only [hg10, hg4] <;> rfl | simp [hg10, hg4]) ?_
    refine Dx rfl rfl rfl rfl (by first | rfl | simp only [hg10, hg4] <;> rfl | simp [hg10, hg4]) ?_
    refine Dx rfl rfl rfl rfl (by first | rfl | simp only [hg10, hg4] <;> rfl | simp [hg10, hg4]) ?_
    refine Dx rfl rfl rfl rfl (by first | rfl | simp only [hg10, hg4] <;> rfl | simp [hg10, hg4]) ?_
    refine Dx rfl rfl rfl rfl (by first | rfl | simp only [hg10, hg4] <;> rfl | simp [hg10, hg4]) ?_
    refine Dx rfl rfl rfl rfl (by first | rfl | simp only [hg10, hg4] <;> rfl | simp [hg10, hg4]) ?_
    refine Dx rfl rfl rfl rfl (by first | rfl | simp only [hg10, hg4] <;> rfl | simp [hg10, hg4]) ?_
    refine Dx rfl rfl rfl rfl (by first | rfl | simp only [hg10, hg4] <;> rfl | simp [hg10, hg4]) ?_
    refine Dx rfl rfl rfl rfl (by first | rfl | simp only [hg10, hg4] <;> rfl | simp [hg10, hg4]) ?_
    refine Dx rfl rfl rfl rfl (by first | rfl | simp only [hg10, hg4] <;> rfl | simp [hg10, hg4]) ?_
    refine Dx rfl rfl rfl rfl (by first | rfl | simp only [hg10, hg4] <;> rfl | simp [hg10, hg4]) ?_
    refine DF (Bt rfl (by first | rfl | simp only [hg10, hg4] <;> rfl | simp [hg10, hg4]) rfl) ?_
    refine Bl ?_
    exact ⟨rfl, rfl, ⟨⟨congrArg (fun b => some (AV.bool b)) (M6 (.inr (by simpa using hg10))).symm, trivial⟩, sb, rfl⟩⟩
  ·refine Ht (anns := [aP 0 0, aP 0 0, aR 0 0, aP 0 0, aP 0 0, aP 0 0, aP 0 0, aR 0 0, aP 0 0, aP 0 0, aP 0 0, aP 0 0, aP 0 0, aP 0 0, aP 0 0, aR 0 0, aP 0 0, aP 0 0, aP 0 0, aP 0 0, aR 0 0, aP 0 0, aP 0 0]) A5 (by kernel_rfl) (by kernel_rfl) ?_
   refine DF (Ag rfl) (DF (Ag rfl) (DF (As Fs rfl) (DF (Bb ok3 rfl rfl) (DF (Ag rfl) ?_))))
   refine Dx rfl rfl rfl rfl (by first | rfl | simp only [hg4] <;> rfl | simp [hg4]) ?_
   refine Dx rfl rfl rfl rfl (by first | rfl | simp only [hg4] <;> rfl | simp [hg4]) ?_
   refine Dx rfl rfl rfl rfl (by first | rfl | simp only [hg4] <;> rfl | simp [hg4]) ?_
   refine Dx rfl rfl rfl rfl (by first | rfl | simp only [hg4] <;> rfl | simp [hg4]) ?_
   refine DF (Bt rfl (by first | rfl | simp only [hg4] <;> rfl | simp [hg4]) rfl) ?_
   refine DF (Ag rfl) ?_
   refine Dx rfl rfl rfl rfl (by first | rfl | simp only [hg4] <;> rfl | simp [hg4]) ?_
   refine Dx rfl rfl rfl rfl (by first | rfl | simp only [hg4] <;> rfl | simp [hg4]) ?_
   refine Dx rfl rfl rfl rfl (by first | rfl | simp only [hg4] <;> rfl | simp [hg4]) ?_
   refine Dx rfl rfl rfl rfl (by first | rfl | simp only [hg4] <;> rfl | simp [hg4]) ?_
   refine Dx rfl rfl rfl rfl (by first | rfl | simp only [hg4] <;> rfl | simp [hg4]) ?_
   refine Dx rfl rfl rfl rfl (by first | rfl | simp only [hg4] <;> rfl | simp [hg4]) ?_
   refine Dx rfl rfl rfl rfl (by first | rfl | simp only [hg4] <;> rfl | simp [hg4]) ?_
   refine Dx rfl rfl rfl rfl (by first | rfl | simp only [hg4] <;> rfl | simp [hg4]) ?_
   refine Dx rfl rfl rfl rfl (by first | rfl | simp only [hg4] <;> rfl | simp [hg4]) ?_
   refine Dx rfl rfl rfl rfl (by first | rfl | simp only [hg4] <;> rfl | simp [hg4]) ?_
   refine Dx rfl rfl rfl rfl (by first | rfl | simp only [hg4] <;> rfl | simp [hg4]) ?_
   refine DF (Bt rfl (by first | rfl | simp only [hg4] <;> rfl | simp [hg4]) rfl) ?_
   refine Bl ?_
   exact ⟨rfl, rfl, ⟨⟨congrArg (fun b => some (AV.bool b)) (M6 (.inl (by simpa using hg4))).symm, trivial⟩, sb, rfl⟩⟩
 refine Ai rfl (fun h1 => ?_) (fun h1 => ?_)
 ·have hlt0 : i0 < a.length := (Yy h1).1
  refine Aj (Am (Aa (OM rfl (O1 (A1 (q := 1) ok3 rfl rfl (by omega)) ?_))))
  refine OA rfl (Ab ?_)
  refine ⟨hlt0, ⟨rfl, rfl, rfl, trivial⟩, rfl, by rw [hf0, Adb h1]; omega⟩
 ·have hs0 := Adc h1;refine Bf ?_;refine Ad (Aa (OM rfl (OA rfl (Ab ?_))));refine Ak (Bw hw rfl ?_)
  exact (by rw [hf0, hs0]; rfl)
def zH : List AV := [.str [], .bool false, .nil (.slice none 0 0)]
def hcs (o : Option Hp) : List AV := match o with | some h => eH h | none => zH
theorem Iw (o : Option Hp) : (hcs o).length = 3 := by cases o <;> rfl
theorem Tu {N : Nat} (o : Option Hp) : AV.unds N (hcs o) = true := by cases o with | none => rfl | some h => exact M5 h
theorem Tv {ρ : Al} {σ : Sto} {Rr : Rec} {x y : Operand} {m : SM Hp} {s : Str} {r : Nat} (hx : A0 Ew ρ x = some (.mp r)) (hm : Bg hV σ r m) (hy : A0 Ew ρ y = some (sV s)) :
  Bu Ew Rr (.lookup 235 x y true) ρ σ (.tup [.agg (hcs (m.get s)), .bool (m.get s).isSome]) σ := by
 have := Pc (Rr := Rr) st9 Og hx hm hy
 have e : ((m.get s).map hV).getD (.agg [.str [], .bool false, .nil (.slice none 0 0)]) = .agg (hcs (m.get s)) := by cases m.get s <;> rfl
 rwa [e] at this
theorem Afe {ρ : Al} {σ : Sto} {Rr : Rec} {x y : Operand} {m : SM Str} {s : Str} {r : Nat} (hx : A0 Ew ρ x = some (.mp r)) (hm : Bg sV σ r m) (hy : A0 Ew ρ y = some (sV s)) :
  Bu Ew Rr (.lookup 274 x y true) ρ σ (.tup [sV ((m.get s).getD []), .bool (m.get s).isSome]) σ := by
 have := Pc (Rr := Rr) st9 Aa1 hx hm hy
 have e : ((m.get s).map sV).getD (.str []) = sV ((m.get s).getD []) := by cases m.get s <;> rfl
 rwa [e] at this
theorem f217 (m : Nat) (k : Kn) (h : Hp) (σ : Sto) (hk : Gc σ m k) : Ah Ew 217 [.agg (eH h), .pv [knV m]] σ fun v σ' => v = .bool (k.hyps.get h.label).isSome /\ σ' = σ := by
 refine A2 Tryz.func217 rfl rfl fun hw hu0 => ?_
 refine Ad (Aa (Ax Dy rfl rfl rfl (OA rfl (Ab ?_))));refine My 4 zH (hcs (k.hyps.get h.label)) [(5, .bool (k.hyps.get h.label).isSome)] (Tu _) rfl (fun hw => ?_) ?_
 refine Gv 1 (anns := [aR 0 1, aP 0 1, aP 0 1, aR 0 1, aP 0 1, aR 0 1, aR 0 1, aP 0 1, aP 0 1, aP 0 2, aE 0 1, aE 1 2, aP 2 2]) A5 (Ar (l := []) trivial) (by kernel_rfl) (by kernel_rfl) ?_
 refine DF (Ae Jd rfl rfl rfl) (DF (Bz rfl) (DF (Ac Tn rfl rfl) (DF (Ae Afa rfl rfl rfl) (DF (Ac Fk rfl rfl) (DF (Ae ld9 rfl rfl rfl) (DF (Tv rfl hk.h rfl) (DF (Ag rfl) ?_)))))));refine DF (Ao rfl rfl) (DF (Ao rfl rfl) (DT (Dt Rh) (DT (A6 (vs := zH) (vs' := hcs (k.hyps.get h.label)) Dy rfl rfl (Bp (Iw _)) Cd (Ey (Iw _))) (DF (Bv rfl) (Bl ?_)))))
 exact ⟨(by intro e he; simp at he; rcases he with rfl | rfl <;> first | exact .refl | exact Th hw), ⟨rfl, trivial⟩, sb, rfl, rfl⟩
 refine Ad (Aa (OM rfl (OA rfl (Ab ?_))));refine Ak (Bw hw rfl ?_);exact rfl
def Ai8 (o : Option Hp) (b : Hp) : Bool := match o with | some a => Ai6 a b | none => false
theorem Ap8 (o : Option Hp) (b : Hp) (σ : Sto) (ho : o.isSome = true) (hb : b.text.length < 4611686018427387904) : Ah Ew 187 [.agg (hcs o), .agg (eH b)] σ fun v σ' => v = .bool (Ai8 o b) /\ σ' = σ := by
 cases o with
 | none => cases ho
 | some a => exact f187 a b σ hb
def Ap9 (h : Hp) (du : Bool) : Bool := ((!Kl [2] h.label || (du && !h.floating)) || (h.floating && !decide (Int.ofNat h.text.length = 2))) || (!h.floating && (decide (Int.ofNat h.text.length = 0) || decide ((200 : Int) < Int.ofNat h.text.length)))
def hypT (k : Kn) (h : Hp) : Int := if ((k.hyps.get h.label).isSome && !Ai8 (k.hyps.get h.label) h) = true then 6 else 0
def hypX (k : Kn) (ty : SM Str) (t0 t1 : Str) : Bool := ((k.types.get t1).isSome && !decide ((k.types.get t1).getD [] = t0)) || ((ty.get t1).isSome && !decide ((ty.get t1).getD [] = t0))
def V3 (k : Kn) (lab : SM Bool) (ty : SM Str) (h : Hp) (du : Bool) : Int :=
 if Ap9 h du = true then 2 else if ((k.isSym h.label || k.frames.has h.label) || lab.has h.label) = true then 6
 else if h.floating = true then
  if (!k.consts.has (h.text.headD []) || !k.vars.has (h.text.tail.headD [])) = true then 12
  else if hypX k ty (h.text.headD []) (h.text.tail.headD []) = true then 11
  else if (ty.get (h.text.tail.headD [])).isSome = true then 6 else hypT k h
 else if (!decide (k.textF h.text = 0)) = true then k.textF h.text else hypT k h
theorem f211p (m : Nat) (k : Kn) (ra rb : Nat) (lab : SM Bool) (ty : SM Str) (lb : Str) (fl : Bool) (tx : List Str) (du : Bool) (σ : Sto) (hk : Gc σ m k) (hl : E3 σ ra lab) (ht : Bg sV σ rb ty) (hb : tx.length < 1000000) : Ah Ew 211 [knV m, .agg [.mp ra, .mp rb], .agg [sV lb, .bool fl, A9 tx], .bool du] σ fun v σ' => v = iV (V3 k lab ty ⟨lb, fl, tx⟩ du) /\ σ' = σ := by
 refine A2 Tryz.func211 rfl rfl fun hw hu0 => ?_
 refine Ad (Aa (Ax Amz rfl rfl rfl (Ax Dy rfl rfl rfl (OA rfl (Ab (Ad (Ad ?_)))))));refine Aa (O1 (Ac Fk rfl rfl) (O1 (Ae ld9 rfl rfl rfl) (Aq rfl rfl rfl rfl (f209 lb _) (O1 (A8 rfl) (OM rfl ?_)))));refine Co 6 _ ?_ rfl rfl rfl rfl rfl (Av rfl) (fun hg => ?_) (fun hg => ?_) ?_
 rotate_left
 ·refine On hg (Ag rfl) (On hg (Ag rfl) ?_)
  refine Cv 3 _ ?_ rfl rfl rfl rfl rfl (Iu rfl rfl rfl rfl (by rw [hg]; rfl)) (fun hg => ?_) (fun hg => ?_) ?_
  rotate_left
  ·refine On hg (Ac Io rfl rfl) (On hg (Ae ld4 rfl rfl rfl) (On hg (A8 rfl) (Ab ?_)));refine ⟨rfl, ?_, ?_⟩
   ·exact sb
   ·exact rfl
  ·refine Of hg (Of hg (Of hg (Ab ?_)));exact ⟨rfl, sb⟩
  refine Ab ?_;refine ⟨rfl, ?_, ?_⟩
  ·exact sb
  ·exact rfl
 ·refine Of hg (Of hg (Ou (Ou (Ou (Of hg (Ab ?_))))));exact ⟨rfl, sb⟩
 refine OM rfl ?_;refine Co 8 _ ?_ rfl rfl rfl rfl rfl (Av rfl) (fun hg => ?_) (fun hg => ?_) ?_
 rotate_left
 ·refine On hg (Ac Io rfl rfl) (On hg (Ae ld4 rfl rfl rfl) (On hg (Ag rfl) ?_))
  refine Cv 4 _ ?_ rfl rfl rfl rfl rfl (Iu rfl rfl rfl rfl (by rw [hg]; rfl)) (fun hg => ?_) (fun hg => ?_) ?_
  rotate_left
  ·refine On hg (Ac Da rfl rfl) (On hg (Ae Cf rfl rfl rfl) (On hg (As D0 rfl) (On hg (C9 (q := 2) ok3 rfl rfl) (Ab ?_))));refine ⟨rfl, ?_, ?_⟩
   ·exact sb
   ·exact rfl
  ·refine Of hg (Of hg (Of hg (Of hg (Ab ?_))));exact ⟨rfl, sb⟩
  refine Ab ?_;refine ⟨rfl, ?_, ?_⟩
  ·exact sb
  ·exact rfl
 ·refine Of hg (Of hg (Of hg (Ou (Ou (Ou (Ou (Of hg ?_)))))));refine Ab ?_;exact ⟨rfl, sb⟩
 refine OM rfl ?_;refine Co 15 _ ?_ rfl rfl rfl rfl rfl (Av rfl) (fun hg => ?_) (fun hg => ?_) ?_
 rotate_left
 ·refine On hg (Ac Io rfl rfl) (On hg (Ae ld4 rfl rfl rfl) (On hg (A8 rfl) (On hg (Ag rfl) ?_)))
  refine Cv 10 _ ?_ rfl rfl rfl rfl rfl (Iu rfl rfl rfl rfl (by rw [hg]; rfl)) (fun hg => ?_) (fun hg => ?_) ?_
  rotate_left
  ·refine On hg (Ac Da rfl rfl) (On hg (Ae Cf rfl rfl rfl) (On hg (As D0 rfl) (On hg (Dq (q := 0) ok3 rfl rfl) (On hg (Ag rfl) ?_))))
   refine Co 4 _ ?_ rfl rfl rfl rfl rfl (Iu rfl rfl rfl rfl (by rw [hg]; rfl)) (fun hg => ?_) (fun hg => ?_) ?_
   rotate_left
   ·refine On hg (Ac Da rfl rfl) (On hg (Ae Cf rfl rfl rfl) (On hg (As D0 rfl) (On hg (Cm (q := 200) ok3 rfl rfl) (Ab ?_))));refine ⟨rfl, ?_, ?_⟩
    ·exact sb
    ·exact rfl
   ·refine Of hg (Of hg (Of hg (Of hg (Ab ?_))));exact ⟨rfl, sb⟩
   refine Ab ?_;refine ⟨rfl, ?_, ?_⟩
   ·exact sb
   ·exact rfl
  ·refine Of hg (Of hg (Of hg (Of hg (Of hg (Ou (Ou (Ou ?_)))))));refine Ou (Of hg (Ab ?_));exact ⟨rfl, sb⟩
  refine Ab ?_;refine ⟨rfl, ?_, ?_⟩
  ·exact sb
  ·exact rfl
 ·refine Of hg (Of hg (Of hg (Of hg (Ou (Ou (Ou (Ou ?_)))))));refine Ou (Ou (Ou (Ou (Ou (Ou (Of hg (Ab ?_)))))));exact ⟨rfl, sb⟩
 refine Ab ?_;refine Ai rfl (fun h1 => ?_) (fun h1 => ?_)
 ·refine Ad (Aa (OA rfl (Ab ?_)));refine Ak (Bw hw rfl ?_);exact congrArg iV (if_pos h1).symm
 ·refine Aj (Ad ?_)
  refine Hg [(74, .bool ((k.isSym lb || k.frames.has lb) || lab.has lb))] ?_ ?_
  ·rcases Bool.eq_false_or_eq_true ((k.isSym lb)) with hg4 | hg4
   ·refine Cq (anns := [aP 0 0, aP 0 0, aR 0 0, aE 0 1, aP 1 1, aP 1 1, aP 1 1, aP 1 1, aR 1 1, aP 1 1, aR 1 1, aR 1 1, aP 1 1, aP 1 1, aP 1 1, aR 1 1, aP 1 1, aR 1 1, aR 1 1, aP 1 1]) A5 (Ar (l := [(208, [knV m, sV lb], σ, .bool (k.isSym lb), σ)]) ⟨Afc m k lb σ hk, trivial⟩) (by kernel_rfl) (by kernel_rfl) ?_
    refine DF (Ag rfl) (DF (Ac Fk rfl rfl) (DF (Ae ld9 rfl rfl rfl) (DT (A7 rfl rfl Ba) (DF (Ag rfl) ?_))))
    refine Dx rfl rfl rfl rfl (by first | rfl | simp only [hg4] <;> rfl | simp [hg4]) ?_
    refine Dx rfl rfl rfl rfl (by first | rfl | simp only [hg4] <;> rfl | simp [hg4]) ?_
    refine Dx rfl rfl rfl rfl (by first | rfl | simp only [hg4] <;> rfl | simp [hg4]) ?_
    refine Dx rfl rfl rfl rfl (by first | rfl | simp only [hg4] <;> rfl | simp [hg4]) ?_
    refine Dx rfl rfl rfl rfl (by first | rfl | simp only [hg4] <;> rfl | simp [hg4]) ?_
    refine Dx rfl rfl rfl rfl (by first | rfl | simp only [hg4] <;> rfl | simp [hg4]) ?_
    refine Dx rfl rfl rfl rfl (by first | rfl | simp only [hg4] <;> rfl | simp [hg4]) ?_
    refine DF (Bx rfl (by first | rfl | simp only [hg4] <;> rfl | simp [hg4]) rfl) ?_
    refine DF (Ag rfl) ?_
    refine Dx rfl rfl rfl rfl (by first | rfl | simp only [hg4] <;> rfl | simp [hg4]) ?_
    refine Dx rfl rfl rfl rfl (by first | rfl | simp only [hg4] <;> rfl | simp [hg4]) ?_
    refine Dx rfl rfl rfl rfl (by first | rfl | simp only [hg4] <;> rfl | simp [hg4]) ?_
    refine Dx rfl rfl rfl rfl (by first | rfl | simp only [hg4] <;> rfl | simp [hg4]) ?_
    refine Dx rfl rfl rfl rfl (by first | rfl | simp only [hg4] <;> rfl | simp [hg4]) ?_
    refine DF (Bx rfl (by first | rfl | simp only [hg4] <;> rfl | simp [hg4]) rfl) ?_
    refine Bl ?_
    exact ⟨⟨congrArg (fun b => some (AV.bool b)) (by first | rfl | simp only [hg4] <;> rfl | simp [hg4]), trivial⟩, sb, rfl⟩
   ·rcases Bool.eq_false_or_eq_true ((k.frames.has lb)) with hg13 | hg13
    ·refine Cq (anns := [aP 0 0, aP 0 0, aR 0 0, aE 0 1, aP 1 1, aP 1 1, aP 1 1, aP 1 1, aR 1 1, aP 1 1, aR 1 1, aR 1 1, aP 1 1, aP 1 1, aP 1 1, aR 1 1, aP 1 1, aR 1 1, aR 1 1, aP 1 1]) A5 (Ar (l := [(208, [knV m, sV lb], σ, .bool (k.isSym lb), σ)]) ⟨Afc m k lb σ hk, trivial⟩) (by kernel_rfl) (by kernel_rfl) ?_
     refine DF (Ag rfl) (DF (Ac Fk rfl rfl) (DF (Ae ld9 rfl rfl rfl) (DT (A7 rfl rfl Ba) (DF (Ag rfl) ?_))))
     refine Dn rfl rfl rfl rfl (by first | rfl | simp only [hg13, hg4] <;> rfl | simp [hg13, hg4]) (Ag rfl) ?_
     refine Dn rfl rfl rfl rfl (by first | rfl | simp only [hg13, hg4] <;> rfl | simp [hg13, hg4]) (Bz rfl) ?_
     refine Dn rfl rfl rfl rfl (by first | rfl | simp only [hg13, hg4] <;> rfl | simp [hg13, hg4]) (Ac Wm rfl rfl) ?_
     refine Dn rfl rfl rfl rfl (by first | rfl | simp only [hg13, hg4] <;> rfl | simp [hg13, hg4]) (Ae E4 rfl rfl rfl) ?_
     refine Dn rfl rfl rfl rfl (by first | rfl | simp only [hg13, hg4] <;> rfl | simp [hg13, hg4]) (Ac Fk rfl rfl) ?_
     refine Dn rfl rfl rfl rfl (by first | rfl | simp only [hg13, hg4] <;> rfl | simp [hg13, hg4]) (Ae ld9 rfl rfl rfl) ?_
     refine Dn rfl rfl rfl rfl (by first | rfl | simp only [hg13, hg4] <;> rfl | simp [hg13, hg4]) (Dj st9 C1 rfl hk.f rfl) ?_
     refine DF (Bt rfl (by first | rfl | simp only [hg13, hg4] <;> rfl | simp [hg13, hg4]) rfl) ?_
     refine DF (Ag rfl) ?_
     refine Dx rfl rfl rfl rfl (by first | rfl | simp only [hg13, hg4] <;> rfl | simp [hg13, hg4]) ?_
     refine Dx rfl rfl rfl rfl (by first | rfl | simp only [hg13, hg4] <;> rfl | simp [hg13, hg4]) ?_
     refine Dx rfl rfl rfl rfl (by first | rfl | simp only [hg13, hg4] <;> rfl | simp [hg13, hg4]) ?_
     refine Dx rfl rfl rfl rfl (by first | rfl | simp only [hg13, hg4] <;> rfl | simp [hg13, hg4]) ?_
     refine Dx rfl rfl rfl rfl (by first | rfl | simp only [hg13, hg4] <;> rfl | simp [hg13, hg4]) ?_
     refine DF (Bx rfl (by first | rfl | simp only [hg13, hg4] <;> rfl | simp [hg13, hg4]) rfl) ?_
     refine Bl ?_
     exact ⟨⟨congrArg (fun b => some (AV.bool b)) (by first | rfl | simp only [hg13, hg4] <;> rfl | simp [hg13, hg4]), trivial⟩, sb, rfl⟩
    ·refine Cq (anns := [aP 0 0, aP 0 0, aR 0 0, aE 0 1, aP 1 1, aP 1 1, aP 1 1, aP 1 1, aR 1 1, aP 1 1, aR 1 1, aR 1 1, aP 1 1, aP 1 1, aP 1 1, aR 1 1, aP 1 1, aR 1 1, aR 1 1, aP 1 1]) A5 (Ar (l := [(208, [knV m, sV lb], σ, .bool (k.isSym lb), σ)]) ⟨Afc m k lb σ hk, trivial⟩) (by kernel_rfl) (by kernel_rfl) ?_
     refine DF (Ag rfl) (DF (Ac Fk rfl rfl) (DF (Ae ld9 rfl rfl rfl) (DT (A7 rfl rfl Ba) (DF (Ag rfl) ?_))))
     refine Dn rfl rfl rfl rfl (by first | rfl | simp only [hg13, hg4] <;> rfl | simp [hg13, hg4]) (Ag rfl) ?_
     refine Dn rfl rfl rfl rfl (by first | rfl | simp only [hg13, hg4] <;> rfl | simp [hg13, hg4]) (Bz rfl) ?_
     refine Dn rfl rfl rfl rfl (by first | rfl | simp only [hg13, hg4] <;> rfl | simp [hg13, hg4]) (Ac Wm rfl rfl) ?_
     refine Dn rfl rfl rfl rfl (by first | rfl | simp only [hg13, hg4] <;> rfl | simp [hg13, hg4]) (Ae E4 rfl rfl rfl) ?_
     refine Dn rfl rfl rfl rfl (by first | rfl | simp only [hg13, hg4] <;> rfl | simp [hg13, hg4]) (Ac Fk rfl rfl) ?_
     refine Dn rfl rfl rfl rfl (by first | rfl | simp only [hg13, hg4] <;> rfl | simp [hg13, hg4]) (Ae ld9 rfl rfl rfl) ?_
     refine Dn rfl rfl rfl rfl (by first | rfl | simp only [hg13, hg4] <;> rfl | simp [hg13, hg4]) (Dj st9 C1 rfl hk.f rfl) ?_
     refine DF (Bt rfl (by first | rfl | simp only [hg13, hg4] <;> rfl | simp [hg13, hg4]) rfl) ?_
     refine DF (Ag rfl) ?_
     refine Dn rfl rfl rfl rfl (by first | rfl | simp only [hg13, hg4] <;> rfl | simp [hg13, hg4]) (Ac Ai1 rfl rfl) ?_
     refine Dn rfl rfl rfl rfl (by first | rfl | simp only [hg13, hg4] <;> rfl | simp [hg13, hg4]) (Ae E4 rfl rfl rfl) ?_
     refine Dn rfl rfl rfl rfl (by first | rfl | simp only [hg13, hg4] <;> rfl | simp [hg13, hg4]) (Ac Fk rfl rfl) ?_
     refine Dn rfl rfl rfl rfl (by first | rfl | simp only [hg13, hg4] <;> rfl | simp [hg13, hg4]) (Ae ld9 rfl rfl rfl) ?_
     refine Dn rfl rfl rfl rfl (by first | rfl | simp only [hg13, hg4] <;> rfl | simp [hg13, hg4]) (Dj st9 C1 rfl hl rfl) ?_
     refine DF (Bt rfl (by first | rfl | simp only [hg13, hg4] <;> rfl | simp [hg13, hg4]) rfl) ?_
     refine Bl ?_
     exact ⟨⟨congrArg (fun b => some (AV.bool b)) (by first | rfl | simp only [hg13, hg4] <;> rfl | simp [hg13, hg4]), trivial⟩, sb, rfl⟩
  refine Ai rfl (fun h2 => ?_) (fun h2 => ?_)
  ·refine Ad (Aa (OA rfl (Ab ?_)));refine Ak (Bw hw rfl ?_);exact congrArg iV ((if_neg (fun hh => Bool.noConfusion (h1.symm.trans hh))).trans (if_pos h2)).symm
  ·refine Aj (Ad (Ad (Aa (O1 (Ac Io rfl rfl) (O1 (Ae ld4 rfl rfl rfl) (Ab ?_))))));refine Ai rfl (fun h3 => ?_) (fun h3 => ?_)
   ·have h3' : fl = true := h3;subst h3'
    obtain ⟨t0, t1, rfl⟩ : ∃ t0 t1, tx = [t0, t1] := by
     have h4 : tx.length = 2 := by simp at h1; omega
     match tx, h4 with
     | [a, b], _ => exact ⟨a, b, rfl⟩
    refine Ad ?_
    refine Hg [(98, .bool (!k.consts.has t0 || !k.vars.has t1))] ?_ ?_
    ·rcases Bool.eq_false_or_eq_true ((!k.consts.has t0)) with hg10 | hg10
     ·refine Ht (anns := [aP 0 0, aP 0 0, aP 0 0, aR 0 0, aP 0 0, aR 0 0, aP 0 0, aR 0 0, aR 0 0, aP 0 0, aP 0 0, aP 0 0, aP 0 0, aP 0 0, aR 0 0, aP 0 0, aR 0 0, aP 0 0, aR 0 0, aR 0 0, aP 0 0, aP 0 0]) A5 (by kernel_rfl) (by kernel_rfl) ?_
      refine DF (Ag rfl) (DF (Bz rfl) (DF (Ac M2 rfl rfl) (DF (Ae E4 rfl rfl rfl) (DF (Ac Da rfl rfl) (DF (Ae Cf rfl rfl rfl) (DF (A3 C5 (fun _ => rfl) rfl rfl rfl (i := 0)) ?_))))))
      refine DF (Ae ld9 rfl rfl rfl) (DF (Dj st9 C1 rfl hk.c rfl) (DF (A8 rfl) (DF (Ag rfl) ?_)))
      refine Dx rfl rfl rfl rfl (by first | rfl | simp only [hg10] <;> rfl | simp [hg10]) ?_
      refine Dx rfl rfl rfl rfl (by first | rfl | simp only [hg10] <;> rfl | simp [hg10]) ?_
      refine Dx rfl rfl rfl rfl (by first | rfl | simp only [hg10] <;> rfl | simp [hg10]) ?_
      refine Dx rfl rfl rfl rfl (by first | rfl | simp only [hg10] <;> rfl | simp [hg10]) ?_
      refine Dx rfl rfl rfl rfl (by first | rfl | simp only [hg10] <;> rfl | simp [hg10]) ?_
      refine Dx rfl rfl rfl rfl (by first | rfl | simp only [hg10] <;> rfl | simp [hg10]) ?_
      refine Dx rfl rfl rfl rfl (by first | rfl | simp only [hg10] <;> rfl | simp [hg10]) ?_
      refine Dx rfl rfl rfl rfl (by first | rfl | simp only [hg10] <;> rfl | simp [hg10]) ?_
      refine Dx rfl rfl rfl rfl (by first | rfl | simp only [hg10] <;> rfl | simp [hg10]) ?_
      refine Dx rfl rfl rfl rfl (by first | rfl | simp only [hg10] <;> rfl | simp [hg10]) ?_
      refine DF (Bx rfl (by first | rfl | simp only [hg10] <;> rfl | simp [hg10]) rfl) ?_
      refine Bl ?_
      exact ⟨rfl, rfl, ⟨⟨congrArg (fun b => some (AV.bool b)) (by first | rfl | simp only [hg10] <;> rfl | simp [hg10]), trivial⟩, sb, rfl⟩⟩
     ·refine Ht (anns := [aP 0 0, aP 0 0, aP 0 0, aR 0 0, aP 0 0, aR 0 0, aP 0 0, aR 0 0, aR 0 0, aP 0 0, aP 0 0, aP 0 0, aP 0 0, aP 0 0, aR 0 0, aP 0 0, aR 0 0, aP 0 0, aR 0 0, aR 0 0, aP 0 0, aP 0 0]) A5 (by kernel_rfl) (by kernel_rfl) ?_
      refine DF (Ag rfl) (DF (Bz rfl) (DF (Ac M2 rfl rfl) (DF (Ae E4 rfl rfl rfl) (DF (Ac Da rfl rfl) (DF (Ae Cf rfl rfl rfl) (DF (A3 C5 (fun _ => rfl) rfl rfl rfl (i := 0)) ?_))))))
      refine DF (Ae ld9 rfl rfl rfl) (DF (Dj st9 C1 rfl hk.c rfl) (DF (A8 rfl) (DF (Ag rfl) ?_)))
      refine Dn rfl rfl rfl rfl (by first | rfl | simp only [hg10] <;> rfl | simp [hg10]) (Ag rfl) ?_
      refine Dn rfl rfl rfl rfl (by first | rfl | simp only [hg10] <;> rfl | simp [hg10]) (Bz rfl) ?_
      refine Dn rfl rfl rfl rfl (by first | rfl | simp only [hg10] <;> rfl | simp [hg10]) (Ac H1 rfl rfl) ?_
      refine Dn rfl rfl rfl rfl (by first | rfl | simp only [hg10] <;> rfl | simp [hg10]) (Ae E4 rfl rfl rfl) ?_
      refine Dn rfl rfl rfl rfl (by first | rfl | simp only [hg10] <;> rfl | simp [hg10]) (Ac Da rfl rfl) ?_
      refine Dn rfl rfl rfl rfl (by first | rfl | simp only [hg10] <;> rfl | simp [hg10]) (Ae Cf rfl rfl rfl) ?_
      refine Dn rfl rfl rfl rfl (by first | rfl | simp only [hg10] <;> rfl | simp [hg10]) (A3 C5 (fun _ => rfl) rfl rfl rfl (i := 1)) ?_
      refine Dn rfl rfl rfl rfl (by first | rfl | simp only [hg10] <;> rfl | simp [hg10]) (Ae ld9 rfl rfl rfl) ?_
      refine Dn rfl rfl rfl rfl (by first | rfl | simp only [hg10] <;> rfl | simp [hg10]) (Dj st9 C1 rfl hk.v rfl) ?_
      refine Dn rfl rfl rfl rfl (by first | rfl | simp only [hg10] <;> rfl | simp [hg10]) (A8 rfl) ?_
      refine DF (Bt rfl (by first | rfl | simp only [hg10] <;> rfl | simp [hg10]) rfl) ?_
      refine Bl ?_
      exact ⟨rfl, rfl, ⟨⟨congrArg (fun b => some (AV.bool b)) (by first | rfl | simp only [hg10] <;> rfl | simp [hg10]), trivial⟩, sb, rfl⟩⟩
    refine Ai rfl (fun h4 => ?_) (fun h4 => ?_)
    ·refine Ad (Aa (OA rfl (Ab ?_)));refine Ak (Bw hw rfl ?_);exact congrArg iV ((if_neg (fun hh => Bool.noConfusion (h1.symm.trans hh))).trans ((if_neg (fun hh => Bool.noConfusion (h2.symm.trans hh))).trans ((if_pos h3).trans (if_pos h4)))).symm
    ·refine Aj (Ad ?_)
     refine Ht (anns := [aP 0 0, aR 0 0, aP 0 0, aR 0 0, aP 0 0, aR 0 0, aR 0 0, aP 0 0, aP 0 0, aP 0 0, aP 0 0, aP 0 0]) A5 (by kernel_rfl) (by kernel_rfl) ?_
     refine DF (Ac Ac7 rfl rfl) (DF (Ae Afb rfl rfl rfl) (DF (Ac Da rfl rfl) (DF (Ae Cf rfl rfl rfl) (DF (A3 C5 (fun _ => rfl) rfl rfl rfl (i := 1)) ?_))))
     refine DF (Ae ld9 rfl rfl rfl) (DF (Afe rfl ht rfl) (DF (Ag rfl) (DF (Ao rfl rfl) (DF (Ao rfl rfl) (DF (Bv rfl) (DF (Bv rfl) (Bl ?_)))))));refine ⟨rfl, rfl, ?_⟩;refine Ad (Ad ?_)
     refine Ht (anns := [aP 0 0, aP 0 0, aP 0 0, aR 0 0, aP 0 0, aR 0 0, aP 0 0, aR 0 0, aR 0 0, aP 0 0, aP 0 0, aP 0 0, aP 0 0, aP 0 0]) A5 (by kernel_rfl) (by kernel_rfl) ?_
     refine DF (Ag rfl) (DF (Bz rfl) (DF (Ac Ai0 rfl rfl) (DF (Ae Afb rfl rfl rfl) (DF (Ac Da rfl rfl) (DF (Ae Cf rfl rfl rfl) (DF (A3 C5 (fun _ => rfl) rfl rfl rfl (i := 1)) ?_))))))
     refine DF (Ae ld9 rfl rfl rfl) (DF (Afe rfl hk.t rfl) (DF (Ag rfl) (DF (Ao rfl rfl) (DF (Ao rfl rfl) (DF (Bv rfl) (DF (Bv rfl) (Bl ?_)))))));refine ⟨rfl, rfl, ?_⟩;refine Ad (Aa (OM rfl (OM rfl ?_)));refine Cv 6 _ ?_ rfl rfl rfl rfl rfl (Av rfl) (fun hg => ?_) (fun hg => ?_) ?_
     rotate_left
     ·refine On hg (Ag rfl) (On hg (Ac Da rfl rfl) (On hg (Ae Cf rfl rfl rfl) (On hg (A3 C5 (fun _ => rfl) rfl rfl rfl (i := 0)) ?_)))
      refine On hg (Ae ld9 rfl rfl rfl) (On hg (En ok9 rfl rfl) (Ab ?_));refine ⟨rfl, ?_, ?_⟩
      ·exact sb
      ·exact rfl
     ·refine Of hg (Of hg (Of hg (Of hg (Of hg (Of hg (Ab ?_))))));exact ⟨rfl, sb⟩
     refine OM rfl ?_;refine Co 9 _ ?_ rfl rfl rfl rfl rfl (Av rfl) (fun hg => ?_) (fun hg => ?_) ?_
     rotate_left
     ·refine On hg (Ag rfl) (On hg (Ag rfl) ?_)
      refine Cv 6 _ ?_ rfl rfl rfl rfl rfl (Iu rfl rfl rfl rfl (by rw [hg]; rfl)) (fun hg => ?_) (fun hg => ?_) ?_
      rotate_left
      ·refine On hg (Ag rfl) (On hg (Ac Da rfl rfl) (On hg (Ae Cf rfl rfl rfl) (On hg (A3 C5 (fun _ => rfl) rfl rfl rfl (i := 0)) ?_)))
       refine On hg (Ae ld9 rfl rfl rfl) (On hg (En ok9 rfl rfl) (Ab ?_));refine ⟨rfl, ?_, ?_⟩
       ·exact sb
       ·exact rfl
      ·refine Of hg (Of hg (Of hg (Of hg (Of hg (Of hg (Ab ?_))))));exact ⟨rfl, sb⟩
      refine Ab ?_;refine ⟨rfl, ?_, ?_⟩
      ·exact sb
      ·exact rfl
     ·refine Of hg (Of hg (Ou (Ou (Ou (Ou (Ou (Ou ?_)))))));refine Of hg (Ab ?_);exact ⟨rfl, sb⟩
     refine Ab ?_;refine Ai rfl (fun h5 => ?_) (fun h5 => ?_)
     ·refine Ad (Aa (OA rfl (Ab ?_)));refine Ak (Bw hw rfl ?_);exact congrArg iV ((if_neg (fun hh => Bool.noConfusion (h1.symm.trans hh))).trans ((if_neg (fun hh => Bool.noConfusion (h2.symm.trans hh))).trans ((if_pos h3).trans ((if_neg (fun hh => Bool.noConfusion (h4.symm.trans hh))).trans (if_pos h5))))).symm
     ·refine Aj (Ad (Aa (OM rfl (Ab ?_))));refine Ai rfl (fun h6 => ?_) (fun h6 => ?_)
      ·refine Ad (Aa (OA rfl (Ab ?_)));refine Ak (Bw hw rfl ?_);exact congrArg iV ((if_neg (fun hh => Bool.noConfusion (h1.symm.trans hh))).trans ((if_neg (fun hh => Bool.noConfusion (h2.symm.trans hh))).trans ((if_pos h3).trans ((if_neg (fun hh => Bool.noConfusion (h4.symm.trans hh))).trans ((if_neg (fun hh => Bool.noConfusion (h5.symm.trans hh))).trans (if_pos h6)))))).symm
      ·refine Aj (Ad ?_);refine My 14 zH (hcs (k.hyps.get lb)) [(15, .bool (k.hyps.get lb).isSome)] (Tu _) rfl (fun hw => ?_) ?_
       refine Gv 1 (anns := [aP 0 1, aP 0 1, aP 0 1, aR 0 1, aP 0 1, aR 0 1, aR 0 1, aP 0 1, aP 0 1, aP 0 2, aE 0 1, aE 1 2, aP 2 2]) A5 (Ar (l := []) trivial) (by kernel_rfl) (by kernel_rfl) ?_
       refine DF (Ag rfl) (DF (Bz rfl) (DF (Ac Tn rfl rfl) (DF (Ae Afa rfl rfl rfl) (DF (Ac Fk rfl rfl) (DF (Ae ld9 rfl rfl rfl) (DF (Tv rfl hk.h rfl) (DF (Ag rfl) ?_)))))));refine DF (Ao rfl rfl) (DF (Ao rfl rfl) (DT (Dt Rh) (DT (A6 (vs := zH) (vs' := hcs (k.hyps.get lb)) Dy rfl rfl (Bp (Iw _)) Cd (Ey (Iw _))) (DF (Bv rfl) (Bl ?_)))))
       exact ⟨(by intro e he; simp at he; rcases he with rfl | rfl <;> first | exact .refl | exact Th hw), ⟨rfl, trivial⟩, sb, rfl, rfl⟩
       refine Ad (Aa (OM rfl (OM rfl ?_)));refine Cv 4 _ ?_ rfl rfl rfl rfl rfl (Av rfl) (fun hg => ?_) (fun hg => ?_) ?_
       rotate_left
       ·refine On hg (Ae (v := .agg (hcs (k.hyps.get lb))) Dy rfl rfl (Be (Iw _))) (On hg (Ae Dy rfl rfl rfl) (B0 rfl rfl rfl (by rw [hg]; rfl) rfl rfl rfl rfl (Ap8 _ ⟨lb, true, [t0, t1]⟩ _ hg (by simp)) ?_))
        refine On hg (A8 rfl) (Ab ?_);refine ⟨rfl, ?_, ?_⟩
        ·exact sb
        ·exact rfl
       ·refine Of hg (Of hg (Of hg (Of hg (Ab ?_))));exact ⟨rfl, sb⟩
       refine Ab ?_;refine Ai rfl (fun h7 => ?_) (fun h7 => ?_)
       ·refine Ad (Aa (OA rfl (Ab ?_)));refine Ak (Bw hw rfl ?_);exact congrArg iV ((if_neg (fun hh => Bool.noConfusion (h1.symm.trans hh))).trans ((if_neg (fun hh => Bool.noConfusion (h2.symm.trans hh))).trans ((if_pos h3).trans ((if_neg (fun hh => Bool.noConfusion (h4.symm.trans hh))).trans ((if_neg (fun hh => Bool.noConfusion (h5.symm.trans hh))).trans ((if_neg (fun hh => Bool.noConfusion (h6.symm.trans hh))).trans (if_pos h7))))))).symm
       ·refine Aj (Ad (Aa (OA rfl (Ab ?_))));refine Ak (Bw hw rfl ?_);exact congrArg iV ((if_neg (fun hh => Bool.noConfusion (h1.symm.trans hh))).trans ((if_neg (fun hh => Bool.noConfusion (h2.symm.trans hh))).trans ((if_pos h3).trans ((if_neg (fun hh => Bool.noConfusion (h4.symm.trans hh))).trans ((if_neg (fun hh => Bool.noConfusion (h5.symm.trans hh))).trans ((if_neg (fun hh => Bool.noConfusion (h6.symm.trans hh))).trans (if_neg (fun hh => Bool.noConfusion (h7.symm.trans hh))))))))).symm
   ·refine Ad (Aa (OM rfl (O1 (Ac Da rfl rfl) (O1 (Ae Cf rfl rfl rfl) (Aq rfl rfl rfl rfl (f212 m k tx _ hk (by omega)) ?_)))))
    refine OA rfl (Ab (Ad (Aa (OM rfl (O1 (C9 (q := 0) Jp rfl rfl) (Ab ?_))))));refine Ai rfl (fun h4 => ?_) (fun h4 => ?_)
    ·refine Ad (Aa (OM rfl (OA rfl (Ab ?_))));refine Ak (Bw hw rfl ?_);exact congrArg iV ((if_neg (fun hh => Bool.noConfusion (h1.symm.trans hh))).trans ((if_neg (fun hh => Bool.noConfusion (h2.symm.trans hh))).trans ((if_neg (fun hh => Bool.noConfusion (h3.symm.trans hh))).trans (if_pos h4)))).symm
    ·refine Aj (Ad ?_);refine My 14 zH (hcs (k.hyps.get lb)) [(15, .bool (k.hyps.get lb).isSome)] (Tu _) rfl (fun hw => ?_) ?_
     refine Gv 1 (anns := [aP 0 1, aP 0 1, aP 0 1, aR 0 1, aP 0 1, aR 0 1, aR 0 1, aP 0 1, aP 0 1, aP 0 2, aE 0 1, aE 1 2, aP 2 2]) A5 (Ar (l := []) trivial) (by kernel_rfl) (by kernel_rfl) ?_
     refine DF (Ag rfl) (DF (Bz rfl) (DF (Ac Tn rfl rfl) (DF (Ae Afa rfl rfl rfl) (DF (Ac Fk rfl rfl) (DF (Ae ld9 rfl rfl rfl) (DF (Tv rfl hk.h rfl) (DF (Ag rfl) ?_)))))));refine DF (Ao rfl rfl) (DF (Ao rfl rfl) (DT (Dt Rh) (DT (A6 (vs := zH) (vs' := hcs (k.hyps.get lb)) Dy rfl rfl (Bp (Iw _)) Cd (Ey (Iw _))) (DF (Bv rfl) (Bl ?_)))))
     exact ⟨(by intro e he; simp at he; rcases he with rfl | rfl <;> first | exact .refl | exact Th hw), ⟨rfl, trivial⟩, sb, rfl, rfl⟩
     refine Ad (Aa (OM rfl (OM rfl ?_)));refine Cv 4 _ ?_ rfl rfl rfl rfl rfl (Av rfl) (fun hg => ?_) (fun hg => ?_) ?_
     rotate_left
     ·refine On hg (Ae (v := .agg (hcs (k.hyps.get lb))) Dy rfl rfl (Be (Iw _))) (On hg (Ae Dy rfl rfl rfl) (B0 rfl rfl rfl (by rw [hg]; rfl) rfl rfl rfl rfl (Ap8 _ ⟨lb, fl, tx⟩ _ hg (by show tx.length < _; omega)) ?_))
      refine On hg (A8 rfl) (Ab ?_);refine ⟨rfl, ?_, ?_⟩
      ·exact sb
      ·exact rfl
     ·refine Of hg (Of hg (Of hg (Of hg (Ab ?_))));exact ⟨rfl, sb⟩
     refine Ab ?_;refine Ai rfl (fun h5 => ?_) (fun h5 => ?_)
     ·refine Ad (Aa (OA rfl (Ab ?_)));refine Ak (Bw hw rfl ?_);exact congrArg iV ((if_neg (fun hh => Bool.noConfusion (h1.symm.trans hh))).trans ((if_neg (fun hh => Bool.noConfusion (h2.symm.trans hh))).trans ((if_neg (fun hh => Bool.noConfusion (h3.symm.trans hh))).trans ((if_neg (fun hh => Bool.noConfusion (h4.symm.trans hh))).trans (if_pos h5))))).symm
     ·refine Aj (Ad (Aa (OA rfl (Ab ?_))));refine Ak (Bw hw rfl ?_);exact congrArg iV ((if_neg (fun hh => Bool.noConfusion (h1.symm.trans hh))).trans ((if_neg (fun hh => Bool.noConfusion (h2.symm.trans hh))).trans ((if_neg (fun hh => Bool.noConfusion (h3.symm.trans hh))).trans ((if_neg (fun hh => Bool.noConfusion (h4.symm.trans hh))).trans (if_neg (fun hh => Bool.noConfusion (h5.symm.trans hh))))))).symm
theorem f211 (m : Nat) (k : Kn) (ra rb : Nat) (lab : SM Bool) (ty : SM Str) (h : Hp) (du : Bool) (σ : Sto) (hk : Gc σ m k) (hl : E3 σ ra lab) (ht : Bg sV σ rb ty) (hb : h.text.length < 1000000) :
  Ah Ew 211 [knV m, .agg [.mp ra, .mp rb], .agg (eH h), .bool du] σ fun v σ' => v = iV (V3 k lab ty h du) /\ σ' = σ := f211p m k ra rb lab ty h.label h.floating h.text du σ hk hl ht hb
theorem Ro {f : Nat} {args : List AV} {σ : Sto} {v : AV} (he : Ub Ew.P f) (h : ∀ C w (vs : Array Value), RL C (nx σ) w args vs.toList -> ∃ x, Calls Ew.P f vs w (fun e w' => e = .returned x /\ w' = w) /\ R C (nx σ) w v x) : Ah Ew f args σ fun u τ => u = v /\ τ = σ := by
 intro C w vs hs hg ha;obtain ⟨x, h1, h2⟩ := h C w vs ha;refine ⟨he, h1.mono fun e w' hq => ?_⟩
 obtain ⟨rfl, rfl⟩ := hq;exact ⟨v, σ, C, ⟨rfl, rfl⟩, hs, Ext.refl _ _ _, h2⟩
theorem Aff {C : Ctx} {N : Nat} {w : World} {s : Str} {x : Value} (h : R C N w (sV s) x) : ∃ b : ByteArray, x = .string b /\ b.data.toList = s := by
 unfold sV R at h;obtain ⟨b, h1, h2⟩ := h;exact ⟨b, h1, Fa.1 h2⟩
theorem Ahg {C : Ctx} {N : Nat} {w : World} {a b : AV} {vs : Array Value} (h : RL C N w [a, b] vs.toList) : ∃ x y, vs = #[x, y] /\ R C N w a x /\ R C N w b y := by
 obtain ⟨l⟩ := vs
 match l, h with
 | [], h => unfold RL at h; exact h.elim
 | [_], h => unfold RL at h; have := h.2; unfold RL at this; exact this.elim
 | [x, y], h => unfold RL at h; have := h.2; unfold RL at this; exact ⟨x, y, rfl, h.1, this.1⟩
 | _ :: _ :: _ :: _, h => unfold RL at h; have := h.2; unfold RL at this; have := this.2; unfold RL at this; exact this.elim
theorem f263 (s t : Str) (σ : Sto) : Ah Ew 263 [sV s, sV t] σ fun v σ' => v = iV (Lib.compareBytes s t) /\ σ' = σ := by
 refine Ro ⟨_, Tryz.func263, rfl, rfl⟩ fun C w vs ha => ?_
 obtain ⟨x, y, rfl, hx, hy⟩ := Ahg ha;obtain ⟨a, rfl, rfl⟩ := Aff hx;obtain ⟨b, rfl, rfl⟩ := Aff hy
 exact ⟨_, Tryz.strings_Compare a b w, by unfold iV R; rfl⟩
def Akv (m : SM Bool) : List Str -> SM Bool × Nat -> SM Bool × Nat
 | [], q => q
 | s :: r, q => Akv m r (if m.has s then (q.1.put s true, q.2 + 1) else q)
def Ahh (m : SM Bool) : List (List Str) -> SM Bool × Nat -> SM Bool × Nat
 | [], q => q
 | t :: r, q => Ahh m r (Akv m t q)
def occM (m : SM Bool) (ll : List (List Str)) : SM Bool := (Ahh m ll ([], 0)).1
def Pn (m : SM Bool) (ll : List (List Str)) : AO := .map 9 (Ct bV (occM m ll)) (Ahh m ll ([], 0)).2
theorem undB {N : Nat} (m : SM Bool) : Ia N (Ct bV m) = true := Aar (fun _ => rfl) m
theorem f239x (r : Nat) (m : SM Bool) (ll : List (List Str)) (σ : Sto) (hm : E3 σ r m) (hb : ll.length < 2000000) (hb2 : ∀ t ∈ ll, t.length < 1000000) : Ah Ew 239 [.mp r, slV eL 1 ll] σ fun v σ' => v = .mp (nx σ) /\ σ' = σ.new (Pn m ll) := by
 refine A2 Tryz.func239 rfl rfl fun hw hu0 => ?_
 refine Ad (Aa (OA rfl (Ab (Ad (Aa (O1 (Mu C1) (OA rfl ?_)))))));refine Ab (Ad (Ad (Aa (OM rfl (O1 (As Ap2 rfl) (OM rfl (Ab ?_)))))));refine Am ?_
 refine Cg ll.length (fun i0 => [(0, .mp r), (5, .mp (nx σ)), (11, slV eL 1 ll), (12, iV (.ofNat ll.length)), (13, iV (.ofNat i0))]) (fun i0 σ0 => nx σ < nx σ0 /\ Below (nx σ) σ σ0 /\ ∃ q, σ0.get (nx σ) = some (.map 9 (Ct bV q.1) q.2) /\ Ahh m ll ([], 0) = Ahh m (ll.drop i0) q) ⟨rfl, rfl, rfl, rfl, rfl, trivial⟩ ⟨by rw [Ap]; omega, Below.rfl'.new nl _, ([], 0), by rw [Sto.get_new, if_pos rfl]; rfl, rfl⟩ ?_
 rintro i0 σ0 hi0 ⟨hn0, hbel0, q0, ho0, hf0⟩;refine Ad (Aa (O1 (Bb ok3 rfl rfl) (Ab (Ad ?_))));refine Ai rfl (fun h1 => ?_) (fun h1 => ?_)
 ·have hlt0 : i0 < ll.length := by simpa using h1
  obtain ⟨a0, ha0⟩ := B3 hlt0;have hd0 := Bn ha0;have hb3 := hb2 a0 (List.mem_of_getElem? ha0);refine Aj (Ad (Am (Ad (Aa (O1 (A3 Aiv (fun _ => rfl) rfl rfl ha0) ?_)))))
  refine O1 (Ae Cf rfl rfl rfl) (OA rfl (Ab (Ad (Aa (OM rfl (O1 (As D0 rfl) (OM rfl ?_)))))));refine Ab (Am ?_);refine Cg a0.length (fun i2 => [(0, .mp r), (5, .mp (nx σ)), (11, slV eL 1 ll), (12, iV (.ofNat ll.length)), (13, iV (.ofNat i0)), (17, A9 a0), (18, iV (.ofNat a0.length)), (19, iV (.ofNat i2))]) (fun i2 σ2 => nx σ < nx σ2 /\ Below (nx σ) σ σ2 /\ ∃ q, σ2.get (nx σ) = some (.map 9 (Ct bV q.1) q.2) /\ Akv m a0 q0 = Akv m (a0.drop i2) q) ⟨rfl, rfl, rfl, rfl, rfl, rfl, rfl, rfl, trivial⟩ ⟨hn0, hbel0, q0, ho0, rfl⟩ ?_
  rintro i2 σ2 hi2 ⟨hn2, hbel2, q2, ho2, hf2⟩;refine Ad (Aa (O1 (Bb ok3 rfl rfl) (Ab (Ad ?_))));refine Ai rfl (fun h2 => ?_) (fun h2 => ?_)
  ·have hlt2 : i2 < a0.length := by simpa using h2
   obtain ⟨a2, ha2⟩ := B3 hlt2;have hd2 := Bn ha2;have hr := hm.lt hw;have hm2 : E3 σ2 r m := hm.of_get (hbel2.2 r hr);refine Aj (Ad (Am (Ad (Aa (O1 (A3 C5 (fun _ => rfl) rfl rfl ha2) ?_)))))
   refine O1 (Ae ld9 rfl rfl rfl) (OA rfl (Ab (Ad (Aa (OM rfl (OM rfl (O1 (Dj st9 C1 rfl hm2 rfl) ?_)))))));refine Ab ?_;refine Ai rfl (fun h3 => ?_) (fun h3 => ?_)
   ·refine Aa (OM rfl (OM rfl (O1 (Fj (v := true) st9 C1 rfl ho2 rfl rfl (fun te k1 k2 => by first | exact G2 k1 k2 | exact G3 k1 k2 | exact Hu k1 k2 | exact Hv k1 k2 | exact Gj k1 k2 rfl)) ?_)))
    refine Ab (Aa (O1 (A1 (q := 1) ok3 rfl rfl (by omega)) ?_))
    refine OM rfl (Ab ?_)
    refine ⟨hlt2, ⟨rfl, rfl, rfl, rfl, rfl, rfl, rfl, rfl, trivial⟩, by rw [An]; exact hn2, hbel2.set nl _, (q2.1.put a2 true, q2.2 + 1), by rw [Sto.get_set, if_pos rfl], by rw [hf2, hd2, Akv, if_pos h3]⟩
   ·refine Aj (Aa (O1 (A1 (q := 1) ok3 rfl rfl (by omega)) ?_))
    refine OM rfl (Ab ?_)
    refine ⟨hlt2, ⟨rfl, rfl, rfl, rfl, rfl, rfl, rfl, rfl, trivial⟩, hn2, hbel2, q2, ho2, by rw [hf2, hd2, Akv, if_neg (by rw [h3]; simp)]⟩
  ·have hge2 : a0.length <= i2 := by simpa using h2
   refine Bf ?_
   refine Aa (O1 (A1 (q := 1) ok3 rfl rfl (by omega)) ?_)
   refine OM rfl (Ab ?_)
   refine ⟨hlt0, ⟨rfl, rfl, rfl, rfl, rfl, trivial⟩, hn2, hbel2, q2, ho2, by rw [hf0, hd0, Ahh, hf2, List.drop_eq_nil_of_le hge2]; rfl⟩
 ·have hge0 : ll.length <= i0 := by simpa using h1
  refine Bf ?_;refine Ad (Aa (OM rfl (OA rfl (Ab ?_))))
  have hq : Ahh m ll ([], 0) = q0 := by rw [hf0, List.drop_eq_nil_of_le hge0]; rfl
  subst hq;refine Ak ?_
  exact ⟨_, rfl, _, σ.new (Pn m ll), Aw.newMap hw hbel0 ho0 hn0 (undB _), by rw [Ap]; exact Nat.le_succ _, .same (D8 (by rw [Ap]; exact Nat.lt_succ_self _)), rfl, rfl⟩
def cmpP (p q : Pr) : Int := if (!decide (Lib.compareBytes p.a q.a = 0)) = true then Lib.compareBytes p.a q.a else Lib.compareBytes p.b q.b
theorem f241 (p q : Pr) (σ : Sto) : Ah Ew 241 [.agg (eP p), .agg (eP q)] σ fun v σ' => v = iV (cmpP p q) /\ σ' = σ := by
 refine A2 Tryz.func241 rfl rfl fun hw hu0 => ?_
 refine Ad (Aa (Ax Je rfl rfl rfl (Ax Je rfl rfl rfl (OA rfl (Ab (Ad (Ad ?_)))))));refine Aa (O1 (Ac Gw rfl rfl) (O1 (Ae ld9 rfl rfl rfl) (O1 (Ac Gw rfl rfl) (O1 (Ae ld9 rfl rfl rfl) (Aq rfl rfl rfl rfl (f263 p.a q.a _) (OA rfl (Ab ?_)))))));refine Ad (Aa (OM rfl (O1 (C9 (q := 0) ok3 rfl rfl) (Ab ?_))));refine Ai rfl (fun h1 => ?_) (fun h1 => ?_)
 ·refine Ad (Aa (OM rfl (OA rfl (Ab ?_))));refine Ak (Bw hw rfl ?_);exact congrArg iV (if_pos h1).symm
 ·refine Aj (Ad (Aa (O1 (Ac H2 rfl rfl) (O1 (Ae ld9 rfl rfl rfl) (O1 (Ac H2 rfl rfl) (O1 (Ae ld9 rfl rfl rfl) (Aq rfl rfl rfl rfl (f263 p.b q.b _) ?_)))))));refine OA rfl (Ab ?_);refine Ak (Bw hw rfl ?_);exact congrArg iV (if_neg (fun hh => Bool.noConfusion (h1.symm.trans hh))).symm
end Go.AM
