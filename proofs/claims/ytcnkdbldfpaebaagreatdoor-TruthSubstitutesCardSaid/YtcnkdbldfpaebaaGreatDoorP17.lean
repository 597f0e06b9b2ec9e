/- A part of the proof; shortened by program. -/
import Derived.Test.YtcnkdbldfpaebaaGreatDoorP15
import Derived.Test.YtcnkdbldfpaebaaGreatDoorP16
set_option maxRecDepth 100000
set_option maxHeartbeats 4000000
set_option linter.unusedSimpArgs false
set_option linter.unusedVariables false
namespace Go.AM
open Go Go.Proofs
theorem f180 (J : Sto) : Cv 180 [] J (.agg Jq) := s180.callTo rfl
def clsN (n : Nat) : Nat := match Jq[n]? with | some (.int _ (.ofNat k)) => k | _ => 0
theorem Ajq : Jq.length = 256 := Kr
theorem Ajr : Jq.all (fun v => match v with | .int .u8 (.ofNat _) => true | _ => false) = true := Kr
theorem Am9 (b : UInt8) : Jq.drop (b.toNat * 1) = .int .u8 (.ofNat (clsN b.toNat)) :: Jq.drop (b.toNat + 1) := by
 have hb : b.toNat < Jq.length := by rw [Ajq]; exact b.toNat_lt
 rw [ey_,b_ hb]
 congr 1
 have h := bu_.1 Ajr _ (List.getElem_mem hb);unfold clsN;rw [ao_ hb]
 generalize Jq[b.toNat] = v at h ⊢
 split at h
 ·rfl
 ·cases h
theorem f81 (l : List Str) (s : Str) (J : Sto) (hb : l.length < 4611686018427387904) : Cv 81 [slV (fun s => [sV s]) 1 l,sV s] J (iV (A7 (fun x => decide (s = x)) l 0)) := by
 refine Az Tryz.func81 rfl rfl fun hw _ => ?_
 refine Ac (Aa (OA rfl (Ab (Ac (Ac (Aa (OM rfl ?_)))))));refine O1 (Aq Ee rfl) (OM rfl (Ab (Am ?_)));refine B8 l.length (fun i => [(0,slV (fun s => [sV s]) 1 l),(1,sV s),(7,iV (.ofNat l.length)),(8,iV (.ofNat i))]) (fun i J' => J' = J /\ A7 (fun x => decide (s = x)) l 0 = A7 (fun x => decide (s = x)) (l.drop i) i) SL ⟨rfl,rfl⟩ ?_  -- reads [8,7,9,10,1,0,5,12,13,14,11,15,16,17,18]
 rintro i J' hi ⟨rfl,hf⟩;refine Ac (Aa (O1 (A8 ok3 rfl rfl) (Ab (Ac ?_))));refine Ah rfl ?_ ?_ <;> intro h
 ·have hlt : i < l.length := by simpa using h
  obtain ⟨a,ha⟩ : ∃ a,l[i]? = some a := ⟨_,ao_ hlt⟩
  have hd : l.drop i = a :: l.drop (i + 1) := by
   obtain ⟨h1,rfl⟩ := ae_.1 ha;exact b_ h1
  refine Ai (Ac (Am (Ac (Aa (OM rfl (OA rfl (Ab ?_)))))));refine Ac (Aa (OM rfl (OM rfl (OM rfl (O1 (Ax Da (fun _ => rfl) rfl rfl ha) ?_)))))
  refine O1 (Ae ld9 rfl rfl rfl) (O1 (I0 ok9 rfl rfl) (Ab ?_));refine Ah rfl (fun h' => ?_) (fun h' => ?_)
  ·refine Ac (Aa (OM rfl (OA rfl (Ab ?_))));refine An (Bq hw rfl ?_);rw [hf,hd]; simp only [A7,h',cond_true]; rfl
  ·refine Ai (Aa (O1 (Ay (p := i) (q := 1) ok3 rfl rfl Om) ?_));refine OM rfl (Ab ?_);refine ⟨hlt,SL,rfl,?_⟩;rw [hf,hd]; simp only [A7,h',cond_false]
 ·have hge : l.length <= i := by simpa using h
  refine Ba ?_;refine Ac (Aa (OA rfl (Ab ?_)));refine An (Bq hw rfl ?_);rw [hf,ah_ hge]; rfl
theorem byW (e : Nat) : Ew.byref e = false := rfl
def eB (n : Nat) : List AV := [.int .u8 (.ofNat n)]
theorem f196 (l : List Nat) (s : Nat) (J : Sto) (hb : l.length < 4611686018427387904) : Cv 196 [slV eB 1 l,.int .u8 (.ofNat s)] J (iV (A7 (fun x => decide (Int.ofNat s = Int.ofNat x)) l 0)) := by
 refine Az Tryz.func196 rfl rfl fun hw _ => ?_
 refine Ac (Aa (OA rfl (Ab (Ac (Ac (Aa (OM rfl ?_)))))));refine O1 (Aq sl327 rfl) (OM rfl (Ab (Am ?_)));refine B8 l.length (fun i => [(0,slV eB 1 l),(1,.int .u8 (.ofNat s)),(7,iV (.ofNat l.length)),(8,iV (.ofNat i))]) (fun i J' => J' = J /\ A7 (fun x => decide (Int.ofNat s = Int.ofNat x)) l 0 = A7 (fun x => decide (Int.ofNat s = Int.ofNat x)) (l.drop i) i) SL ⟨rfl,rfl⟩ ?_  -- reads [8,7,9,10,1,0,5,12,13,14,11,15,16,17,18]
 rintro i J' hi ⟨rfl,hf⟩;refine Ac (Aa (O1 (A8 ok3 rfl rfl) (Ab (Ac ?_))));refine Ah rfl ?_ ?_ <;> intro h
 ·have hlt : i < l.length := by simpa using h
  obtain ⟨a,ha⟩ : ∃ a,l[i]? = some a := ⟨_,ao_ hlt⟩
  have hd : l.drop i = a :: l.drop (i + 1) := by
   obtain ⟨h1,rfl⟩ := ae_.1 ha;exact b_ h1
  refine Ai (Ac (Am (Ac (Aa (OM rfl (OA rfl (Ab ?_)))))));refine Ac (Aa (OM rfl (OM rfl (OM rfl (O1 (Ax Aps (fun _ => rfl) rfl rfl ha) ?_)))))
  refine O1 (Ae ld5 rfl rfl rfl) (O1 (Do ok5 rfl rfl) (Ab ?_));refine Ah rfl (fun h' => ?_) (fun h' => ?_)
  ·refine Ac (Aa (OM rfl (OA rfl (Ab ?_))));refine An (Bq hw rfl ?_);rw [hf,hd]; simp only [A7,h',cond_true]; rfl
  ·refine Ai (Aa (O1 (Ay (p := i) (q := 1) ok3 rfl rfl Om) ?_));refine OM rfl (Ab ?_);refine ⟨hlt,SL,rfl,?_⟩;rw [hf,hd]; simp only [A7,h',cond_false]
 ·have hge : l.length <= i := by simpa using h
  refine Ba ?_;refine Ac (Aa (OA rfl (Ab ?_)));refine An (Bq hw rfl ?_);rw [hf,ah_ hge]; rfl
theorem f61 (l : List Str) (s : Str) (J : Sto) (hb : l.length < 4611686018427387904) : Cv 61 [slV (fun s => [sV s]) 1 l,sV s] J (.bool (l.any fun x => decide (s = x))) := by
 refine Az Tryz.func61 rfl rfl fun hw _ => ?_
 refine Ac (Aa (OA rfl (Ab (Ac (Aa (OM rfl (OM rfl ?_)))))));refine Ap rfl rfl rfl rfl (f81 l s J hb) (O1 (Eq (q := 0) ok3 rfl rfl) (OA rfl (Ab ?_)));refine An (Bq hw rfl ?_);exact congrArg AV.bool (E5 l)
theorem f181 (l : List Nat) (s : Nat) (J : Sto) (hb : l.length < 4611686018427387904) : Cv 181 [slV eB 1 l,.int .u8 (.ofNat s)] J (.bool (l.any fun x => decide (Int.ofNat s = Int.ofNat x))) := by
 refine Az Tryz.func181 rfl rfl fun hw _ => ?_
 refine Ac (Aa (OA rfl (Ab (Ac (Aa (OM rfl (OM rfl ?_)))))));refine Ap rfl rfl rfl rfl (f196 l s J hb) (O1 (Eq (q := 0) ok3 rfl rfl) (OA rfl (Ab ?_)));refine An (Bq hw rfl ?_);exact congrArg AV.bool (E5 l)
def okB (perm : List Nat) (b : UInt8) : Bool := perm.any fun x => decide (Int.ofNat (clsN b.toNat) = Int.ofNat x)
def K8 (perm : List Nat) (s : Str) : Bool := !(decide (s = []) || decide ((60 : Int) < Int.ofNat s.length)) && s.all (okB perm)
theorem f160 (s : Str) (perm : List Nat) (J : Sto) (hb : perm.length < 4611686018427387904) : Cv 160 [sV s,slV eB 1 perm] J (.bool (K8 perm s)) := by
 refine Az Tryz.func160 rfl rfl fun hw _ => ?_
 refine Ac (Aa (OA rfl (Ab (Ac (Ac (Aa (OM rfl ?_)))))));refine O1 (I0 (q := []) ok9 rfl rfl) (OM rfl ?_);refine Cm 3 _ ?_ rfl rfl rfl rfl rfl (Aw rfl) (fun hg => ?_) (fun hg => ?_) ?_
 rotate_left
 ·refine On hg (Ag rfl) (On hg (Ya st9 rfl) (On hg (Ca (q := 60) ok3 rfl rfl) (Ab ?_)));refine ⟨rfl,?_,?_⟩
  ·exact sb
  ·exact rfl
 ·refine Of hg (Of hg (Of hg (Ab ?_)));exact ⟨rfl,sb⟩
 refine Ab ?_;refine Ah rfl ?_ ?_ <;> intro h
 ·refine Ac (Aa (OA rfl (Ab ?_)));refine An (Bq hw rfl ?_);rw [K8,h]; rfl
 ·refine Ai (Ac (Aa (Ap rfl rfl rfl rfl (f180 J) (Bz zi328 ld328 rfl (fun _ => rfl) rfl rfl rfl rfl ?_))))
  refine Ab (Ac (Ac (Aa (OM rfl (O1 (Ya st9 rfl) (OM rfl (Ab ?_)))))));refine Am ?_;refine B8 s.length (fun i => [(0,sV s),(1,slV eB 1 perm),(5,.pv Jq),(16,iV (.ofNat s.length)),(17,iV (.ofNat i))]) (fun i J' => J' = J /\ s.all (okB perm) = (s.drop i).all (okB perm)) SL ⟨rfl,rfl⟩ ?_  -- reads [17,16,18,19,1,0,6,21,22,5,23,24,20,25,26,27,28]
  rintro i J' hi ⟨rfl,hf⟩;refine Ac (Aa (O1 (A8 ok3 rfl rfl) (Ab (Ac ?_))));refine Ah rfl ?_ ?_ <;> intro h1
  ·have hlt : i < s.length := by simpa using h1
   obtain ⟨a,ha⟩ : ∃ a,s[i]? = some a := ⟨_,ao_ hlt⟩
   have hd : s.drop i = a :: s.drop (i + 1) := by
    obtain ⟨h1,rfl⟩ := ae_.1 ha;exact b_ h1
   refine Ai (Ac (Am (Ac (Aa (OM rfl (OA rfl (Ab ?_)))))))
   refine Ac (Aa (OM rfl (OM rfl (OM rfl (O1 (Ar0 st9 rfl rfl ha) (O1 (Lm (n := a.toNat) ar328 rfl rfl a.toNat_lt rfl) (O1 (Ae (v := .int .u8 (.ofNat (clsN a.toNat))) ld5 rfl rfl (by show Iq 1 false (Jq.drop (a.toNat * 1)) = _; rw [Am9]; rfl)) ?_)))))))
   refine Ap rfl rfl rfl rfl (f181 perm _ _ hb) (O1 (Bb rfl) (Ab ?_));refine Ah rfl ?_ ?_ <;> intro h2
   ·refine Ac (Aa (OA rfl (Ab ?_)));refine An (Bq hw rfl ?_)
    rw [K8,h,hf,hd,cx_,show okB perm a = false by simpa [okB] using h2]; rfl
   ·refine Ai (Aa (O1 (Ay (p := i) (q := 1) ok3 rfl rfl (by simp at h; omega)) ?_))
    refine OM rfl (Ab ?_);refine ⟨hlt,SL,rfl,?_⟩
    rw [hf,hd,cx_,show okB perm a = true by simpa [okB] using h2]; rfl
  ·have hge : s.length <= i := by simpa using h1
   refine Ba ?_;refine Ac (Aa (OA rfl (Ab ?_)));refine An (Bq hw rfl ?_);rw [K8,h,hf,ah_ hge]; rfl
theorem f133 (s : Str) (J : Sto) : Cv 133 [sV s] J (.bool (K8 [2] s)) := by
 refine Az Tryz.func133 rfl rfl fun hw _ => ?_
 refine Ac (Aa (OA rfl (Ab (Ac (Aa (OM rfl (E6 (Bn Aps byW rfl rfl rfl) (Gd (len := 1)) rfl rfl ?_)))))))
 refine Ap rfl rfl rfl rfl (f160 s [2] J (by decide)) ?_
 refine OA rfl (Ab ?_);refine An (Bq hw rfl ?_);exact rfl
theorem Ana (s : Str) (J : Sto) : Cv 131 [sV s] J (.bool (K8 [2,3] s)) := by
 refine Az Tryz.func131 rfl rfl fun hw _ => ?_
 refine Ac (Aa (OA rfl (Ab (Ac (Aa (OM rfl (E6 (Bn Aps byW rfl rfl rfl) (Gd (len := 2)) rfl rfl ?_)))))))
 refine Ap rfl rfl rfl rfl (f160 s [2,3] J (by decide)) ?_
 refine OA rfl (Ab ?_);refine An (Bq hw rfl ?_);exact rfl
def Aao (h : Hp) : Bool := decide ((60 : Int) < Int.ofNat h.text.length)
def Apu (s : Str) : Bool := decide ((400 : Int) < Int.ofNat s.length)
theorem f16 (s : Str) (J : Sto) : Cv 16 [sV s] J (.bool (Apu s)) := by
 refine Az Tryz.func16 rfl rfl fun hw _ => ?_
 refine Ac (Aa (OA rfl (Ab (Ac (Aa (OM rfl (O1 (Ya st9 rfl) ?_)))))));refine O1 (Ca (q := 400) ok3 rfl rfl) (OA rfl (Ab ?_));refine An (Bq hw rfl ?_);exact rfl
theorem f13 (h : Hp) (J : Sto) : Cv 13 [.agg (eH h)] J (.bool (Aao h)) := by
 refine Az Tryz.func13 rfl rfl fun hw _ => ?_
 refine Ac (Aa (Ar D2 rfl rfl rfl (OA rfl (Ab (Ac (Aa (O1 (Ad C7 rfl rfl) ?_)))))));refine O1 (Ae Ce rfl rfl rfl) (O1 (Aq Ee rfl) (O1 (Ca (q := 60) ok3 rfl rfl) (OA rfl (Ab ?_))));refine An (Bq hw rfl ?_);exact rfl
def bigF (words : Int) (f : Fr) : Bool :=
 decide (words < Int.ofNat f.proof.length) || decide ((60 : Int) < Int.ofNat f.text.length) || decide ((60 : Int) < Int.ofNat f.hyps.length) || decide ((60 : Int) < Int.ofNat f.dummies.length) || decide ((200 : Int) < Int.ofNat f.apart.length) ||
  decide ((300 : Int) < Int.ofNat f.wide.length) || f.hyps.any Aao || f.dummies.any Aao || f.proof.any Apu
def Aap (d : Db) (frames words : Int) : Bool :=
 decide (Int.ofNat d.frames.length <= frames) && decide (Int.ofNat d.consts.length <= (200 : Int)) && decide (Int.ofNat d.vars.length <= (60 : Int)) && !(d.frames.any (bigF words))
theorem f12 (f : Fr) (words : Int) (J : Sto) (hw' : words < 1000000) : Cv 12 [.agg (eF f),.pv [iV words]] J (.bool (bigF words f)) := by
 refine Az Tryz.func12 rfl rfl fun hw _ => ?_
 refine Ac (Aa (Ar Qf rfl rfl rfl (OA rfl (Ab (Ac (Aa (OA rfl ?_)))))));refine Ab (Ac (Aa (O1 (Ad Aal rfl rfl) (O1 (Ae Ce rfl rfl rfl) (O1 (Aq Ee rfl) (O1 (Ae ld3 rfl rfl rfl) (O1 (Ca ok3 rfl rfl) ?_)))))));refine OM rfl ?_;refine Cm 4 _ ?_ rfl rfl rfl rfl rfl (Aw rfl) (fun hg => ?_) (fun hg => ?_) ?_
 rotate_left
 ·refine On hg (Ad Wf rfl rfl) (On hg (Ae Ce rfl rfl rfl) (On hg (Aq Ee rfl) (On hg (Ca (q := 60) ok3 rfl rfl) (Ab ?_))));refine ⟨rfl,?_,?_⟩
  ·exact sb
  ·exact rfl
 ·refine Of hg (Of hg (Of hg (Of hg (Ab ?_))));exact ⟨rfl,sb⟩
 refine OM rfl ?_;refine Cm 4 _ ?_ rfl rfl rfl rfl rfl (Aw rfl) (fun hg => ?_) (fun hg => ?_) ?_
 rotate_left
 ·refine On hg (Ad Hf rfl rfl) (On hg (Ae K7 rfl rfl rfl) (On hg (Aq F3 rfl) (On hg (Ca (q := 60) ok3 rfl rfl) (Ab ?_))));refine ⟨rfl,?_,?_⟩
  ·exact sb
  ·exact rfl
 ·refine Of hg (Of hg (Of hg (Of hg (Ab ?_))));exact ⟨rfl,sb⟩
 refine OM rfl ?_;refine Cm 4 _ ?_ rfl rfl rfl rfl rfl (Aw rfl) (fun hg => ?_) (fun hg => ?_) ?_
 rotate_left
 ·refine On hg (Ad Wg rfl rfl) (On hg (Ae K7 rfl rfl rfl) (On hg (Aq F3 rfl) (On hg (Ca (q := 60) ok3 rfl rfl) (Ab ?_))));refine ⟨rfl,?_,?_⟩
  ·exact sb
  ·exact rfl
 ·refine Of hg (Of hg (Of hg (Of hg (Ab ?_))));exact ⟨rfl,sb⟩
 refine OM rfl ?_;refine Cm 4 _ ?_ rfl rfl rfl rfl rfl (Aw rfl) (fun hg => ?_) (fun hg => ?_) ?_
 rotate_left
 ·refine On hg (Ad Apl rfl rfl) (On hg (Ae Am7 rfl rfl rfl) (On hg (Aq Aak rfl) (On hg (Ca (q := 200) ok3 rfl rfl) (Ab ?_))));refine ⟨rfl,?_,?_⟩
  ·exact sb
  ·exact rfl
 ·refine Of hg (Of hg (Of hg (Of hg (Ab ?_))));exact ⟨rfl,sb⟩
 refine OM rfl ?_;refine Cm 4 _ ?_ rfl rfl rfl rfl rfl (Aw rfl) (fun hg => ?_) (fun hg => ?_) ?_
 rotate_left
 ·refine On hg (Ad Aeu rfl rfl) (On hg (Ae Am7 rfl rfl rfl) (On hg (Aq Aak rfl) (On hg (Ca (q := 300) ok3 rfl rfl) (Ab ?_))));refine ⟨rfl,?_,?_⟩
  ·exact sb
  ·exact rfl
 ·refine Of hg (Of hg (Of hg (Of hg (Ab ?_))));exact ⟨rfl,sb⟩
 refine OM rfl ?_;refine Cm 4 _ ?_ rfl rfl rfl rfl rfl (Aw rfl) (fun hg => ?_) (fun hg => ?_) ?_
 rotate_left
 ·refine On hg (Ad Hf rfl rfl) (On hg (Ae K7 rfl rfl rfl) (On hg (Ag rfl) (B5 rfl rfl rfl (by rw [hg]; rfl) rfl rfl rfl rfl (f14 Aao f.hyps 13 [] J (by simp at hg; omega) (fun a _ => f13 a J)) ?_)))
  refine Ab ?_;refine ⟨rfl,?_,?_⟩
  ·exact sb
  ·exact rfl
 ·refine Of hg (Of hg (Of hg (Of hg (Ab ?_))));exact ⟨rfl,sb⟩
 refine OM rfl ?_;refine Cm 4 _ ?_ rfl rfl rfl rfl rfl (Aw rfl) (fun hg => ?_) (fun hg => ?_) ?_
 rotate_left
 ·refine On hg (Ad Wg rfl rfl) (On hg (Ae K7 rfl rfl rfl) (On hg (Ag rfl) (B5 rfl rfl rfl (by rw [hg]; rfl) rfl rfl rfl rfl (f14 Aao f.dummies 13 [] J (by simp at hg; omega) (fun a _ => f13 a J)) ?_)))
  refine Ab ?_;refine ⟨rfl,?_,?_⟩
  ·exact sb
  ·exact rfl
 ·refine Of hg (Of hg (Of hg (Of hg (Ab ?_))));exact ⟨rfl,sb⟩
 refine OM rfl ?_;refine Cm 3 _ ?_ rfl rfl rfl rfl rfl (Aw rfl) (fun hg => ?_) (fun hg => ?_) ?_
 rotate_left
 ·refine On hg (Ad Aal rfl rfl) (On hg (Ae Ce rfl rfl rfl) (B5 rfl rfl rfl (by rw [hg]; rfl) rfl rfl rfl rfl (f15 Apu f.proof 16 [] J (by simp at hg; omega) (fun a _ => f16 a J)) ?_))
  refine Ab ?_;refine ⟨rfl,?_,?_⟩
  ·exact sb
  ·exact rfl
 ·refine Of hg (Of hg (Of hg (Ab ?_)));exact ⟨rfl,sb⟩
 refine OA rfl (Ab ?_);refine An (Bq hw rfl ?_);exact rfl
theorem f9 (d : Db) (frames words : Int) (J : Sto) (h1 : frames < 1000000) (h2 : words < 1000000) : Cv 4 [dbV d,iV frames,iV words] J (.bool (Aap d frames words)) := by
 refine Az Tryz.func4 rfl rfl fun hw _ => ?_
 refine Ac (Aa (Ar Hy rfl rfl rfl (Ar ld3 rfl rfl rfl (OA rfl (Ab (Ac (Aa ?_)))))));refine O1 (Ad Sj rfl rfl) (O1 (Ae Ajh rfl rfl rfl) (O1 (Aq Aji rfl) (OM rfl (O1 (R4 ok3 rfl rfl) (OM rfl ?_)))));refine Cy 4 _ ?_ rfl rfl rfl rfl rfl (Aw rfl) (fun hg => ?_) (fun hg => ?_) ?_
 rotate_left
 ·refine On hg (Ad Ajj rfl rfl) (On hg (Ae Ce rfl rfl rfl) (On hg (Aq Ee rfl) (On hg (R4 (q := 200) ok3 rfl rfl) (Ab ?_))));refine ⟨rfl,?_,?_⟩
  ·exact sb
  ·exact rfl
 ·refine Of hg (Of hg (Of hg (Of hg (Ab ?_))));exact ⟨rfl,sb⟩
 refine OM rfl ?_;refine Cy 4 _ ?_ rfl rfl rfl rfl rfl (Aw rfl) (fun hg => ?_) (fun hg => ?_) ?_
 rotate_left
 ·refine On hg (Ad Qe rfl rfl) (On hg (Ae Ce rfl rfl rfl) (On hg (Aq Ee rfl) (On hg (R4 (q := 60) ok3 rfl rfl) (Ab ?_))));refine ⟨rfl,?_,?_⟩
  ·exact sb
  ·exact rfl
 ·refine Of hg (Of hg (Of hg (Of hg (Ab ?_))));exact ⟨rfl,sb⟩
 refine OM rfl ?_;refine Cy 5 _ ?_ rfl rfl rfl rfl rfl (Aw rfl) (fun hg => ?_) (fun hg => ?_) ?_
 rotate_left
 ·refine On hg (Ad Sj rfl rfl) (On hg (Ae Ajh rfl rfl rfl) (On hg (Fw rfl rfl) (B5 rfl rfl rfl (by rw [hg]; rfl) rfl rfl rfl rfl (f11 (bigF words) d.frames 12 [.pv [iV words]] J (by simp at hg; omega) (fun a _ => f12 a words J h2)) ?_)))
  refine On hg (Bb rfl) (Ab ?_);refine ⟨rfl,?_,?_⟩
  ·exact sb
  ·exact rfl
 ·refine Of hg (Of hg (Of hg (Of hg (Of hg (Ab ?_)))));exact ⟨rfl,sb⟩
 refine OA rfl (Ab ?_);refine An (Bq hw rfl ?_);exact rfl
theorem f19n (lb : Str) (ks : List Au) (n : Int) (J : Sto) (a : Nat) (hn : 0 <= n) (hn2 : n <= 1000) (hc : J.cells a = some [.fn (.func 19) [] [.pr a 0]])
  (ih : ∀ t ∈ ks,∀ (n : Int),0 <= n -> n <= 1000 -> Cv 19 [Bg t,iV n,.pr a 0] J (iV (Ly t n))) : Cv 19 [Bg (.node lb ks),iV n,.pr a 0] J (iV (Ly (.node lb ks) n)) := by
 simp only [Bg,Ne];refine Az Tryz.func19 rfl rfl fun hw _ => ?_
 refine Ac (Aa (Ar Bv rfl rfl rfl (OA rfl (Ab (Ac (Aa (OM rfl ?_)))))));refine O1 (Akv (p := n) (q := 1) ok3 rfl rfl Om Om) ?_;refine OA rfl (Ab (Ac (Ac (Aa (OA rfl (Ab (Am ?_)))))))
 refine Fi (α := Nat × Int) (fun x => [(1,iV x.2),(2,.pr a 0),(3,.pv [sV lb,slV eT 2 ks]),(6,iV (.ofNat x.1))]) (fun x J' => J' = J /\ x.1 <= ks.length /\ -1 <= x.2 /\ x.2 + x.1 <= n - 1 /\ Nh ks (n - 1) = Nh (ks.drop x.1) x.2) (fun x => ks.length - x.1) (0,n - 1) SL ⟨rfl,by omega,by omega,by simp,rfl⟩ ?_  -- reads [6,3,10,11,9,12,13,1,15,14,16,17,2,21,22,23,24,20,25,26,27,18,19]
 rintro ⟨i,left⟩ J' ⟨rfl,hi,hl1,hl2,hf⟩;simp only at hi hl1 hl2 hf;refine Ac (Ac (Aa (OM rfl (O1 (Ad Gg rfl rfl) (O1 (Ae Mf rfl rfl rfl) (O1 (Aq Wd rfl) (O1 (A8 ok3 rfl rfl) ?_)))))));refine OM rfl ?_;refine Cy 2 _ ?_ rfl rfl rfl rfl rfl (Aw rfl) (fun hg => ?_) (fun hg => ?_) ?_
 rotate_left
 ·refine On hg (Ag rfl) (On hg (Eq (q := 0) ok3 rfl rfl) (Ab ?_));refine ⟨rfl,?_,?_⟩
  ·exact sb
  ·exact rfl
 ·refine Of hg (Of hg (Ab ?_));exact ⟨rfl,sb⟩
 refine Ab ?_;refine Ah rfl ?_ ?_ <;> intro h
 ·have hlt : i < ks.length /\ 0 <= left := by simpa using h
  obtain ⟨k,hk⟩ : ∃ k,ks[i]? = some k := ⟨_,ao_ hlt.1⟩
  have hd : ks.drop i = k :: ks.drop (i + 1) := by
   obtain ⟨h1,rfl⟩ := ae_.1 hk;exact b_ h1
  have hfk := Akx k left hlt.2;refine Ai (Ac (Am ?_));refine Cc (anns := [aR 0 0,aP 0 0,aR 0 0,aP 0 0,aP 0 0,aR 0 0,aP 0 0,aE 0 1,aP 1 1]) A1 (As (l := [(19,[Bg k,iV left,.pr a 0],J',iV (Ly k left),J')]) ⟨ih k (af_ hk) left hlt.2 Om,trivial⟩) Kr Kr ?_
  refine DF (Ae (cs := [.fn (.func 19) [] [.pr a 0]]) ld71 rfl (by simp [Dq,hc]) rfl) ?_
  refine DF (Ad Gg rfl rfl) (DF (Ae Mf rfl rfl rfl) (DF (Ag rfl) (DF (Ax Aai A2 rfl rfl hk) (DF (Ae Bv rfl rfl (Cj (A2 k) _)) (DF (Ag rfl) (DT (Bl rfl rfl Bm) (DF (Bk rfl) ?_)))))));refine Bi (Aa (OM rfl (O1 (Ay (p := i) (q := 1) ok3 rfl rfl Om) ?_)));refine OA rfl (Ab ?_)
  refine ⟨(i + 1,Ly k left),by simp only; omega,SL,rfl,by simp only; omega,hfk.1,by simp only; omega,?_⟩
  rw [hf,hd,Amu,if_pos hlt.2]
 ·refine Ba ?_;refine Ac (Aa (OM rfl (OA rfl (Ab ?_))));refine An (Bq hw rfl ?_)
  have hh : ks.length <= i ∨ left < 0 := by
   have : ¬ (i < ks.length /\ 0 <= left) := by simpa using h
   omega
  unfold Ly;rw [hf]
  rcases hh with hh | hh
  ·rw [ah_ hh]; unfold Nh; rfl
  ·rw [Agg hh]; rfl
theorem f19 : ∀ (t : Au) (n : Int) (J : Sto) (a : Nat),0 <= n -> n <= 1000 -> J.cells a = some [.fn (.func 19) [] [.pr a 0]] -> Cv 19 [Bg t,iV n,.pr a 0] J (iV (Ly t n)) := by
 intro t n J a
 revert n
 refine Au.ind' (P := fun t => ∀ n : Int,0 <= n -> n <= 1000 -> J.cells a = some [.fn (.func 19) [] [.pr a 0]] -> Cv 19 [Bg t,iV n,.pr a 0] J (iV (Ly t n))) ?_ t
 intro l ks ih n h1 h2 hc;exact f19n l ks n J a h1 h2 hc fun t ht n h1 h2 => ih t ht n h1 h2 hc
def Apv (t : Au) (most : Int) : Bool := decide (0 <= Ly t most)
theorem f6 (t : Au) (most : Int) (J : Sto) (h0 : 0 <= most) (h1 : most <= 1000) : Cv 6 [Bg t,iV most] J (.bool (Apv t most)) := by
 refine Az Tryz.func6 rfl rfl fun hw _ => ?_
 refine Ac (Aa (Ar Bv rfl (Bj (A2 t)) rfl (OA rfl (Ab (Ac (Aa (O1 (Cw zi71) ?_)))))));refine Ab (Ac (Aa (O1 (Fw rfl rfl) (O1 (B9 (vs := [.nil .nilFunc]) (vs' := [.fn (.func 19) [] [.pr (nx J) 0]]) ld71 rfl rfl rfl Ed rfl) (Ab (Ac (Aa ?_)))))))
 refine O1 (Ae (cs := [.fn (.func 19) [] [.pr (nx J) 0]]) ld71 rfl (by simp [Dq,Sto.cells,a_]) rfl) ?_
 refine O1 (Ae Bv rfl rfl (A9 (A2 t))) (OM rfl (Ap rfl rfl rfl rfl (f19 t most _ (nx J) h0 h1 (by simp [Sto.cells,a_])) ?_))
 refine O1 (Eq (q := 0) ok3 rfl rfl) (OA rfl (Ab ?_));refine An ?_;refine ⟨_,rfl,_,_,ap_ hw ((Below.rfl'.new nl _).set nl _),nl,.same rfl,?_,rfl⟩;exact rfl
structure Kn where
 consts : SM Bool
 vars : SM Bool
 frames : SM Bool
 hyps : SM Hp
 types : SM Str
def hV (h : Hp) : AV := .agg (eH h)
def knV (m : Nat) : AV := .pv [.mp m,.mp (m + 1),.mp (m + 2),.mp (m + 3),.mp (m + 4)]
structure Gs (J : Sto) (m : Nat) (k : Kn) : Prop where
 c : E7 J m k.consts
 v : E7 J (m + 1) k.vars
 f : E7 J (m + 2) k.frames
 h : Bx hV J (m + 3) k.hyps
 t : Bx sV J (m + 4) k.types
def Kn.isSym (k : Kn) (s : Str) : Bool := k.consts.has s || k.vars.has s
theorem Agx (m : Nat) (k : Kn) (s : Str) (J : Sto) (hk : Gs J m k) : Cv 132 [knV m,sV s] J (.bool (k.isSym s)) := by
 refine Az Tryz.func132 rfl rfl fun hw _ => ?_
 refine Ac (Aa (OA rfl (Ab (Ac (Aa (OM rfl (O1 (Bp rfl) ?_)))))));refine O1 (Ad Nk rfl rfl) (O1 (Ae E9 rfl rfl rfl) (OM rfl (O1 (De st9 Cz rfl hk.c rfl) (OM rfl ?_))));refine Cm 6 _ ?_ rfl rfl rfl rfl rfl (Aw rfl) (fun hg => ?_) (fun hg => ?_) ?_
 rotate_left
 ·refine On hg (Ag rfl) (On hg (Bp rfl) (On hg (Ad Ii rfl rfl) (On hg (Ae E9 rfl rfl rfl) (On hg (Ag rfl) (On hg (De st9 Cz rfl hk.v rfl) (Ab ?_))))));refine ⟨rfl,?_,?_⟩
  ·exact sb
  ·exact rfl
 ·refine Of hg (Of hg (Of hg (Of hg (Of hg (Of hg (Ab ?_))))));exact ⟨rfl,sb⟩
 refine OA rfl (Ab ?_);refine An (Bq hw rfl ?_);exact rfl
theorem f162 (m : Nat) (k : Kn) (s : Str) (J : Sto) (hk : Gs J m k) : Cv 162 [sV s,.pv [knV m]] J (.bool (!k.isSym s)) := by
 refine Az Tryz.func162 rfl rfl fun hw _ => ?_
 refine Ac (Aa (OA rfl (Ab (Ac (Aa (O1 (Ae Jw rfl rfl rfl) (OM rfl ?_)))))));refine Ap rfl rfl rfl rfl (Agx m k s _ hk) (O1 (Bb rfl) (OA rfl (Ab ?_)));refine An (Bq hw rfl ?_);exact rfl
def Kn.textF (k : Kn) (l : List Str) : Int :=
 if l = [] ∨ (200 : Int) < Int.ofNat l.length then 2 else if (!k.consts.has (l.headD []) || l.tail.any fun s => !k.isSym s) then 12 else 0
theorem f136 (m : Nat) (k : Kn) (l : List Str) (J : Sto) (hk : Gs J m k) (hb : l.length < 4611686018427387904) : Cv 136 [knV m,A3 l] J (iV (k.textF l)) := by
 refine Az Tryz.func136 rfl rfl fun hw _ => ?_
 refine Ac (Aa (Ar Jw rfl rfl rfl (OA rfl (Ab (Ac (Am (Ac ?_)))))));refine Aa (OM rfl (O1 (Aq Ee rfl) (O1 (Do (q := 0) ok3 rfl rfl) (OM rfl ?_))));refine Cm 3 _ ?_ rfl rfl rfl rfl rfl (Aw rfl) (fun hg => ?_) (fun hg => ?_) ?_
 rotate_left
 ·refine On hg (Ag rfl) (On hg (Aq Ee rfl) (On hg (Ca (q := 200) ok3 rfl rfl) (Ab ?_)));refine ⟨rfl,?_,?_⟩
  ·exact sb
  ·exact rfl
 ·refine Of hg (Of hg (Of hg (Ab ?_)));exact ⟨rfl,sb⟩
 refine OA rfl (Ab ?_);refine Ah rfl ?_ ?_ <;> intro h
 ·refine Ac (Aa (OA rfl (Ab ?_)));refine An (Bq hw rfl ?_)
  rw [Kn.textF,if_pos (by cases l with | nil => exact .inl rfl | cons a r => right; simp at h ⊢; omega)]; rfl
 ·obtain ⟨a,r,rfl⟩ : ∃ a r,l = a :: r := by cases l with | nil => simp at h | cons a r => exact ⟨a,r,rfl⟩
  have hn : ¬ (a :: r = [] ∨ (200 : Int) < Int.ofNat (a :: r).length) := by simp at h ⊢; omega
  refine Hu [(14,.bool (!k.consts.has a || r.any fun s => !k.isSym s))] ?_ ?_
  ·rcases au_ (!k.consts.has a) with hg9 | hg9
   ·refine Cc (anns := [aR 0 0,aP 0 0,aP 0 0,aR 0 0,aP 0 0,aP 0 0,aR 0 0,aR 0 0,aP 0 0,aP 0 0,aP 0 0,aP 0 0,aP 0 0,aE 0 1,aP 1 1,aP 1 1]) A1 (As (l := []) trivial) Kr Kr ?_;refine DF (Ae Jw rfl rfl rfl) (DF (Bp rfl) (DF (Ad Nk rfl rfl) (DF (Ae E9 rfl rfl rfl) (DF (Ag rfl) (DF (Ax (i := 0) Da (fun _ => rfl) rfl rfl rfl) ?_)))))
    refine DF (Ae ld9 rfl rfl rfl) (DF (De st9 Cz rfl hk.c rfl) (DF (Bb rfl) (DF (Ag rfl) (Wx (w := by simp [hg9]) ?_))))
    refine Wx (w := by simp [hg9]) ?_
    refine Wx (w := by simp [hg9]) ?_
    refine Sd (e := true) rfl rfl rfl rfl (by simp [hg9]) rfl rfl ?_
    refine DF (Bu rfl (by simp [hg9]) rfl) ?_
    refine DF (Bk rfl) (Bi ?_)
    exact ⟨⟨congrArg (fun b => some (AV.bool b)) (by simp [hg9]),trivial⟩,sb,rfl⟩
   ·refine Cc (anns := [aR 0 0,aP 0 0,aP 0 0,aR 0 0,aP 0 0,aP 0 0,aR 0 0,aR 0 0,aP 0 0,aP 0 0,aP 0 0,aP 0 0,aP 0 0,aE 0 1,aP 1 1,aP 1 1]) A1 (As (l := [(15,[A3 r,.fn (.func 162) [] [.pv [knV m]]],J,.bool (r.any fun s => !k.isSym s),J)]) ⟨f15 (fun s => !k.isSym s) r 162 [.pv [knV m]] J (by simp at hb ⊢; omega) (fun s _ => f162 m k s J hk),trivial⟩) Kr Kr ?_
    refine DF (Ae Jw rfl rfl rfl) (DF (Bp rfl) (DF (Ad Nk rfl rfl) (DF (Ae E9 rfl rfl rfl) (DF (Ag rfl) (DF (Ax (i := 0) Da (fun _ => rfl) rfl rfl rfl) ?_)))))
    refine DF (Ae ld9 rfl rfl rfl) (DF (De st9 Cz rfl hk.c rfl) (DF (Bb rfl) (DF (Ag rfl) (Wn (w := by simp [hg9]) (Ag rfl) ?_))))
    refine Wn (w := by simp [hg9]) (Aek (a := 1) Da (fun _ => rfl) rfl rfl (by simp)) ?_
    refine Wn (w := by simp [hg9]) (Fw rfl rfl) ?_
    refine P9 (e := true) rfl rfl rfl rfl (by simp [hg9]) rfl rfl (Bl rfl rfl Bm) ?_
    refine DF (Br rfl (by simp [hg9]) rfl) ?_
    refine DF (Bk rfl) (Bi ?_)
    exact ⟨⟨congrArg (fun b => some (AV.bool b)) (by simp [hg9]),trivial⟩,sb,rfl⟩
  refine Ah rfl ?_ ?_ <;> intro h
  ·refine Ac (Aa (OA rfl (Ab ?_)));refine An (Bq hw rfl ?_)
   rw [Kn.textF,if_neg hn,if_pos (by simpa using h)]; rfl
  ·refine Ai (Ac (Aa (OA rfl (Ab ?_))));refine An (Bq hw rfl ?_)
   rw [Kn.textF,if_neg hn,if_neg (by simpa using h)]; rfl
def Agy (m : Nat) (J J' : Sto) : Prop := nx J' = nx J /\ ∀ b,b < m ∨ m + 5 <= b -> J'.get b = J.get b
theorem Agy.refl {m : Nat} {J : Sto} : Agy m J J := ⟨rfl,fun _ _ => rfl⟩
theorem Agy.set {m a : Nat} {J J' : Sto} {o : AO} (h : Agy m J J') (h1 : m <= a) (h2 : a < m + 5) : Agy m J (J'.set a o) :=
 ⟨by rw [Ak]; exact h.1,fun b hb => by rw [a_,if_neg Om]; exact h.2 b hb⟩
def O5 (s : Str) : Bool := K8 [2,3] s
def Nn : List Str -> Kn -> Int × Kn
 | [],k => (0,k)
 | c :: r,k => cond (!O5 c) (2,k) (cond (k.consts.has c) (6,k) (Nn r { k with consts := k.consts.put c true }))
def Qj : List Str -> Kn -> Int × Kn
 | [],k => (0,k)
 | c :: r,k => cond (!O5 c) (2,k) (cond (k.isSym c) (6,k) (Qj r { k with vars := k.vars.put c true }))
theorem Alj : ∀ (l : List Str) (k : Kn),(Nn l k).1 = 0 ∨ (Nn l k).1 = 2 ∨ (Nn l k).1 = 6
 | [],k => .inl rfl
 | c :: r,k => by unfold Nn; cases O5 c <;> cases k.consts.has c <;> simp [Alj r]
def Jr (d : Db) (k : Kn) : Int × Kn := if (Nn d.consts k).1 = 0 then Qj d.vars (Nn d.consts k).2 else Nn d.consts k
theorem Bh {α : Type} {l : List α} {i : Nat} {a : α} (ha : l[i]? = some a) : l.drop i = a :: l.drop (i + 1) := by
 obtain ⟨h1,rfl⟩ := ae_.1 ha;exact b_ h1
theorem Bt {α : Type} {l : List α} {i : Nat} (h : i < l.length) : ∃ a,l[i]? = some a := ⟨_,ao_ h⟩
theorem f108 (m : Nat) (k : Kn) (d : Db) (J : Sto) (hk : Gs J m k) (hb : d.consts.length < 4611686018427387904) (hb2 : d.vars.length < 4611686018427387904) : A6 Ew 108 [knV m,dbV d] J fun v J' => v = iV (Jr d k).1 /\ Agy m J J' /\ Gs J' m (Jr d k).2 := by
 refine Az Tryz.func108 rfl rfl fun hw hu0 => ?_
 refine Ac (Aa (Ar Hy rfl rfl rfl (OA rfl (Ab (Ac (Ac (Aa ?_)))))));refine O1 (Ad Ajj rfl rfl) (O1 (Ae Ce rfl rfl rfl) (O1 (Aq Ee rfl) (OM rfl (Ab (Am ?_)))));refine B8 d.consts.length (fun i0 => [(0,knV m),(3,.pv [A3 d.consts,A3 d.vars,slV eF 8 d.frames]),(10,A3 d.consts),(11,iV (.ofNat d.consts.length)),(12,iV (.ofNat i0))]) (fun i0 J0 => ∃ ki,Agy m J J0 /\ Gs J0 m ki /\ Nn d.consts k = Nn (d.consts.drop i0) ki) SL ⟨k,.refl,hk,rfl⟩ ?_
 rintro i0 J0 hi0 ⟨k0,hu0,hk0,hf0⟩;refine Ac (Aa (O1 (A8 ok3 rfl rfl) (Ab (Ac ?_))));refine Ah rfl ?_ ?_ <;> intro h1
 ·have bf : i0 < d.consts.length := by simpa using h1
  obtain ⟨a0,ha0⟩ := Bt bf;have hd0 := Bh ha0;obtain ⟨ver0,kq⟩ := hk0.c;refine Ai (Ac (Am (Ac (Aa (O1 (Ax Da (fun _ => rfl) rfl rfl ha0) ?_)))))
  refine O1 (Ae ld9 rfl rfl rfl) (OA rfl (Ab (Ac (Ac (Aa (OM rfl (Ap rfl rfl rfl rfl (Ana a0 _) ?_)))))));refine O1 (Bb rfl) (Ab ?_);refine Ah rfl ?_ ?_ <;> intro h2
  ·refine Ac (Aa (OA rfl (Ab ?_)));refine Dp fun hw' => ?_
   refine An ?_
   exact ⟨_,rfl,_,_,ag_ hw' nl (fun _ _ => rfl),by rw [hu0.1]; exact nl,.same rfl,by rw [Jr,hf0,hd0,Nn,O5,h2]; rfl,hu0,by rw [Jr,hf0,hd0,Nn,O5,h2]; exact hk0⟩
  ·refine Ai (Ac (Ac (Aa (OM rfl (O1 (Bp rfl) (O1 (Ad Nk rfl rfl) (O1 (Ae E9 rfl rfl rfl) ?_)))))));refine OM rfl (O1 (De st9 Cz rfl hk0.c rfl) (Ab ?_));refine Ah rfl ?_ ?_ <;> intro h3
   ·refine Ac (Aa (OA rfl (Ab ?_)));refine Dp fun hw' => ?_
    refine An ?_
    exact ⟨_,rfl,_,_,ag_ hw' nl (fun _ _ => rfl),by rw [hu0.1]; exact nl,.same rfl,by rw [Jr,hf0,hd0,Nn,O5,h2,h3]; rfl,hu0,by rw [Jr,hf0,hd0,Nn,O5,h2,h3]; exact hk0⟩
   ·refine Ai (Aa (OM rfl (O1 (Bp rfl) (O1 (Ad Nk rfl rfl) (O1 (Ae E9 rfl rfl rfl) (OM rfl (O1 (E8 (v := true) st9 Cz rfl kq rfl rfl (fun te k1 k2 => by first | exact Fq k1 k2 | exact Fs k1 k2 | exact Ge k1 k2 | exact Gf k1 k2 | exact Ft k1 k2 rfl)) ?_)))))))
    refine Ab (Aa (O1 (Ay (q := 1) ok3 rfl rfl Om) ?_));refine OM rfl (Ab ?_)
    refine ⟨bf,SL,{ k0 with consts := k0.consts.put a0 true },hu0.set Om Om,⟨.put,hk0.v.set Om,hk0.f.set Om,hk0.h.set Om,hk0.t.set Om⟩,by rw [hf0,hd0,Nn,O5,h2,h3]; rfl⟩
 ·have bq : d.consts.length <= i0 := by simpa using h1
  have hs : Jr d k = Qj d.vars k0 := by rw [Jr,hf0,ah_ bq]; rfl
  refine Ba ?_;refine Ac (Ac (Aa (O1 (Ad Qe rfl rfl) (O1 (Ae Ce rfl rfl rfl) (O1 (Aq Ee rfl) (OM rfl (Ab ?_)))))));refine Am ?_;refine B8 d.vars.length (fun i2 => [(0,knV m),(32,A3 d.vars),(33,iV (.ofNat d.vars.length)),(34,iV (.ofNat i2))]) (fun i2 J2 => ∃ ki,Agy m J J2 /\ Gs J2 m ki /\ Qj d.vars k0 = Qj (d.vars.drop i2) ki) SL ⟨k0,hu0,hk0,rfl⟩ ?_
  rintro i2 J2 hi2 ⟨k2,hu2,hk2,hf2⟩;refine Ac (Aa (O1 (A8 ok3 rfl rfl) (Ab (Ac ?_))));refine Ah rfl ?_ ?_ <;> intro h2
  ·have br : i2 < d.vars.length := by simpa using h2
   obtain ⟨a2,ha2⟩ := Bt br;have hd2 := Bh ha2;obtain ⟨ver2,kw⟩ := hk2.v;refine Ai (Ac (Am (Ac (Aa (O1 (Ax Da (fun _ => rfl) rfl rfl ha2) ?_)))))
   refine O1 (Ae ld9 rfl rfl rfl) (OA rfl (Ab (Ac (Ac (Aa (OM rfl (Ap rfl rfl rfl rfl (Ana a2 _) ?_)))))));refine O1 (Bb rfl) (Ab ?_);refine Ah rfl ?_ ?_ <;> intro h3
   ·refine Ac (Aa (OA rfl (Ab ?_)));refine Dp fun hw' => ?_
    refine An ?_
    exact ⟨_,rfl,_,_,ag_ hw' nl (fun _ _ => rfl),by rw [hu2.1]; exact nl,.same rfl,by rw [hs,hf2,hd2,Qj,O5,h3]; rfl,hu2,by rw [hs,hf2,hd2,Qj,O5,h3]; exact hk2⟩
   ·refine Ai (Ac (Ac (Aa (OM rfl (OM rfl (Ap rfl rfl rfl rfl (Agx m k2 a2 _ hk2) (Ab ?_)))))));refine Ah rfl ?_ ?_ <;> intro h4
    ·refine Ac (Aa (OA rfl (Ab ?_)));refine Dp fun hw' => ?_
     refine An ?_
     exact ⟨_,rfl,_,_,ag_ hw' nl (fun _ _ => rfl),by rw [hu2.1]; exact nl,.same rfl,by rw [hs,hf2,hd2,Qj,O5,h3,h4]; rfl,hu2,by rw [hs,hf2,hd2,Qj,O5,h3,h4]; exact hk2⟩
    ·refine Ai (Aa (OM rfl (O1 (Bp rfl) (O1 (Ad Ii rfl rfl) (O1 (Ae E9 rfl rfl rfl) (OM rfl (O1 (E8 (v := true) st9 Cz rfl kw rfl rfl (fun te k1 k2 => by first | exact Fq k1 k2 | exact Fs k1 k2 | exact Ge k1 k2 | exact Gf k1 k2 | exact Ft k1 k2 rfl)) ?_)))))))
     refine Ab (Aa (O1 (Ay (q := 1) ok3 rfl rfl Om) ?_));refine OM rfl (Ab ?_)
     refine ⟨br,SL,{ k2 with vars := k2.vars.put a2 true },hu2.set Om Om,⟨hk2.c.set Om,.put,hk2.f.set Om,hk2.h.set Om,hk2.t.set Om⟩,by rw [hf2,hd2,Qj,O5,h3,h4]; rfl⟩
  ·have b8 : d.vars.length <= i2 := by simpa using h2
   refine Ba ?_;refine Ac (Aa (OA rfl (Ab ?_)));refine Dp fun hw' => ?_
   refine An ?_
   exact ⟨_,rfl,_,_,ag_ hw' nl (fun _ _ => rfl),by rw [hu2.1]; exact nl,.same rfl,by rw [hs,hf2,ah_ b8]; rfl,hu2,by rw [hs,hf2,ah_ b8]; exact hk2⟩
theorem bo4 : X7 Ew.P 4 = true := Kr
theorem Ci {α : Type} {l : List α} {i : Nat} {a : α} (ha : l[i]? = some a) : l.take (i + 1) = l.take i ++ [a] := by rw [List.take_add_one,ha]; rfl
theorem keyP (p : Pr) : Hn Ew.P 305 (.agg (eP p)) = some (.agg [kS p.a,kS p.b]) := Kr
theorem Alk (p q : Pr) : Key.eq (.agg [kS p.a,kS p.b]) (.agg [kS q.a,kS q.b]) = decide (p = q) := by
 show cond (Key.eq (kS p.a) (kS q.a)) (cond (Key.eq (kS p.b) (kS q.b)) true false) false = _
 rw [Acj,Acj];obtain ⟨a,b⟩ := p;obtain ⟨c,d⟩ := q
 by_cases h1 : a = c <;> by_cases h2 : b = d <;> simp [h1,h2]
theorem f148 (l m : List Str) (J : Sto) (hb : m.length < 4611686018427387904) : Cv 148 [A3 l,A3 m] J (.bool (decide (l = m))) := by
 refine Az Tryz.func148 rfl rfl fun hw hu0 => ?_
 refine Ac (Aa (OA rfl (Ab (Ac (Ac (Aa (OM rfl ?_)))))));refine O1 (Aq Ee rfl) (OM rfl (O1 (Aq Ee rfl) (O1 (Cx ok3 rfl rfl) (Ab ?_))));refine Ah rfl ?_ ?_ <;> intro h1
 ·refine Ac (Aa (OA rfl (Ab ?_)));refine An (Bq hw rfl ?_)
  exact congrArg AV.bool (decide_eq_false (fun hh => by subst hh; simp at h1)).symm
 ·have bx : l.length = m.length := by simp at h1; omega
  refine Ai (Ac (Ac (Aa (OM rfl (O1 (Aq Ee rfl) (OM rfl (Ab ?_)))))));refine Am ?_;refine B8 l.length (fun i0 => [(0,A3 l),(1,A3 m),(12,iV (.ofNat l.length)),(13,iV (.ofNat i0))]) (fun i0 J0 => J0 = J /\ l.take i0 = m.take i0) SL ⟨rfl,rfl⟩ ?_
  rintro i0 J0 hi0 ⟨rfl,hf0⟩;refine Ac (Aa (O1 (A8 ok3 rfl rfl) (Ab (Ac ?_))));refine Ah rfl ?_ ?_ <;> intro h2
  ·have bf : i0 < l.length := by simpa using h2
   obtain ⟨a0,ha0⟩ := Bt bf;have hd0 := Bh ha0
   obtain ⟨b,hb0⟩ := Bt (show i0 < m.length by omega)
   refine Ai (Ac (Am (Ac (Aa (OM rfl (OA rfl (Ab ?_)))))));refine Ac ?_;refine Fx (anns := [aP 0 0,aP 0 0,aP 0 0,aR 0 0,aP 0 0,aP 0 0,aP 0 0,aR 0 0,aP 0 0]) A1 Kr Kr ?_;refine DF (Ag rfl) (DF (Ag rfl) (DF (Ax Da (fun _ => rfl) rfl rfl ha0) ?_))
   refine DF (Ae ld9 rfl rfl rfl) (DF (Ag rfl) (DF (Ag rfl) (DF (Ax Da (fun _ => rfl) rfl rfl hb0) ?_)))
   refine DF (Ae ld9 rfl rfl rfl) (DF (Lx ok9 rfl rfl) (Bi ?_));refine ⟨rfl,rfl,?_⟩;refine Ah rfl ?_ ?_ <;> intro h3
   ·refine Ac (Aa (OA rfl (Ab ?_)));refine An (Bq hw rfl ?_)
    exact congrArg AV.bool (decide_eq_false (fun hh => by
     have h4 : a0 ≠ b := (by simpa using h3)
     subst hh; rw [ha0] at hb0; cases hb0; exact h4 rfl)).symm
   ·refine Ai (Aa (O1 (Ay (q := 1) ok3 rfl rfl Om) ?_));refine OM rfl (Ab ?_)
    refine ⟨bf,SL,rfl,(have h4 : a0 = b := (by simpa using h3); by rw [Ci ha0,Ci hb0,hf0,h4])⟩
  ·have bq : l.length <= i0 := by simpa using h2
   refine Ba ?_;refine Ac (Aa (OA rfl (Ab ?_)));refine An (Bq hw rfl ?_)
   exact congrArg AV.bool (decide_eq_true (by rw [at_ bq,at_ Om] at hf0; exact hf0)).symm
theorem f166 (l m : List Pr) (J : Sto) (hb : m.length < 4611686018427387904) : Cv 166 [slV eP 2 l,slV eP 2 m] J (.bool (decide (l = m))) := by
 refine Az Tryz.func166 rfl rfl fun hw hu0 => ?_
 refine Ac (Aa (OA rfl (Ab (Ac (Ac (Aa (OM rfl ?_)))))));refine O1 (Aq Aak rfl) (OM rfl (O1 (Aq Aak rfl) (O1 (Cx ok3 rfl rfl) (Ab ?_))));refine Ah rfl ?_ ?_ <;> intro h1
 ·refine Ac (Aa (OA rfl (Ab ?_)));refine An (Bq hw rfl ?_)
  exact congrArg AV.bool (decide_eq_false (fun hh => by subst hh; simp at h1)).symm
 ·have bx : l.length = m.length := by simp at h1; omega
  refine Ai (Ac (Ac (Aa (OM rfl (O1 (Aq Aak rfl) (OM rfl (Ab ?_)))))));refine Am ?_;refine B8 l.length (fun i0 => [(0,slV eP 2 l),(1,slV eP 2 m),(12,iV (.ofNat l.length)),(13,iV (.ofNat i0))]) (fun i0 J0 => J0 = J /\ l.take i0 = m.take i0) SL ⟨rfl,rfl⟩ ?_
  rintro i0 J0 hi0 ⟨rfl,hf0⟩;refine Ac (Aa (O1 (A8 ok3 rfl rfl) (Ab (Ac ?_))));refine Ah rfl ?_ ?_ <;> intro h2
  ·have bf : i0 < l.length := by simpa using h2
   obtain ⟨a0,ha0⟩ := Bt bf;have hd0 := Bh ha0
   obtain ⟨b,hb0⟩ := Bt (show i0 < m.length by omega)
   refine Ai (Ac (Am (Ac (Aa (OM rfl (OA rfl (Ab ?_)))))));refine Ac ?_;refine Fx (anns := [aP 0 0,aP 0 0,aP 0 0,aR 0 0,aP 0 0,aP 0 0,aP 0 0,aR 0 0,aP 0 0]) A1 Kr Kr ?_;refine DF (Ag rfl) (DF (Ag rfl) (DF (Ax We (fun _ => rfl) rfl rfl ha0) ?_))
   refine DF (Ae Jx rfl rfl rfl) (DF (Ag rfl) (DF (Ag rfl) (DF (Ax We (fun _ => rfl) rfl rfl hb0) ?_)))
   refine DF (Ae Jx rfl rfl rfl) (DF (At8 ok305 rfl rfl rfl rfl (keyP a0) (keyP b)) (Bi ?_));refine ⟨rfl,rfl,?_⟩;refine Ah rfl ?_ ?_ <;> intro h3
   ·refine Ac (Aa (OA rfl (Ab ?_)));refine An (Bq hw rfl ?_)
    exact congrArg AV.bool (decide_eq_false (fun hh => by
     have h4 : a0 ≠ b := (by rw [Alk] at h3; simpa using h3)
     subst hh; rw [ha0] at hb0; cases hb0; exact h4 rfl)).symm
   ·refine Ai (Aa (O1 (Ay (q := 1) ok3 rfl rfl Om) ?_));refine OM rfl (Ab ?_)
    refine ⟨bf,SL,rfl,(have h4 : a0 = b := (by rw [Alk] at h3; simpa using h3); by rw [Ci ha0,Ci hb0,hf0,h4])⟩
  ·have bq : l.length <= i0 := by simpa using h2
   refine Ba ?_;refine Ac (Aa (OA rfl (Ab ?_)));refine An (Bq hw rfl ?_)
   exact congrArg AV.bool (decide_eq_true (by rw [at_ bq,at_ Om] at hf0; exact hf0)).symm
def All (a b : Hp) : Bool := decide (a.label = b.label) && (a.floating == b.floating) && decide (a.text = b.text)
theorem f114 (a b : Hp) (J : Sto) (hb : b.text.length < 4611686018427387904) : Cv 114 [.agg (eH a),.agg (eH b)] J (.bool (All a b)) := by
 refine Az Tryz.func114 rfl rfl fun hw hu0 => ?_
 refine Ac (Aa (Ar D2 rfl rfl rfl (Ar D2 rfl rfl rfl (OA rfl (Ab (Ac (Aa ?_)))))));refine O1 (Ad Fu rfl rfl) (O1 (Ae ld9 rfl rfl rfl) (O1 (Ad Fu rfl rfl) (O1 (Ae ld9 rfl rfl rfl) (O1 (I0 ok9 rfl rfl) (OM rfl ?_)))));refine Cy 5 _ ?_ rfl rfl rfl rfl rfl (Aw rfl) (fun hg => ?_) (fun hg => ?_) ?_
 rotate_left
 ·refine On hg (Ad I2 rfl rfl) (On hg (Ae ld4 rfl rfl rfl) (On hg (Ad I2 rfl rfl) (On hg (Ae ld4 rfl rfl rfl) (On hg (At7 bo4 rfl rfl) (Ab ?_)))));refine ⟨rfl,?_,?_⟩
  ·exact sb
  ·exact rfl
 ·refine Of hg (Of hg (Of hg (Of hg (Of hg (Ab ?_)))));exact ⟨rfl,sb⟩
 refine OM rfl ?_;refine Cy 5 _ ?_ rfl rfl rfl rfl rfl (Aw rfl) (fun hg => ?_) (fun hg => ?_) ?_
 rotate_left
 ·refine On hg (Ad C7 rfl rfl) (On hg (Ae Ce rfl rfl rfl) (On hg (Ad C7 rfl rfl) (On hg (Ae Ce rfl rfl rfl) (B5 rfl rfl rfl (by rw [hg]; rfl) rfl rfl rfl rfl (f148 a.text b.text _ hb) ?_))))
  refine Ab ?_;refine ⟨rfl,?_,?_⟩
  ·exact sb
  ·exact rfl
 ·refine Of hg (Of hg (Of hg (Of hg (Of hg (Ab ?_)))));exact ⟨rfl,sb⟩
 refine OA rfl (Ab ?_);refine An (Bq hw rfl ?_);exact rfl
theorem f147 (l : List Str) (J : Sto) (hb : l.length < 1000000) : Cv 147 [A3 l] J (A3 l) := by
 refine Az Tryz.func147 rfl rfl fun hw hu0 => ?_
 refine Ac (Aa (OA rfl (Ab (Ac (Ac (Aa (OM rfl ?_)))))));refine T9 Ee rfl rfl fun b hbn => ?_
 refine Ab ?_;refine Ah rfl ?_ ?_ <;> intro h1
 ·refine Ac (Aa (OA rfl (Ab ?_)));obtain rfl := be_ (hbn h1);refine An ?_;exact ⟨_,rfl,A3 [],J,ag_ hw nl (fun _ _ => rfl),nl,Ds,rfl,rfl⟩
 ·refine Ai (Ac (Aa ?_))
  obtain ⟨v,τ,c8,bn,ba,_⟩ := ej_ (enc := fun s : Str => [sV s]) (sz := 1) (l := ([] : List Str)) (by' := 16) (N := nx J) (fun s => rfl) nl (Own.emp (enc := fun s : Str => [sV s]) (sz := 1)) l (by simp [sizeLim]; omega)
  refine O1 (Bn Da byW rfl rfl rfl) (OM rfl (O1 (B0 Da rfl Ee rfl rfl rfl (Ue (enc := fun s : Str => [sV s]) (sz := 1) (fun _ => rfl) _ l) c8) ?_))
  refine OA rfl (Ab ?_);refine An ?_;exact ⟨_,rfl,A3 l,J,ap_ hw ba,nl,bn.fz (fun _ => rfl) (fun a ha => hw.none ha) (Co (fun _ => rfl) l),rfl,rfl⟩
theorem f144 (l : List Hp) (J : Sto) (hb : l.length < 1000000) : A6 Ew 144 [slV eH 3 l] J fun v J' => Own J' (nx J) eH 3 l v /\ Below (nx J) J J' := by
 refine Az Tryz.func144 rfl rfl fun hw hu0 => ?_
 refine Ac (Aa (OA rfl (Ab (Ac (Ac (Aa (OM rfl ?_)))))));refine T9 F3 rfl rfl fun b hbn => ?_
 refine Ab ?_;refine Ah rfl ?_ ?_ <;> intro h1
 ·refine Ac (Aa (OA rfl (Ab ?_)));obtain rfl := be_ (hbn h1);refine An ?_;exact ⟨_,rfl,_,J,ag_ hw nl (fun _ _ => rfl),nl,.same rfl,.nil,.rfl'⟩
 ·refine Ai (Ac (Aa ?_))
  obtain ⟨v,τ,c8,bn,ba,_⟩ := ej_ (enc := eH) (sz := 3) (l := ([] : List Hp)) (by' := 48) (N := nx J) (fun s => rfl) nl (Own.emp (enc := eH) (sz := 3)) l (by simp [sizeLim]; omega)
  refine O1 (Bn Ih byW rfl rfl rfl) (OM rfl (O1 (B0 Ih rfl F3 rfl rfl rfl (Ue (enc := eH) (sz := 3) (fun _ => rfl) _ l) c8) ?_))
  refine OA rfl (Ab ?_);refine Dp fun hw' => Ao1 (i := 2) rfl fun hu => ?_
  refine An ?_;exact ⟨_,rfl,_,_,ag_ hw' nl (fun _ _ => rfl),ba.1,.same hu,bn,ba⟩
theorem f184 (l : List Pr) (J : Sto) (hb : l.length < 1000000) : A6 Ew 184 [slV eP 2 l] J fun v J' => Own J' (nx J) eP 2 l v /\ Below (nx J) J J' := by
 refine Az Tryz.func184 rfl rfl fun hw hu0 => ?_
 refine Ac (Aa (OA rfl (Ab (Ac (Ac (Aa (OM rfl ?_)))))));refine T9 Aak rfl rfl fun b hbn => ?_
 refine Ab ?_;refine Ah rfl ?_ ?_ <;> intro h1
 ·refine Ac (Aa (OA rfl (Ab ?_)));obtain rfl := be_ (hbn h1);refine An ?_;exact ⟨_,rfl,_,J,ag_ hw nl (fun _ _ => rfl),nl,.same rfl,.nil,.rfl'⟩
 ·refine Ai (Ac (Aa ?_))
  obtain ⟨v,τ,c8,bn,ba,_⟩ := ej_ (enc := eP) (sz := 2) (l := ([] : List Pr)) (by' := 32) (N := nx J) (fun s => rfl) nl (Own.emp (enc := eP) (sz := 2)) l (by simp [sizeLim]; omega)
  refine O1 (Bn We byW rfl rfl rfl) (OM rfl (O1 (B0 We rfl Aak rfl rfl rfl (Ue (enc := eP) (sz := 2) (fun _ => rfl) _ l) c8) ?_))
  refine OA rfl (Ab ?_);refine Dp fun hw' => Ao1 (i := 2) rfl fun hu => ?_
  refine An ?_;exact ⟨_,rfl,_,_,ag_ hw' nl (fun _ _ => rfl),ba.1,.same hu,bn,ba⟩
end Go.AM
