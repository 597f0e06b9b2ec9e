/- A part of the proof; shortened by program. -/
import Derived.Test.YtolkkkghemedjaaGreatDoorP06
set_option maxRecDepth 100000
set_option linter.unusedSimpArgs false
set_option linter.unusedVariables false
namespace Go.AM
open Go Go.Proofs
def d57 (args : List AV) (σ : Sto) : Option Sto := match args with | [_] => some σ | _ => none
theorem Alb {E : Env} (hP : E.P = Tryz.prog) : N1 E 57 d57 := by
 intro C w σ args vs σ' hs hg hargs h;unfold d57 at h
 split at h
 ·cases h;have hlen := hargs.length
  have hsz : vs.size = 1 := by simpa using hlen.symm
  have hf : E.P.funcs[57]? = some Tryz.f57 := by rw [hP]; exact Tryz.func57
  refine ⟨⟨_, hf, by kernel_rfl, by kernel_rfl⟩, ?_⟩
  refine callsD_of_wpS hf Ag6 fun c₀ cs hu => ?_
  refine wpS_seq ?_;rw [Aaz];refine wpS_region ?_;have hrange : List.range (#[Pl] : Array Oper).size = [0] := rfl
  have hw : Region.wanted Pl (yielded #[Pl] (vs ++ Array.replicate (Tryz.f57.ntmps - vs.size) undef)) = true := by
   unfold Region.wanted; rw [Yp]
  have hx : (execOp ({ tmps := vs ++ Array.replicate (Tryz.f57.ntmps - vs.size) undef, defers := [] } : Act).eval Pl).run E.P w = .ok .recover w := by
   unfold execOp;rw [Aiu]
   simp [resolve, go_sem, invoke, builtin]
  have hrd : recoverD (c₀ :: cs) = none := by simp [recoverD, hu]
  rw [hrange];simp only [wpOpsS];have h0 : (#[Pl] : Array Oper)[0]? = some Pl := rfl;simp only [h0, hw, if_true, hx, hrd];rw [Ae6]
  have hn : Tryz.f57.ntmps = 19 := by kernel_rfl
  have hres : Tryz.f57.results = #[] := by kernel_rfl
  have st : SSt { Ew with P := E.P, gl := fun _ => none, hold := fun _ => none } C w ⟨Ag4, 19, [], σ⟩ (({ tmps := vs ++ Array.replicate (Tryz.f57.ntmps - vs.size) undef, defers := [] } : Act).put (some 6) .nilIface) := by
   refine ⟨hs, ⟨fun g cs hg => (by cases hg), fun c P hh => (by cases hh)⟩, fun i v hv => ?_, ?_, ?_⟩
   ·simp only [Ag4, Tr.get_put] at hv
    split at hv
    ·rename_i hi
     cases hv; subst hi;simp only [Act.put]
     have : ((vs ++ Array.replicate (Tryz.f57.ntmps - vs.size) undef).setIfInBounds 6 Value.nilIface).getD 6 undef = .nilIface := by
      rw [Array.getD_eq_getD_getElem?, Array.getElem?_setIfInBounds_self]
      simp [hsz, hn]
     rw [this];unfold R; exact ⟨rfl, rfl⟩
    ·simp [Tr.get] at hv
   ·simp [Act.put, hsz, hn]
   ·simp only [Act.put]; unfold DR; trivial
  have hcode := K6 (Hz { Ew with P := E.P, gl := fun _ => none, hold := fun _ => none }) (L1 (by show E.P.follows _ = _; rw [hP]; exact A5) Lo (Hz _)) 1 Ui C w _ _ _ st (by rw [hP]; exact Aq0 σ)
  refine wpS_of_wp (wp_mono hcode fun e a' w' hq => ?_)
  obtain ⟨y, hy, C', hye, hst, hext⟩ := hq;rw [List.mem_singleton] at hy;subst hy;subst hye
  have hds : a'.defers = [] := by
   have hd := hst.dfs;cases hds : a'.defers with
   | nil => rfl
   | cons d ds => rw [hds] at hd; unfold DR at hd; exact hd.elim
  obtain ⟨x, k1, k2⟩ := Dd (fn := Tryz.f57) hst.sim hst.tmps (vs := []) (by rw [hres]; rfl)
  exact ⟨hds, .returning, by rw [← hu], x, k1, rfl, C', hst.sim, hext⟩
 ·cases h
def Ahx (f : Nat) : Option (List AV -> Sto -> Option Sto) := match Nat.beq f 57 with | true => some d57 | false => none
theorem Y7 {E : Env} (hP : E.P = Tryz.prog) (hd : E.dsum = Ahx) (f : Nat) (d : List AV -> Sto -> Option Sto) (h : E.dsum f = some d) : N1 E f d := by
 rw [hd] at h;unfold Ahx at h
 split at h
 ·rename_i hb
  cases h;have := Nat.eq_of_beq_eq_true hb;subst this;exact Alb hP
 ·cases h
theorem Abq : Ahx D6 = none := by kernel_rfl
theorem Ru {E : Env} (hP : E.P = Tryz.prog) (hd : E.dsum = Ahx) (hsum : ∀ f s, E.sum f = some s -> Em E f s) (lf n : Nat) : Bc E (I9 E lf n) :=
 N2 (fun Rr h => L1 (by rw [hP]; exact A5) Rr h) (fun f fn h => S8 f fn (by rw [← hP]; exact h)) hsum (by rw [hd]; exact Abq) (Y7 hP hd) lf n
theorem Aqh : Em E0 261 (Va [] (.agg G5)) := N5 (rec0 1000 10) (fun _ => rfl) rfl (by kernel_rfl) Am3
def sumA (f : Nat) : Option (List AV -> Sto -> Res) := match Nat.beq f 261 with | true => some (Va [] (.agg G5)) | false => none
noncomputable def EA : Env := { P := Tryz.prog, gl := fun _ => none, sum := sumA, dsum := Ahx, byref := fun t => Nat.beq t 194 }
theorem recA (lf n : Nat) : Bc EA (I9 EA lf n) := Ru rfl rfl (fun f s h => by
 have h : sumA f = some s := h;unfold sumA at h
 split at h
 ·rename_i hb
  cases h;have := Nat.eq_of_beq_eq_true hb;subst this;exact Aqh.env rfl rfl rfl
 ·cases h) lf n
noncomputable def s157 : List AV -> Sto -> Res := Amh EA 1000 (I9 EA 1000 30) Tryz.f157
theorem f157s : Em EA 157 s157 :=
 Ae3 (recA 1000 30) (L1 A5 _ (recA 1000 30)) S8 Abq (Y7 rfl rfl) 1000 157 Tryz.f157 Tryz.func157
noncomputable def sumB (f : Nat) : Option (List AV -> Sto -> Res) := match Nat.beq f 261 with
 | true => some (Va [] (.agg G5))
 | false => match Nat.beq f 157 with
  | true => some s157
  | false => none
noncomputable def EB : Env := { P := Tryz.prog, gl := fun _ => none, sum := sumB, dsum := Ahx, byref := fun t => Nat.beq t 194 }
theorem Y8 {E : Env} (hP : E.P = Tryz.prog) (hg : E.gl = fun _ => none) (hh : E.hold = fun _ => none) (f : Nat) (s : List AV -> Sto -> Res) (h : sumB f = some s) : Em E f s := by
 unfold sumB at h
 split at h
 ·rename_i hb
  cases h;have := Nat.eq_of_beq_eq_true hb;subst this;exact Aqh.env hP.symm hg.symm hh.symm
 ·split at h
  ·rename_i hb
   cases h;have := Nat.eq_of_beq_eq_true hb;subst this;exact f157s.env hP.symm hg.symm hh.symm
  ·cases h
theorem recB (lf n : Nat) : Bc EB (I9 EB lf n) := Ru rfl rfl (Y8 rfl rfl rfl) lf n
def dbA : AV := (.agg [(.sv [(.str [119, 102, 102]), (.str [124, 45]), (.str [40]), (.str [41]), (.str [45, 62]), (.str [45, 46])] 1 6 (some 6)), (.sv [(.str [112, 104]), (.str [112, 115]), (.str [99, 104])] 1 3 
 (some 3)), (.sv [(.str [119, 105]), (.bool false), (.sv [(.str [119, 112, 104]), (.bool true), (.sv [(.str [119, 102, 102]), (.str [112, 104])] 1 2 (some 2)), (.str [119, 112, 115]), (.bool true), 
 (.sv [(.str [119, 102, 102]), (.str [112, 115])] 1 2 (some 2))] 3 2 (some 2)), (.nil (.slice none 0 0)), (.sv [(.str [119, 102, 102]), (.str [40]), (.str [112, 104]), (.str [45, 62]), (.str [112, 
 115]), (.str [41])] 1 6 (some 6)), (.sv [(.str [119, 99, 104]), (.bool true), (.sv [(.str [119, 102, 102]), (.str [99, 104])] 1 2 (some 2))] 3 1 (some 1)), (.nil (.slice none 0 0)), (.nil (.slice none 
 0 0)), (.str [119, 110]), (.bool false), (.sv [(.str [119, 112, 104]), (.bool true), (.sv [(.str [119, 102, 102]), (.str [112, 104])] 1 2 (some 2))] 3 1 (some 1)), (.nil (.slice none 0 0)), (.sv 
 [(.str [119, 102, 102]), (.str [45, 46]), (.str [112, 104])] 1 3 (some 3)), (.sv [(.str [119, 112, 115]), (.bool true), (.sv [(.str [119, 102, 102]), (.str [112, 115])] 1 2 (some 2)), (.str [119, 99, 
 104]), (.bool true), (.sv [(.str [119, 102, 102]), (.str [99, 104])] 1 2 (some 2))] 3 2 (some 2)), (.nil (.slice none 0 0)), (.nil (.slice none 0 0)), (.str [97, 120, 45, 49]), (.bool false), (.sv 
 [(.str [119, 112, 104]), (.bool true), (.sv [(.str [119, 102, 102]), (.str [112, 104])] 1 2 (some 2)), (.str [119, 112, 115]), (.bool true), (.sv [(.str [119, 102, 102]), (.str [112, 115])] 1 2 (some 
 2))] 3 2 (some 2)), (.nil (.slice none 0 0)), (.sv [(.str [124, 45]), (.str [40]), (.str [112, 104]), (.str [45, 62]), (.str [40]), (.str [112, 115]), (.str [45, 62]), (.str [112, 104]), (.str [41]), 
 (.str [41])] 1 10 (some 10)), (.sv [(.str [119, 99, 104]), (.bool true), (.sv [(.str [119, 102, 102]), (.str [99, 104])] 1 2 (some 2))] 3 1 (some 1)), (.nil (.slice none 0 0)), (.nil (.slice none 0 
 0))] 8 3 (some 3))])
def v49 : AV := (.tup [(.agg [(.sr 0 0 1 1 none), (.sr 1 0 4 5 none), (.mp 2)]), (.int .i64 0)])
def o49 : List AO := [(.cells [(.str [119, 102, 102])]), (.cells [(.str [119, 112, 104]), (.str [119, 102, 102]), (.sv [(.str [112, 104]), (.str []), (.int .i64 0)] 3 1 (some 1)), (.bool true), (.str [119, 112, 115]), 
 (.str [119, 102, 102]), (.sv [(.str [112, 115]), (.str []), (.int .i64 0)] 3 1 (some 1)), (.bool true), (.str [119, 99, 104]), (.str [119, 102, 102]), (.sv [(.str [99, 104]), (.str []), (.int .i64 0)] 
 3 1 (some 1)), (.bool true), (.str [119, 105]), (.str [119, 102, 102]), (.sr 3 0 3 5 none), (.bool false), (.str [119, 110]), (.str [119, 102, 102]), (.sr 4 0 3 2 none), (.bool false)]), (.map 9 
 [((.str [119, 99, 104]), (.agg [(.str [119, 99, 104]), (.str [119, 102, 102]), (.sv [(.str [99, 104]), (.str []), (.int .i64 0)] 3 1 (some 1)), (.bool true)])), ((.str [119, 105]), (.agg [(.str [119, 
 105]), (.str [119, 102, 102]), (.sr 3 0 3 5 none), (.bool false)])), ((.str [119, 110]), (.agg [(.str [119, 110]), (.str [119, 102, 102]), (.sr 4 0 3 2 none), (.bool false)])), ((.str [119, 112, 
 104]), (.agg [(.str [119, 112, 104]), (.str [119, 102, 102]), (.sv [(.str [112, 104]), (.str []), (.int .i64 0)] 3 1 (some 1)), (.bool true)])), ((.str [119, 112, 115]), (.agg [(.str [119, 112, 115]), 
 (.str [119, 102, 102]), (.sv [(.str [112, 115]), (.str []), (.int .i64 0)] 3 1 (some 1)), (.bool true)]))] 5), (.cells [(.str [40]), (.str []), (.int .i64 0), (.str []), (.str [119, 102, 102]), (.int 
 .i64 0), (.str [45, 62]), (.str []), (.int .i64 0), (.str []), (.str [119, 102, 102]), (.int .i64 1), (.str [41]), (.str []), (.int .i64 0)]), (.cells [(.str [45, 46]), (.str []), (.int .i64 0), (.str 
 []), (.str [119, 102, 102]), (.int .i64 0)])]
theorem run49 : Akc [290, 324, 422, 310, 322] (I9 EB 1000 40 49 [dbA] ⟨.e, 0⟩) = some (v49, o49) := by kernel_rfl
theorem Ahy : AV.closeds [dbA] = true := by kernel_rfl
theorem f49s : Em EB 49 (Aej [dbA] v49 o49) := Xz (recB 1000 40) (fun _ => rfl) Ahy (by decide) run49
end Go.AM
