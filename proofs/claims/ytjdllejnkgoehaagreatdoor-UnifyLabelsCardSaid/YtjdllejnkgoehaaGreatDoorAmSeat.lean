/- The program's own facts; the deferred function that catches what a walk panics with, where nothing panics. -/
import Derived.Recover
import Derived.KernelRfl
import Derived.Eval
import Derived.Test.YtjdllejnkgoehaaGreatDoorChecked
import Derived.Test.YtjdllejnkgoehaaGreatDoorAmA8
namespace Go.AM
open Go Go.Proofs

theorem hmixed : Tryz.prog.follows .mixedOrders = true := by kernel_rfl

def plainName (fn : Func) : Bool := !(fn.name == "runtime.NumGoroutine")
theorem names_plain : Tryz.prog.funcs.toList.all plainName = true := by kernel_rfl
theorem hnum (f : Nat) (fn : Func) (h : Tryz.prog.funcs[f]? = some fn) : (fn.name == "runtime.NumGoroutine") = false := by
  have h1 : fn ∈ Tryz.prog.funcs.toList := by
    obtain ⟨h2, h3⟩ := Array.getElem?_eq_some_iff.1 h
    rw [← h3]; exact Array.getElem_mem_toList h2
  have := List.all_eq_true.1 names_plain fn h1
  simpa [plainName] using this

noncomputable def Ebase : Env := { P := Tryz.prog, gl := fun _ => none, sum := fun _ => none, dsum := fun _ => none, byref := fun t => Nat.beq t 116 }

/- ===== function 59 ===== -/
def d59 (args : List AV) (σ : Sto) : Option Sto := match args with | [_] => some σ | _ => none
def noRec : Rec := fun _ _ _ => none

def tm59 : Tr AV := Tr.put 7 .e 6 (some (.nil .nilIface))
def seqL : Code → Code | .seq a _ => a | c => c
def seqR : Code → Code | .seq _ b => b | c => c
def bodyOf (fn : Func) : Code := match fn.body with | some c => c | none => .skip
noncomputable def rest59 : Code := seqR (bodyOf Tryz.f59)
noncomputable def head59 : Code := seqL (bodyOf Tryz.f59)
theorem body59 : Tryz.f59.body = some (.seq head59 rest59) := by kernel_rfl
noncomputable def op59 : Oper := match head59 with | .region _ ops _ => ops.getD 0 default | _ => default
theorem head59_eq : head59 = .region 0 #[op59] false := by kernel_rfl
theorem op59_op : op59.op = .call { callee := .builtin .recover, args := #[], argTypes := #[] } := by kernel_rfl
theorem op59_dst : op59.dst = some 6 := by kernel_rfl
theorem op59_guard : op59.guard = none := by kernel_rfl

noncomputable def tm59' : Tr AV := match codeA Ebase 1 noRec rest59 ⟨tm59, 19, [], ⟨.e, 0⟩⟩ with
  | some [(_, s)] => s.tm
  | _ => .e
theorem run59 (σ : Sto) : codeA Ebase 1 noRec rest59 ⟨tm59, 19, [], σ⟩ = some [(.normal, ⟨tm59', 19, [], σ⟩)] := by kernel_rfl

theorem noRec_sound (E : Env) : RecSound E noRec := fun _ _ _ _ _ _ _ _ _ _ _ h => by cases h

theorem d59_sound {E : Env} (hP : E.P = Tryz.prog) : DSound E 59 d59 := by
  intro C w σ args vs σ' hs hg hargs h
  unfold d59 at h
  split at h
  · cases h
    have hlen := hargs.length
    have hsz : vs.size = 1 := by simpa using hlen.symm
    have hf : E.P.funcs[59]? = some Tryz.f59 := by rw [hP]; exact Tryz.func59
    refine ⟨⟨_, hf, by kernel_rfl, by kernel_rfl⟩, ?_⟩
    refine callsD_of_wpS hf body59 fun c₀ cs hu => ?_
    refine wpS_seq ?_
    rw [head59_eq]
    refine wpS_region ?_
    have hrange : List.range (#[op59] : Array Oper).size = [0] := rfl
    have hw : Region.wanted op59 (yielded #[op59] (vs ++ Array.replicate (Tryz.f59.ntmps - vs.size) undef)) = true := by
      unfold Region.wanted; rw [op59_guard]
    have hx : (execOp ({ tmps := vs ++ Array.replicate (Tryz.f59.ntmps - vs.size) undef, defers := [] } : Act).eval op59).run E.P w = .ok .recover w := by
      unfold execOp
      rw [op59_op]
      simp [resolve, go_sem, invoke, builtin]
    have hrd : recoverD (c₀ :: cs) = none := by simp [recoverD, hu]
    rw [hrange]
    simp only [wpOpsS]
    have h0 : (#[op59] : Array Oper)[0]? = some op59 := rfl
    simp only [h0, hw, if_true, hx, hrd]
    rw [op59_dst]
    have hn : Tryz.f59.ntmps = 19 := by kernel_rfl
    have hres : Tryz.f59.results = #[] := by kernel_rfl
    have st : SSt { Ebase with P := E.P } C w ⟨tm59, 19, [], σ⟩ (({ tmps := vs ++ Array.replicate (Tryz.f59.ntmps - vs.size) undef, defers := [] } : Act).put (some 6) .nilIface) := by
      refine ⟨hs, fun g cs hg => (by cases hg), fun i v hv => ?_, ?_, ?_⟩
      · simp only [tm59, Tr.get_put] at hv
        split at hv
        · rename_i hi
          cases hv; subst hi
          simp only [Act.put]
          have : ((vs ++ Array.replicate (Tryz.f59.ntmps - vs.size) undef).setIfInBounds 6 Value.nilIface).getD 6 undef = .nilIface := by
            rw [Array.getD_eq_getD_getElem?, Array.getElem?_setIfInBounds_self]
            simp [hsz, hn]
          rw [this]
          unfold R; exact ⟨rfl, rfl⟩
        · simp [Tr.get] at hv
      · simp [Act.put, hsz, hn]
      · simp only [Act.put]; unfold DR; trivial
    have hcode := codeA_sound (noRec_sound { Ebase with P := E.P }) (drawSound (by show E.P.follows _ = _; rw [hP]; exact hmixed) noRec (noRec_sound _)) 1 rest59 C w _ _ _ st (by rw [hP]; exact run59 σ)
    refine wpS_of_wp (wp_mono hcode fun e a' w' hq => ?_)
    obtain ⟨y, hy, C', hye, hst, hext⟩ := hq
    rw [List.mem_singleton] at hy
    subst hy
    subst hye
    have hds : a'.defers = [] := by
      have hd := hst.dfs
      cases hds : a'.defers with
      | nil => rfl
      | cons d ds => rw [hds] at hd; unfold DR at hd; exact hd.elim
    obtain ⟨x, k1, k2⟩ := results_sound (fn := Tryz.f59) hst.sim hst.tmps (vs := []) (by rw [hres]; rfl)
    exact ⟨hds, .returning, by rw [← hu], x, k1, rfl, C', hst.sim, hext⟩
  · cases h
end Go.AM
