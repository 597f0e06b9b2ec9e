/- A part of the proof; shortened by program. -/
import Derived.Test.YtolkkkghemedjaaGreatDoorP10
set_option maxRecDepth 100000
set_option maxHeartbeats 4000000
set_option linter.unusedSimpArgs false
set_option linter.unusedVariables false
namespace Go.AM
open Go Go.Proofs
def sumC (f : Nat) : Option (List AV -> Sto -> Res) := match Nat.beq f 49 with
 | true => some (S9 [dbA] v49 o49)
 | false => sumB f
noncomputable def EC : Env := { P := Tryz.prog,gl := glW,sum := sumC,dsum := Ana,byref := fun t => Nat.beq t 194,hold := Zc }
theorem recC (lf n : Nat) : Be EC (Jq EC lf n) := Aal rfl rfl (fun f s h => by
 have h : sumC f = some s := h;unfold sumC at h
 split at h
 ·rename_i hb
  cases h;have := ac_ hb;subst this;exact f49s.env rfl rfl rfl
 ·exact Aan rfl rfl rfl f s h) lf n
theorem run11 : Af2 [] (Jq EC 1000 40 11 [] ⟨.e,0⟩) = some (.bool true,[]) := Kr
theorem f11s : Ev EC 11 (S9 [] (.bool true) []) := Ac5 (recC 1000 40) Ac6 rfl gc_ run11
theorem f11 (τ : Sto) : Cv 11 [] τ (.bool true) :=
 Ev.callTo (E := Ew) (g := S9 [] (.bool true) []) (f11s.env rfl rfl rfl) rfl
end Go.AM
