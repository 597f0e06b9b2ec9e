/- A part of the proof; shortened by program. -/
import Derived.Test.YtadnlmhnjfmleaaGreatDoorP32
set_option maxRecDepth 100000
set_option maxHeartbeats 4000000
set_option linter.unusedSimpArgs false
set_option linter.unusedVariables false
namespace Go.AM
open Go Go.Proofs
def sumC (f : Nat) : Option (List AV -> Sto -> Res) := match Nat.beq f 72 with
 | true => some (Fx a72 v72 o72)
 | false => match Nat.beq f 45 with
  | true => some s45
  | false => match Nat.beq f 63 with
   | true => some s63
   | false => none
noncomputable def EC : Env := { P := Tryz.prog,gl := glW,sum := sumC,dsum := fun _ => none,byref := fun _ => false,rg := rgA }
theorem recC (lf n : Nat) : Ao EC (Dy EC lf n) :=
 Ft (E := EC) (show Tryz.prog.follows .mixedOrders = true from Cu) (fun l Rr h => Il Cu h) (fun f fn h => L7 f fn h) (fun f s h => by
  have h : sumC f = some s := h;unfold sumC at h
  split at h
  ·rename_i hb
   cases h;have := aa_ hb;subst this;exact m72.env rfl rfl rfl rfl
  ·skip
   split at h
   ·rename_i hb
    cases h;have := aa_ hb;subst this;exact f45s.env rfl rfl rfl rfl
   ·skip
    split at h
    ·rename_i hb
     cases h;have := aa_ hb;subst this;exact f63s.env rfl rfl rfl rfl
    ·skip
     cases h
  ) rfl (fun f d h => by cases h) lf n
end Go.AM
