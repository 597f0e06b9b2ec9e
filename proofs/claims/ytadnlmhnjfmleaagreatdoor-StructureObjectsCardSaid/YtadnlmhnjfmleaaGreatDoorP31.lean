/- A part of the proof; shortened by program. -/
import Derived.Test.YtadnlmhnjfmleaaGreatDoorP30
set_option maxRecDepth 100000
set_option maxHeartbeats 4000000
set_option linter.unusedSimpArgs false
set_option linter.unusedVariables false
namespace Go.AM
open Go Go.Proofs
def sumD (f : Nat) : Option (List AV -> Sto -> Res) := match Nat.beq f 89 with
 | true => some (Fx a89 v89 o89)
 | false => match Nat.beq f 45 with
  | true => some s45
  | false => match Nat.beq f 63 with
   | true => some s63
   | false => none
noncomputable def ED : Env := { P := Tryz.prog,gl := glW,sum := sumD,dsum := fun _ => none,byref := fun _ => false,rg := rgA }
theorem recD (lf n : Nat) : Ao ED (Dy ED lf n) :=
 Ft (E := ED) (show Tryz.prog.follows .mixedOrders = true from Cu) (fun l Rr h => Il Cu h) (fun f fn h => L7 f fn h) (fun f s h => by
  have h : sumD f = some s := h;unfold sumD at h
  split at h
  ·rename_i hb
   cases h;have := aa_ hb;subst this;exact m89.env rfl rfl rfl rfl
  ·skip
   split at h
   ·rename_i hb
    cases h;have := aa_ hb;subst this;exact f45s.env rfl rfl rfl rfl
   ·skip
    split at h
    ·rename_i hb
     cases h;have := aa_ hb;subst this;exact f63s.env rfl rfl rfl rfl
    ·skip
     cases h
  ) rfl (fun f d h => by cases h) lf n
end Go.AM
