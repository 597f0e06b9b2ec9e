/- A part of the proof; shortened by program. -/
import Derived.Test.YtcnkdbldfpaebaaGreatDoorP31
set_option maxRecDepth 100000
set_option maxHeartbeats 4000000
set_option linter.unusedSimpArgs false
set_option linter.unusedVariables false
namespace Go.AM
open Go Go.Proofs
def sumD (f : Nat) : Option (List AV -> Sto -> Res) := match Nat.beq f 101 with
 | true => some (Ji Arc Ard Are)
 | false => Anz f
noncomputable def ED : Env := { P := Tryz.prog,gl := glW,sum := sumD,dsum := fun _ => none,byref := fun _ => false,rg := rgA }
theorem recD (lf n : Nat) : Bc ED (H5 ED lf n) :=
 Jf (E := ED) (show Tryz.prog.follows .mixedOrders = true from A1) (fun l Rr h => Kl A1 h) (fun f fn h => Tx f fn h) (fun f s h => by
  have h : sumD f = some s := h;unfold sumD at h
  split at h
  ·rename_i hb
   cases h;have := aa_ hb;subst this;exact f1011.env rfl rfl rfl rfl
  ·exact N0 rfl rfl rfl rfl f s h) rfl (fun f d h => by cases h) lf n
end Go.AM
