/- A part of the proof; shortened by program. -/
import Derived.Test.YtcnkdbldfpaebaaGreatDoorP33
import Derived.Test.YtcnkdbldfpaebaaGreatDoorP34
set_option maxRecDepth 100000
set_option maxHeartbeats 4000000
set_option linter.unusedSimpArgs false
set_option linter.unusedVariables false
namespace Go.AM
open Go Go.Proofs
def s87 (args : List AV) (J : Sto) : Res := match AV.beqs args a871 with
 | true => Ji a871 v871 o871 args J
 | false => Ji a872 v872 o872 args J
theorem f87s : Ck EB 87 s87 := fun C w J args vs v J' hs hg ha h => by
 unfold s87 at h
 split at h
 ·exact f871.env (E' := EB) rfl rfl rfl rfl C w J args vs v J' hs hg ha h
 ·exact f872 C w J args vs v J' hs hg ha h
def sumC (f : Nat) : Option (List AV -> Sto -> Res) := match Nat.beq f 87 with
 | true => some s87
 | false => Anz f
noncomputable def EC : Env := { P := Tryz.prog,gl := glW,sum := sumC,dsum := fun _ => none,byref := fun _ => false,rg := rgA }
theorem recC (lf n : Nat) : Bc EC (H5 EC lf n) :=
 Jf (E := EC) (show Tryz.prog.follows .mixedOrders = true from A1) (fun l Rr h => Kl A1 h) (fun f fn h => Tx f fn h) (fun f s h => by
  have h : sumC f = some s := h;unfold sumC at h
  split at h
  ·rename_i hb
   cases h;have := aa_ hb;subst this;exact f87s.env rfl rfl rfl rfl
  ·exact N0 rfl rfl rfl rfl f s h) rfl (fun f d h => by cases h) lf n
end Go.AM
