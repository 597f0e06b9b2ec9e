/- A part of the proof; shortened by program. -/
import Derived.Test.YtcnkdbldfpaebaaGreatDoorP36
import Derived.Test.YtcnkdbldfpaebaaGreatDoorP37
set_option maxRecDepth 100000
set_option maxHeartbeats 4000000
set_option linter.unusedSimpArgs false
set_option linter.unusedVariables false
namespace Go.AM
open Go Go.Proofs
def sumF (f : Nat) : Option (List AV -> Sto -> Res) := match Nat.beq f 21 with
 | true => some (Ji a21 v21 o21)
 | false => match Nat.beq f 23 with
  | true => some (Ji a23 v23 o23)
  | false => Anz f
noncomputable def EF : Env := { P := Tryz.prog,gl := glW,sum := sumF,dsum := fun _ => none,byref := fun _ => false,rg := rgA }
theorem recF (lf n : Nat) : Bc EF (H5 EF lf n) :=
 Jf (E := EF) (show Tryz.prog.follows .mixedOrders = true from A1) (fun l Rr h => Kl A1 h) (fun f fn h => Tx f fn h) (fun f s h => by
  have h : sumF f = some s := h;unfold sumF at h
  split at h
  ·rename_i hb
   cases h;have := aa_ hb;subst this;exact f21.env rfl rfl rfl rfl
  ·split at h
   ·rename_i hb
    cases h;have := aa_ hb;subst this;exact f23.env rfl rfl rfl rfl
   ·exact N0 rfl rfl rfl rfl f s h) rfl (fun f d h => by cases h) lf n
theorem run7 : Xz [] (H5 EF 1000 100 (.fn 7) [] ⟨.e,0⟩) = some (.bool true,[]) := Kr
theorem f7s : Ck EF 7 (Ji [] (.bool true) []) := Km (recF 1000 100) (fun g cs h => Ko g cs h) rfl rfl fd_ run7
theorem f7 (τ : Sto) : Cv 7 [] τ (.bool true) :=
 Ck.callTo (E := Ew) (g := Ji [] (.bool true) []) (f7s.env rfl rfl rfl rfl) rfl
end Go.AM
