/- A part of the proof; shortened by program. -/
import Derived.Test.YtadnlmhnjfmleaaGreatDoorP39
import Derived.Test.YtadnlmhnjfmleaaGreatDoorP40
import Derived.Test.YtadnlmhnjfmleaaGreatDoorP41
set_option maxRecDepth 100000
set_option maxHeartbeats 4000000
set_option linter.unusedSimpArgs false
set_option linter.unusedVariables false
namespace Go.AM
open Go Go.Proofs
def s26 (args : List AV) (J : Sto) : Res := match AV.beqs args a263 with
 | true => Fx a263 v263 o263 args J
 | false => match AV.beqs args a264 with
  | true => Fx a264 v264 o264 args J
  | false => Fx a265 v265 o265 args J
theorem m26 : A7 Ew 26 s26 := fun C w J args vs v J' hs hg ha h => by
 unfold s26 at h
 split at h
 ·exact (m263.env rfl rfl rfl rfl : A7 Ew 26 _) C w J args vs v J' hs hg ha h
 ·skip
  split at h
  ·exact (m264.env rfl rfl rfl rfl : A7 Ew 26 _) C w J args vs v J' hs hg ha h
  ·skip
   exact (m265.env rfl rfl rfl rfl : A7 Ew 26 _) C w J args vs v J' hs hg ha h
def sumH (f : Nat) : Option (List AV -> Sto -> Res) := match Nat.beq f 26 with
 | true => some s26
 | false => none
noncomputable def EH : Env := { P := Tryz.prog,gl := glW,sum := sumH,dsum := fun _ => none,byref := fun _ => false,rg := rgA }
theorem recH (lf n : Nat) : Ao EH (Dy EH lf n) :=
 Ft (E := EH) (show Tryz.prog.follows .mixedOrders = true from Cu) (fun l Rr h => Il Cu h) (fun f fn h => L7 f fn h) (fun f s h => by
  have h : sumH f = some s := h;unfold sumH at h
  split at h
  ·rename_i hb
   cases h;have := aa_ hb;subst this;exact m26.env rfl rfl rfl rfl
  ·skip
   cases h
  ) rfl (fun f d h => by cases h) lf n
theorem run9 : Sg [] (Dy EH 1000 100 (.fn 9) [] ⟨.e,0⟩) = some (.bool true,[]) := Kr
theorem m9 : A7 EH 9 (Fx [] (.bool true) []) := Gd (recH 1000 100) (fun g cs h => Do g cs h) rfl rfl et_ run9
theorem f9a (τ : Sto) : Cv 9 [] τ (.bool true) :=
 fh_ (E := Ew) (g := Fx [] (.bool true) []) (m9.env rfl rfl rfl rfl) rfl
end Go.AM
