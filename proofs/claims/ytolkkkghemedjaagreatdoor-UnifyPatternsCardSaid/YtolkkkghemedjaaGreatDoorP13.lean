/- A part of the proof; shortened by program. -/
import Derived.Test.YtolkkkghemedjaaGreatDoorP07
import Derived.Test.YtolkkkghemedjaaGreatDoorP12
set_option maxRecDepth 100000
set_option linter.unusedSimpArgs false
set_option linter.unusedVariables false
namespace Go.AM
open Go Go.Proofs
noncomputable def sumC (f : Nat) : Option (List AV -> Sto -> Res) := match Nat.beq f 49 with
 | true => some (Aej [dbA] v49 o49)
 | false => sumB f
noncomputable def EC : Env := { P := Tryz.prog, gl := fun _ => none, sum := sumC, dsum := Ahx, byref := fun t => Nat.beq t 194 }
theorem recC (lf n : Nat) : Bc EC (I9 EC lf n) := Ru rfl rfl (fun f s h => by
 have h : sumC f = some s := h;unfold sumC at h
 split at h
 ·rename_i hb
  cases h;have := Nat.eq_of_beq_eq_true hb;subst this;exact f49s.env rfl rfl rfl
 ·exact Y8 rfl rfl rfl f s h) lf n
theorem run11 : Akc [] (I9 EC 1000 40 11 [] ⟨.e, 0⟩) = some (.bool true, []) := by kernel_rfl
theorem f11s : Em EC 11 (Va [] (.bool true)) := N5 (recC 1000 40) (fun _ => rfl) rfl rfl run11
theorem f11 (τ : Sto) : Ah Ew 11 [] τ fun v σ' => v = .bool true /\ σ' = τ :=
 Em.callTo (E := Ew) (g := Va [] (.bool true)) (fun C w σ args vs v σ' hs hg ha hr => f11s C w σ args vs v σ' hs ⟨fun g cs hh => (by cases hh), fun c P hh => (by cases hh)⟩ ha hr) rfl
end Go.AM
