/- A part of the proof; shortened by program. -/
import Derived.Test.YtolkkkghemedjaaGreatDoorP05
set_option maxRecDepth 100000
set_option linter.unusedSimpArgs false
set_option linter.unusedVariables false
namespace Go.AM
open Go Go.Proofs
noncomputable def E0 : Env := { P := Tryz.prog, gl := fun _ => none, sum := fun _ => none, dsum := fun _ => none, byref := fun _ => false }
theorem rec0 (lf n : Nat) : Bc E0 (I9 E0 lf n) :=
 N2 (fun Rr h => L1 (E := E0) (show Tryz.prog.follows .mixedOrders = true from A5) Rr h) (fun f fn h => S8 f fn h) (fun f s h => by cases h) rfl (fun f d h => by cases h) lf n
theorem Em.widen {f : Nat} {g : List AV -> Sto -> Res} (h : Em E0 f g) : Em Ew f g := fun C w σ args vs v σ' hs hg ha hr => h C w σ args vs v σ' hs ⟨fun g cs hh => (by cases hh), fun c P hh => (by cases hh)⟩ ha hr
def Am2 : Nat -> Nat -> List AV
 | 0, _ => []
 | n + 1, x => .int .u8 (.ofNat x) :: Am2 n x
def Aq5 : List (Nat × Nat) := [(9, 0), (2, 1), (1, 0), (2, 1), (18, 0), (1, 1), (3, 3), (1, 4), (8, 3), (2, 2), (1, 3), (10, 2), (7, 3), (26, 2), (4, 3), (1, 2), (1, 3), (26, 2), (4, 3), (129, 0)]
def Aa3 : List (Nat × Nat) -> List AV
 | [] => []
 | (n, x) :: r => Am2 n x ++ Aa3 r
def G5 : List AV := Aa3 Aq5
theorem Am3 : Akc [] (I9 E0 1000 10 261 [] ⟨.e, 0⟩) = some (.agg G5, []) := by kernel_rfl
theorem s261 : Em Ew 261 (Va [] (.agg G5)) := (N5 (rec0 1000 10) (fun _ => rfl) rfl (by kernel_rfl) Am3).widen
end Go.AM
