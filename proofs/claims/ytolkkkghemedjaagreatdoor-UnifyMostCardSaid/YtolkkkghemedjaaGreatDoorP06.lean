/- A part of the proof; shortened by program. -/
import Derived.Test.YtolkkkghemedjaaGreatDoorP04
set_option maxRecDepth 100000
set_option maxHeartbeats 4000000
set_option linter.unusedSimpArgs false
set_option linter.unusedVariables false
namespace Go.AM
open Go Go.Proofs
noncomputable def E0 : Env := { P := Tryz.prog,gl := fun _ => none,sum := fun _ => none,dsum := fun _ => none,byref := fun _ => false }
theorem rec0 (lf n : Nat) : Be E0 (Jq E0 lf n) :=
 Ob (fun Rr h => Po (E := E0) (show Tryz.prog.follows .mixedOrders = true from E8) Rr h) (fun f fn h => Oh f fn h) (fun f s h => by cases h) rfl (fun f d h => by cases h) lf n
theorem Ev.widen {f : Nat} {g : List AV -> Sto -> Res} (h : Ev E0 f g) : Ev Ew f g := fun C w U args vs v U' hs hg ha hr => h C w U args vs v U' hs ⟨fun g cs hh => (by cases hh),fun c P hh => (by cases hh)⟩ ha hr
def Aox : Nat -> Nat -> List AV
 | 0,_ => []
 | n + 1,x => .int .u8 (.ofNat x) :: Aox n x
def Atc : List (Nat × Nat) := [(9,0),(2,1),(1,0),(2,1),(18,0),(1,1),(3,3),(1,4),(8,3),(2,2),(1,3),(10,2),(7,3),(26,2),(4,3),(1,2),(1,3),(26,2),(4,3),(129,0)]
def Ac2 : List (Nat × Nat) -> List AV
 | [] => []
 | (n,x) :: r => Aox n x ++ Ac2 r
def Ix : List AV := Ac2 Atc
theorem Atd : Af2 [] (Jq E0 1000 10 261 [] ⟨.e,0⟩) = some (.agg Ix,[]) := by kernel_rfl
theorem s261 : Ev Ew 261 (Akf [] (.agg Ix)) := (Af3 (rec0 1000 10) (fun _ => rfl) rfl (by kernel_rfl) Atd).widen
end Go.AM
