/- A part of the proof; shortened by program. -/
import Derived.Test.YtcnkdbldfpaebaaGreatDoorP14
set_option maxRecDepth 100000
set_option maxHeartbeats 4000000
set_option linter.unusedSimpArgs false
set_option linter.unusedVariables false
namespace Go.AM
open Go Go.Proofs
noncomputable def E0 : Env := { P := Tryz.prog,gl := fun _ => none,sum := fun _ => none,dsum := fun _ => none,byref := fun _ => false }
theorem rec0 (lf n : Nat) : Bc E0 (H5 E0 lf n) :=
 Jf (E := E0) (show Tryz.prog.follows .mixedOrders = true from A1) (fun l Rr h => Kl A1 h) (fun f fn h => Tx f fn h) (fun f s h => by cases h) rfl (fun f d h => by cases h) lf n
theorem Ck.widen {f : Nat} {g : List AV -> Sto -> Res} (h : Ck E0 f g) : Ck Ew f g := fun C w J args vs v J' hs hg ha hr => h C w J args vs v J' hs ⟨fun g cs hh => (by cases hh),fun c P hh => (by cases hh),fun L hL => (by cases hL)⟩ ha hr
def Apt : Nat -> Nat -> List AV
 | 0,_ => []
 | n + 1,x => .int .u8 (.ofNat x) :: Apt n x
def Aui : List (Nat × Nat) := [(9,0),(2,1),(1,0),(2,1),(18,0),(1,1),(3,3),(1,4),(8,3),(2,2),(1,3),(10,2),(7,3),(26,2),(4,3),(1,2),(1,3),(26,2),(4,3),(129,0)]
def Acs : List (Nat × Nat) -> List AV
 | [] => []
 | (n,x) :: r => Apt n x ++ Acs r
def Jq : List AV := Acs Aui
theorem Auj : Xz [] (H5 E0 1000 10 (.fn 180) [] ⟨.e,0⟩) = some (.agg Jq,[]) := by kernel_rfl
theorem s180 : Ck Ew 180 (Aoy [] (.agg Jq)) := (Agb (rec0 1000 10) (fun _ => rfl) rfl rfl (by kernel_rfl) Auj).widen
end Go.AM
