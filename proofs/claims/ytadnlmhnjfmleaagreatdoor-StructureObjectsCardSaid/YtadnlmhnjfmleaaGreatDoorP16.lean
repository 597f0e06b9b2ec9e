/- A part of the proof; shortened by program. -/
import Derived.Test.YtadnlmhnjfmleaaGreatDoorP13
set_option maxRecDepth 100000
set_option maxHeartbeats 4000000
set_option linter.unusedSimpArgs false
set_option linter.unusedVariables false
namespace Go.AM
open Go Go.Proofs
noncomputable def E0 : Env := { P := Tryz.prog,gl := fun _ => none,sum := fun _ => none,dsum := fun _ => none,byref := fun _ => false }
theorem rec0 (lf n : Nat) : Ao E0 (Dy E0 lf n) :=
 Ft (E := E0) (show Tryz.prog.follows .mixedOrders = true from Cu) (fun l Rr h => Il Cu h) (fun f fn h => L7 f fn h) (fun f s h => by cases h) rfl (fun f d h => by cases h) lf n
theorem A7.widen {f : Nat} {g : List AV -> Sto -> Res} (h : A7 E0 f g) : A7 Ew f g := fun C w J args vs v J' hs hg ha hr => h C w J args vs v J' hs ⟨fun g cs hh => (by cases hh),fun c P hh => (by cases hh),fun L hL => (by cases hL)⟩ ha hr
def Ao4 : Nat -> Nat -> List AV
 | 0,_ => []
 | n + 1,x => .int .u8 (.ofNat x) :: Ao4 n x
def Ata : List (Nat × Nat) := [(9,0),(2,1),(1,0),(2,1),(18,0),(1,1),(3,3),(1,4),(8,3),(2,2),(1,3),(10,2),(7,3),(26,2),(4,3),(1,2),(1,3),(26,2),(4,3),(129,0)]
def Ac8 : List (Nat × Nat) -> List AV
 | [] => []
 | (n,x) :: r => Ao4 n x ++ Ac8 r
def Ja : List AV := Ac8 Ata
theorem Atb : Sg [] (Dy E0 1000 10 (.fn 182) [] ⟨.e,0⟩) = some (.agg Ja,[]) := by kernel_rfl
theorem s182 : A7 Ew 182 (Lb [] (.agg Ja)) := (Ag0 (rec0 1000 10) (fun _ => rfl) rfl rfl (by kernel_rfl) Atb).widen
end Go.AM
