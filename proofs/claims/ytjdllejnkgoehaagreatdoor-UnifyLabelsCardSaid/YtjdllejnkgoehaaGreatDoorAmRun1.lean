/- The table of the letters' classes, made once. -/
import Derived.Test.YtjdllejnkgoehaaGreatDoorAmSeat
namespace Go.AM
open Go Go.Proofs

def bytes : Nat → Nat → List AV
  | 0, _ => []
  | n + 1, x => .int .u8 (.ofNat x) :: bytes n x
def table : List (Nat × Nat) := [(9, 0), (2, 1), (1, 0), (2, 1), (18, 0), (1, 1), (3, 3), (1, 4), (8, 3), (2, 2), (1, 3), (10, 2), (7, 3), (26, 2), (4, 3), (1, 2), (1, 3), (26, 2), (4, 3), (129, 0)]
def bytesAll : List (Nat × Nat) → List AV
  | [] => []
  | (n, x) :: r => bytes n x ++ bytesAll r
def v148 : AV := .agg (bytesAll table)

def ds59 (f : Nat) : Option (List AV → Sto → Option Sto) := match Nat.beq f 59 with | true => some d59 | false => none
noncomputable def E1 : Env := { P := Tryz.prog, gl := fun _ => none, sum := fun _ => none, dsum := ds59, byref := fun t => Nat.beq t 116 }

theorem run148 : relR [] (callA E1 1000 10 148 [] ⟨.e, 0⟩) = some (v148, []) := by kernel_rfl
theorem closed148 : v148.closed = true := by kernel_rfl

theorem ds59_sound {E : Env} (hP : E.P = Tryz.prog) (hd : E.dsum = ds59) (f : Nat) (d : List AV → Sto → Option Sto) (h : E.dsum f = some d) : DSound E f d := by
  rw [hd] at h
  unfold ds59 at h
  split at h
  · rename_i hb
    cases h
    have := Nat.eq_of_beq_eq_true hb
    subst this
    exact d59_sound hP
  · cases h
theorem ds59_mark : ds59 markN = none := by kernel_rfl

theorem rec_sound {E : Env} (hP : E.P = Tryz.prog) (hd : E.dsum = ds59) (hsum : ∀ f s, E.sum f = some s → FSound E f s) (lf n : Nat) : RecSound E (callA E lf n) :=
  callA_sound (fun Rr h => drawSound (by rw [hP]; exact hmixed) Rr h) (fun f fn h => hnum f fn (by rw [← hP]; exact h)) hsum (by rw [hd]; exact ds59_mark) (ds59_sound hP hd) lf n

theorem rec1 (lf n : Nat) : RecSound E1 (callA E1 lf n) := rec_sound rfl rfl (fun f s h => by cases h) lf n
theorem f148 : FSound E1 148 (memoC [] v148) := memoC_sound (rec1 1000 10) (fun _ => rfl) rfl closed148 run148
end Go.AM
