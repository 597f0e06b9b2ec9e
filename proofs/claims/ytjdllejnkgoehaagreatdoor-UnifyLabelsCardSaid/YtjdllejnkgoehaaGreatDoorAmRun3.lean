/- The examples of the chapter hold, in whatever world. -/
import Derived.Test.YtjdllejnkgoehaaGreatDoorAmRun2
namespace Go.AM
open Go Go.Proofs

noncomputable def sum4 (f : Nat) : Option (List AV → Sto → Res) := match Nat.beq f 20 with
  | true => some (memoG [db] v20 o20)
  | false => sum3 f
noncomputable def E4 : Env := { P := Tryz.prog, gl := fun _ => none, sum := sum4, dsum := ds59, byref := fun t => Nat.beq t 116 }
theorem rec4 (lf n : Nat) : RecSound E4 (callA E4 lf n) := rec_sound rfl rfl (fun f s h => by
  have h : sum4 f = some s := h
  unfold sum4 at h
  split at h
  · rename_i hb
    cases h
    have := Nat.eq_of_beq_eq_true hb
    subst this
    exact f20.env rfl rfl
  · exact sum3_sound rfl rfl f s h) lf n

theorem run4 : relR [] (callA E4 1000 40 4 [] ⟨.e, 0⟩) = some (.bool true, []) := by kernel_rfl
theorem f4 : FSound E4 4 (memoC [] (.bool true)) := memoC_sound (rec4 1000 40) (fun _ => rfl) rfl rfl run4

end Go.AM
