/- The examples of the chapter hold, in whatever world: the call 'awake()' returns true and leaves what lay as it lay. -/
import Derived.Test.YtjdllejnkgoehaaGreatDoorAmRun3
namespace Go.AM
open Go Go.Proofs

/- 'awake' returns true, and leaves all that lay as it lay -/
theorem awake (w : World) : Enters Tryz.prog 4 ∧ Calls Tryz.prog 4 #[] w fun
    | .returned x, w' => x = .bool true ∧ w.heap.size ≤ w'.heap.size ∧ (∀ b, b < w.heap.size → w'.heap[b]? = w.heap[b]?) ∧ w'.os = w.os ∧ w'.output = w.output
    | _, _ => False := by
  let C : Ctx := ⟨fun _ => none, fun _ => 0, fun _ => False⟩
  have hs : Sim Tryz.prog C w ⟨.e, 0⟩ :=
    ⟨fun a O hg => (by simp [Sto.get, Tr.get] at hg), fun a O hg => (by simp [Sto.get, Tr.get] at hg), fun a p hp => (by cases hp), fun a b c o o' ha => (by cases ha), fun a c o ha => (by cases ha), fun b hb => False.elim hb, fun a c o ha => (by cases ha)⟩
  have hno : ∀ b, ¬ C.own b := fun b hb => hb.elim (fun h => h) fun ⟨a, o, h⟩ => by cases h
  obtain ⟨h1, h2⟩ := f4 C w ⟨.e, 0⟩ [] #[] (.bool true) ⟨.e, 0⟩ hs (fun g cs hg => (by cases hg)) (by unfold RL; trivial) rfl
  refine ⟨h1, h2.mono fun e w' he => ?_⟩
  cases e with
  | returned x =>
    obtain ⟨C', k1, k2, k3⟩ := he
    unfold R at k3
    exact ⟨k3, k2.size, fun b hb => (k2.keep b hb (hno b)).2, k2.os⟩
  | panicked _ => exact he.elim
  | outgrown => exact he.elim
end Go.AM
