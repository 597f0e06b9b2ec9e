/- A part of the proof; shortened by program. -/
import Derived.ProofKit
import Derived.Carry
import Derived.Test.YtolkkkghemedjaaGreatDoorP15
set_option maxRecDepth 100000
set_option linter.unusedSimpArgs false
set_option linter.unusedVariables false
namespace Go.AM
open Go Go.Proofs Go.Proofs.YtolkkkghemedjaaGreatDoor Go.ChangeShapes Go.WideShapes Go.ChangeAt Go.WideMaps Go.WideElems Go.RowKit
section
variable {H : Type} {eh : TypeId × Value -> H} {w : World}
set_option maxRecDepth 1000000 in
theorem Zd {t k base : Nat} {fl : List (TypeId × Nat × Nat)} {v : Value} (hf : I8 t = some fl) (hk : Tryz.prog.cellsOf t = k) (hv : Value.okWide Tryz.prog w .any base t v) : ∃ cs : Array Value, v = .agg cs /\ cs.toList.length = k := by
 unfold I8 at hf
 split at hf
 ·rename_i fs ht
  unfold Value.okWide at hv;rw [ht] at hv;obtain ⟨cs, h1, h2, _⟩ := hv
  exact ⟨cs, h1, by rw [← hk, ← h2]; simp⟩
 ·cases hf
theorem ct25 : Tryz.prog.cellsOf 25 = 3 := by kernel_rfl
set_option maxRecDepth 1000000 in
theorem Apr {base : Nat} {v0 v1 v2 : Value} {d0 d1 d2 : DataW H} {p0 p1 p2 : List MemPlace} {ts : List TypeId} {gs : List (DataW H)} (hv0 : Value.okWide Tryz.prog w .any base 25 v0) (hv1 : Value.okWide Tryz.prog w .any base 28 v1) (hv2 : Value.okWide Tryz.prog w .any base 28 v2)
  (h0 : DataW.Trod eh Tryz.prog w 0 (fun _ => true) true 25 v0 d0 p0) (h1 : DataW.Trod eh Tryz.prog w 0 (fun _ => true) true 28 v1 d1 p1) (h2 : DataW.Trod eh Tryz.prog w 0 (fun _ => true) true 28 v2 d2 p2)
  (hw : (DataW.weightsEach Tryz.prog ([25, 28, 28] ++ ts) ([d0, d1, d2] ++ gs)).all (· <= reachBytes) = true) : ∃ (d : Db) (p t : Ay), G7 p /\ G7 t /\ RL C0 0 w [dbV d, A4 p, A4 t] [v0, v1, v2] := by
 have hw' : ∀ (j : Nat) (t : TypeId) (d : DataW H), ([25, 28, 28] ++ ts)[j]? = some t -> ([d0, d1, d2] ++ gs)[j]? = some d -> ∀ b ∈ d.weights Tryz.prog t, b <= reachBytes := fun j t d ht hd b hb => by
  have := List.all_eq_true.1 hw b (DataW.weights_mem_each ht hd b hb)
  simpa using this
 obtain ⟨c0, rfl, l0⟩ := Zd fl25 ct25 hv0;obtain ⟨c1, rfl, l1⟩ := Zd fl28 ct28 hv1;obtain ⟨c2, rfl, l2⟩ := Zd fl28 ct28 hv2;obtain ⟨n0, h0⟩ := h0;obtain ⟨n1, h1⟩ := h1;obtain ⟨n2, h2⟩ := h2;obtain ⟨_, ⟨d, _, rfl⟩, r0, o0⟩ := rd_db c0.toList _ h0 l0 (hw' 0 25 d0 rfl rfl);obtain ⟨_, ⟨p, hp, rfl⟩, r1, o1⟩ := Adr n1 c1.toList _ h1 l1 (hw' 1 28 d1 rfl rfl);obtain ⟨_, ⟨t, ht, rfl⟩, r2, o2⟩ := Adr n2 c2.toList _ h2 l2 (hw' 2 28 d2 rfl rfl);refine ⟨d, p, t, hp, ht, ?_⟩;unfold RL
 refine ⟨by unfold dbV R; exact ⟨c0, rfl, r0, o0⟩, ?_⟩
 unfold RL
 refine ⟨by unfold A4 R; exact ⟨c1, rfl, r1, o1⟩, ?_⟩
 unfold RL
 exact ⟨by unfold A4 R; exact ⟨c2, rfl, r2, o2⟩, by unfold RL; trivial⟩
end
end Go.AM
