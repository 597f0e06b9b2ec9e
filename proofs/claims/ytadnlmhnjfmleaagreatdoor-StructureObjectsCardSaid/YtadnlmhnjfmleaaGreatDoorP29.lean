/- A part of the proof; shortened by program. -/
import Derived.ProofKit
import Derived.Carry
import Derived.Test.YtadnlmhnjfmleaaGreatDoorP28
set_option maxRecDepth 100000
set_option maxHeartbeats 4000000
set_option linter.unusedSimpArgs false
set_option linter.unusedVariables false
namespace Go.AM
open Go Go.Proofs Go.Proofs.YtadnlmhnjfmleaaGreatDoor Go.ChangeShapes Go.WideShapes Go.ChangeAt Go.WideMaps Go.WideElems Go.RowKit
section
variable {H : Type} {eh : TypeId × Value -> H} {w : World}
set_option maxRecDepth 1000000 in
theorem Abc {t k base : Nat} {fl : List (TypeId × Nat × Nat)} {v : Value} (hf : Gm t = some fl) (hk : Tryz.prog.cellsOf t = k) (hv : Value.okWide Tryz.prog w .any base t v) : ∃ cs : Array Value,v = .agg cs /\ cs.toList.length = k := by
 unfold Gm at hf
 split at hf
 ·rename_i fs ht
  unfold Value.okWide at hv;rw [ht] at hv;obtain ⟨cs,h1,h2,_⟩ := hv
  exact ⟨cs,h1,by rw [← hk,← h2]; simp⟩
 ·cases hf
theorem ct25 : Tryz.prog.cellsOf 25 = 3 := Kr
theorem ct29 : Tryz.prog.cellsOf 29 = 3 := Kr
set_option maxRecDepth 1000000 in
theorem Abd {t e base : Nat} {v : Value} (ht : Tryz.prog.underlying t = some (.slice e)) (hv : Value.okWide Tryz.prog w .any base t v) : v.cells = #[v] := by
 obtain ⟨a,l,c,rfl⟩ := okWide_slice (P := Tryz.prog) (e := e) ht hv
 rfl
set_option maxRecDepth 1000000 in
theorem Aqo {base : Nat} {v0 v1 v2 v3 v4 : Value} {d0 d1 d2 d3 d4 : DataW H} {p0 p1 p2 p3 p4 : List MemPlace} {ts : List TypeId} {gs : List (DataW H)} (hv0 : Value.okWide Tryz.prog w .any base 25 v0) (hv1 : Value.okWide Tryz.prog w .any base 29 v1) (hv2 : Value.okWide Tryz.prog w .any base 32 v2) (hv3 : Value.okWide Tryz.prog w .any base 33 v3) (hv4 : Value.okWide Tryz.prog w .any base 34 v4)
  (h0 : DataW.Trod eh Tryz.prog w 0 (fun _ => true) true 25 v0 d0 p0) (h1 : DataW.Trod eh Tryz.prog w 0 (fun _ => true) true 29 v1 d1 p1) (h2 : DataW.Trod eh Tryz.prog w 0 (fun _ => true) true 32 v2 d2 p2) (h3 : DataW.Trod eh Tryz.prog w 0 (fun _ => true) true 33 v3 d3 p3) (h4 : DataW.Trod eh Tryz.prog w 0 (fun _ => true) true 34 v4 d4 p4)
  (hw : (DataW.weightsEach Tryz.prog ([25,29,32,33,34] ++ ts) ([d0,d1,d2,d3,d4] ++ gs)).all (· <= reachBytes) = true) : ∃ (d : Db) (s : Stc) (t : As) (l : List Mg) (els : List Int),RL C0 0 w [dbV d,P6 s,Bp t,slV eMg 3 l,slV eI 1 els] [v0,v1,v2,v3,v4] := by
 have hw' : ∀ (j : Nat) (t : TypeId) (d : DataW H),([25,29,32,33,34] ++ ts)[j]? = some t -> ([d0,d1,d2,d3,d4] ++ gs)[j]? = some d -> ∀ b ∈ d.weights Tryz.prog t,b <= reachBytes := fun j t d ht hd b hb => by
  have := br_.1 hw b (DataW.weights_mem_each ht hd b hb)
  simpa using this
 obtain ⟨c0,rfl,l0⟩ := Abc fl25 ct25 hv0;obtain ⟨c1,rfl,l1⟩ := Abc fl29 ct29 hv1;obtain ⟨c2,rfl,l2⟩ := Abc fl32 ct32 hv2;have e3 := Abd ut33 hv3;have e4 := Abd ut34 hv4;obtain ⟨n0,h0⟩ := h0;obtain ⟨n1,h1⟩ := h1;obtain ⟨n2,h2⟩ := h2;obtain ⟨n3,h3⟩ := h3;obtain ⟨n4,h4⟩ := h4;rw [e3] at h3;rw [e4] at h4;obtain ⟨_,⟨d,_,rfl⟩,r0,o0⟩ := rd_db c0.toList _ h0 l0 (hw' 0 25 d0 rfl rfl);obtain ⟨_,⟨s,_,rfl⟩,r1,o1⟩ := At0 c1.toList _ h1 l1 (hw' 1 29 d1 rfl rfl);obtain ⟨_,⟨t,_,rfl⟩,r2,o2⟩ := Alz n2 c2.toList _ h2 l2 (hw' 2 32 d2 rfl rfl);obtain ⟨_,⟨l,_,rfl⟩,r3,o3⟩ := Atz [v3] _ h3 rfl (hw' 3 33 d3 rfl rfl);obtain ⟨_,⟨els,_,rfl⟩,r4,o4⟩ := Aft [v4] _ h4 rfl (hw' 4 34 d4 rfl rfl);refine ⟨d,s,t,l,els,?_⟩;unfold RL
 refine ⟨by unfold dbV R; exact ⟨c0,rfl,r0,o0⟩,?_⟩
 unfold RL
 refine ⟨by unfold P6 R; exact ⟨c1,rfl,r1,o1⟩,?_⟩
 unfold RL
 refine ⟨by unfold Bp R; exact ⟨c2,rfl,r2,o2⟩,?_⟩
 have r3' := r3;unfold RL at r3';unfold RL;exact ⟨r3'.1,r4⟩
end
end Go.AM
