/- The law UnifyPatterns of apodixislaw18, its row and its tied card: for every database, pattern and tree it returns true and leaves its arguments as they read. The card ties the listed variables of the library to the text of the program; nothing else is assumed. -/
import Derived.Test.YtolkkkghemedjaaGreatDoorCards
import Derived.Test.YtolkkkghemedjaaGreatDoorTie
import Derived.Test.YtolkkkghemedjaaGreatDoorP16
import Derived.Test.YtolkkkghemedjaaGreatDoorP17
set_option maxRecDepth 100000
set_option linter.unusedSimpArgs false
set_option linter.unusedVariables false
namespace Go.Proofs.YtolkkkghemedjaaGreatDoor
open Go Go.AM Go.Proofs Go.ChangeShapes Go.WideShapes Go.ChangeAt Go.WideMaps Go.WideElems Go.RowKit
theorem own : ownKnob Tryz.prog.godebug = none := by kernel_rfl
theorem Aog (os : Os) (args : Array Value) : laidMetH Tryz.prog Zc ((World.doorLaid Tryz.prog 400 os).forCall (fun _ _ => 0) ⟨#[], args, []⟩).memory :=
 laidMetH_of_parts3 (fuel := 8) (laidMet_of_run' 8 (by kernel_rfl) (by kernel_rfl)) (by kernel_rfl) (by kernel_rfl)
def Aoh : Value := .slice none 0 0
theorem Aoi : laidOutB Tryz.prog = true := Kt
theorem Aoj {H : Type} {enc : TypeId × Value -> H} {t : TypeId} (hr : Tryz.prog.readableRec t = true) (hrow : t < Tryz.prog.types.size) {W W' : World} {v : Value} {d : DataW H} {ps : List MemPlace}
  (h : DataW.Trod enc Tryz.prog W 0 (fun _ => true) true t v d ps) (hb : ∀ b, b < W.heap.size -> W'.heap[b]? = W.heap[b]?) (hlt : ∀ x ∈ ps, x.block < W.heap.size) :
  DataW.Trod enc Tryz.prog W' 0 (fun b => decide (b < W.heap.size)) true t v d ps :=
 WideElems.Trod_stays Aoi hr hrow h (fun x hx => by
  have hx := hlt x hx;cases x with
  | cell b o => exact World.cell?_of_block (w := W) (hb b hx)
  | map b => exact hb b hx) (fun x hx => by simpa using hlt x hx)
theorem Aok {W W' : World} (h1 : W'.os = W.os) (h2 : W'.output = W.output) (hb : ∀ b, b < W.heap.size -> W'.heap[b]? = W.heap[b]?) (may : MemPlace -> Prop) : W.keptBut W' may := by
 refine ⟨h1, h2, fun i hi => ?_⟩
 rw [hb i hi]
 split <;> simp_all
theorem lifted (os : Os) (started : os.Started) (H : Type) (enc : TypeId × Value -> H) :
  ReturnsInHanded {} Tryz.checked os 3 .any (fun w args => (Rows.unifyPatternsSpec.pre enc Tryz.prog Tryz.f3 [] false w args /\ laidMetH Tryz.prog Zc w) /\ sizedMet enc Tryz.prog Tryz.f3 (OpenSpec.ofChange Rows.unifyPatternsSpec) false w args)
   (Rows.unifyPatternsSpec.post enc Tryz.prog Tryz.f3 false true false false) := by
 refine returnsInHanded_of_change_and (C := Tryz.checked) (X := fun w _ => laidMetH Tryz.prog Zc w) (fun _ _ _ hh h => h.of_heap hh) own started (by kernel_rfl) Tryz.func3
  (ChangeSpec.witness_shaped (enc := enc) (C := Tryz.checked) (os := os) (X := fun w _ => laidMetH Tryz.prog Zc w) false (World.doorLaid Tryz.prog 400 os) #[.agg #[Aoh, Aoh, Aoh], .agg #[.string ⟨#[]⟩, Aoh], .agg #[.string ⟨#[]⟩, Aoh]] 8 rfl (World.shaped_of_RefB (by kernel_rfl) (by kernel_rfl)) (by kernel_rfl) (by kernel_rfl) (by kernel_rfl) (Aog os _)) ?_
 intro W base args ds gs before hval0 hW _ hsz hL _;have hval : ∀ (j : Nat) t v, Tryz.f3.params[j]? = some t -> args[j]? = some v -> Value.okWide Tryz.prog W .any base t v := hval0;have hW' := hW;obtain ⟨p, q, hA0, hV, rfl, hfz, hnd⟩ := hW;have hA : DataW.TrodAll enc Tryz.prog W 0 (fun _ => true) true Tryz.f3.params.toList args.toList ds p := hA0
 rw [Tryz.params3] at hA hval;obtain ⟨v0, v1, v2, d0, d1, d2, p0, p1, p2, rfl, rfl, rfl, h0, h1, h2⟩ := trodAll_three hA;obtain ⟨rfl, rfl⟩ := trodVars_none hV;have hlt := hW'.lt;rw [Tryz.params3] at hsz;obtain ⟨d, p, t, hp, ht, hR⟩ := Apr (hval 0 25 v0 rfl rfl) (hval 1 28 v1 rfl rfl) (hval 2 28 v2 rfl rfl) h0 h1 h2 hsz;simp only [List.append_nil] at hW' hlt;refine (Ahz (An8 d p t ⟨.e, 0⟩ hp ht) (Apq hL) hR).mono fun e W' ⟨he, _, hb, ho, hu⟩ => ?_
 subst he
 have hl0 : ∀ x ∈ p0, x.block < W.heap.size := fun x hx => hlt x (by simp [hx])
 have hl1 : ∀ x ∈ p1, x.block < W.heap.size := fun x hx => hlt x (by simp [hx])
 have hl2 : ∀ x ∈ p2, x.block < W.heap.size := fun x hx => hlt x (by simp [hx])
 refine ⟨_, rfl, _, _, _, [], p0 ++ (p1 ++ p2), [], hW', ?_, ?_, rfl, Aok ho hu hb _, fun h => by cases h⟩
 ·exact trodAll_mk1 (shut_bool ut4 _)
 ·exact trodAll_mk3 (Aoj (by kernel_rfl) (of_decide_eq_true (by kernel_rfl)) h0 hb hl0) (Aoj (by kernel_rfl) (of_decide_eq_true (by kernel_rfl)) h1 hb hl1) (Aoj (by kernel_rfl) (of_decide_eq_true (by kernel_rfl)) h2 hb hl2)
theorem T4 : Rows.UnifyPatternsSaid :=
 OpenClaim.holds_of_wide 3 Tryz.f3 rfl rfl rfl rfl rfl rfl rfl ⟨rfl, rfl, rfl, rfl, rfl⟩ rfl rfl rfl rfl rfl (by kernel_rfl) Tryz.func3 R5
  (of_decide_eq_true (by kernel_rfl)) (by unfold Func.isWrapper; first | (rw [if_pos (by decide +kernel)]; kernel_rfl) | (rw [if_neg (by decide +kernel)]; exact ⟨rfl, rfl⟩))
  (fun os started H enc _ => lifted os started H enc)
theorem unifyPatterns_card : Rows.UnifyPatternsCardSaid :=
 Claim7.holds_tied_plain_at .later [] [.data, .data, .data, .sentinel, .sentinel, .widerDeep] true (true, "85d5a25160d4d348237a3630ec1a1b8b183f2ecf1c1e09472d65101c2794144c") true
  T4 (fun _ h => by cases h) (by kernel_rfl) (fun _ h => by cases h) unifyPatterns_row_tie rfl ⟨rfl, rfl⟩ (by kernel_rfl) rfl
  (fun f fn hf hfn => by
   obtain rfl : f = 3 := Option.some.inj ((show Tryz.prog.funcNamed "apodixis/apodixislaw18.UnifyPatterns" = some 3 by kernel_rfl).symm.trans hf) |>.symm
   obtain rfl : fn = Tryz.f3 := (Option.some.inj (Tryz.func3.symm.trans hfn)).symm
   exact ⟨by kernel_rfl, fun j t ht => by
    rw [Tryz.params3] at ht
    have h3 : t = 25 ∨ t = 28 := by
     rcases j with _ | _ | _ | j
     ·left; simpa using ht.symm
     ·right; simpa using ht.symm
     ·right; simpa using ht.symm
     ·simp at ht
    rcases h3 with rfl | rfl
    ·exact (show Tryz.prog.wantsStandIn 25 = false by kernel_rfl)
    ·exact (show Tryz.prog.wantsStandIn 28 = false by kernel_rfl)⟩)
  (by kernel_rfl)
#print axioms unifyPatterns_card
end Go.Proofs.YtolkkkghemedjaaGreatDoor
