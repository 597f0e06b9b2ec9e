/- The law UnifyMost of apodixislaw18, its row and its tied card: for every database, two trees and substitution it returns true and leaves its arguments as they read. The card ties the listed variables of the library to the program's text; nothing else is assumed. -/
import Derived.Test.YtolkkkghemedjaaGreatDoorP15
import Derived.Test.YtolkkkghemedjaaGreatDoorP16
set_option maxRecDepth 100000
set_option maxHeartbeats 4000000
set_option linter.unusedSimpArgs false
set_option linter.unusedVariables false
namespace Go.Proofs.YtolkkkghemedjaaGreatDoor
open Go Go.AM Go.Proofs Go.ChangeShapes Go.WideShapes Go.ChangeAt Go.WideMaps Go.WideElems Go.RowKit
theorem own : ownKnob Tryz.prog.godebug = none := AM.Kr
theorem Aqh (os : Os) (args : Array Value) : laidMetH Tryz.prog Aar ((World.doorLaid Tryz.prog 400 os).forCall (fun _ _ => 0) ⟨#[],args,[]⟩).memory :=
 laidMetH_of_parts3 (fuel := 8) (laidMet_of_run' 8 AM.Kr AM.Kr) AM.Kr AM.Kr
def Anl : Value := .slice none 0 0
theorem Aqi : laidOutB Tryz.prog = true := Pa
theorem Alz {H : Type} {enc : TypeId × Value -> H} {t : TypeId} (hr : Tryz.prog.readableRec t = true) (qe : t < Tryz.prog.types.size) {W W' : World} {v : Value} {d : DataW H} {ps : List MemPlace}
  (h : DataW.Trod enc Tryz.prog W 0 (fun _ => true) true t v d ps) (hb : ∀ b,b < W.heap.size -> W'.heap[b]? = W.heap[b]?) (hlt : ∀ x ∈ ps,x.block < W.heap.size) :
  DataW.Trod enc Tryz.prog W' 0 (fun b => decide (b < W.heap.size)) true t v d ps :=
 WideElems.Trod_stays Aqi hr qe h (fun x hx => by
  have hx := hlt x hx;cases x with
  | cell b o => exact World.cell?_of_block (w := W) (hb b hx)
  | map b => exact hb b hx) (fun x hx => by simpa using hlt x hx)
theorem Aqj {W W' : World} (h1 : W'.os = W.os) (h2 : W'.output = W.output) (hb : ∀ b,b < W.heap.size -> W'.heap[b]? = W.heap[b]?) (may : MemPlace -> Prop) : W.keptBut W' may := by
 refine ⟨h1,h2,fun i hi => ?_⟩
 rw [hb i hi]
 split <;> simp_all
theorem lifted (os : Os) (started : os.Started) (H : Type) (enc : TypeId × Value -> H) :
  ReturnsInHanded {} Tryz.checked os 4 .any (fun w args => (Rows.unifyMostSpec.pre enc Tryz.prog Tryz.f4 [] false w args /\ laidMetH Tryz.prog Aar w) /\ sizedMet enc Tryz.prog Tryz.f4 (OpenSpec.ofChange Rows.unifyMostSpec) false w args)
   (Rows.unifyMostSpec.post enc Tryz.prog Tryz.f4 false true false false) := by
 refine returnsInHanded_of_change_and (C := Tryz.checked) (X := fun w _ => laidMetH Tryz.prog Aar w) (fun _ _ _ hh h => h.of_heap hh) own started AM.Kr Tryz.func4
  (ChangeSpec.witness_shaped (enc := enc) (C := Tryz.checked) (os := os) (X := fun w _ => laidMetH Tryz.prog Aar w) false (World.doorLaid Tryz.prog 400 os) #[.agg #[Anl,Anl,Anl],.agg #[.string ⟨#[]⟩,Anl],.agg #[.string ⟨#[]⟩,Anl],Anl] 8 rfl (World.shaped_of_RefB AM.Kr AM.Kr) AM.Kr AM.Kr AM.Kr (Aqh os _)) ?_
 intro W base args ds gs before ox hW _ hsz hL _;have ge : ∀ (j : Nat) t v,Tryz.f4.params[j]? = some t -> args[j]? = some v -> Value.okWide Tryz.prog W .any base t v := ox;have hW' := hW;obtain ⟨p,q,hA0,hV,rfl,hfz,hnd⟩ := hW;have hA : DataW.TrodAll enc Tryz.prog W 0 (fun _ => true) true Tryz.f4.params.toList args.toList ds p := hA0
 rw [Tryz.params4] at hA ge;obtain ⟨v0,v1,v2,v3,d0,d1,d2,d3,p0,p1,p2,p3,rfl,rfl,rfl,h0,h1,h2,h3⟩ := trodAll_four hA;obtain ⟨rfl,rfl⟩ := trodVars_none hV;have hlt := hW'.lt;rw [Tryz.params4] at hsz;obtain ⟨d,p,t,l,hp,ht,hl,hR⟩ := Aqg (ge 0 25 v0 rfl rfl) (ge 1 28 v1 rfl rfl) (ge 2 28 v2 rfl rfl) (ge 3 47 v3 rfl rfl) h0 h1 h2 h3 hsz;simp only [List.append_nil] at hW' hlt;refine (Ajs (most d p t l ⟨.e,0⟩ hp ht hl) (Arn hL) hR).mono fun e W' ⟨he,_,hb,ho,hu⟩ => ?_
 subst he
 have hl0 : ∀ x ∈ p0,x.block < W.heap.size := fun x hx => hlt x (by simp [hx])
 have hl1 : ∀ x ∈ p1,x.block < W.heap.size := fun x hx => hlt x (by simp [hx])
 have hl2 : ∀ x ∈ p2,x.block < W.heap.size := fun x hx => hlt x (by simp [hx])
 have hl3 : ∀ x ∈ p3,x.block < W.heap.size := fun x hx => hlt x (by simp [hx])
 refine ⟨_,rfl,_,_,_,[],p0 ++ (p1 ++ (p2 ++ p3)),[],hW',?_,?_,rfl,Aqj ho hu hb _,fun h => by cases h⟩
 ·exact trodAll_mk1 (shut_bool ut4 _)
 ·exact trodAll_mk4 (Alz AM.Kr (of_decide_eq_true AM.Kr) h0 hb hl0) (Alz AM.Kr (of_decide_eq_true AM.Kr) h1 hb hl1) (Alz AM.Kr (of_decide_eq_true AM.Kr) h2 hb hl2) (Alz AM.Kr (of_decide_eq_true AM.Kr) h3 hb hl3)
theorem Abw : Rows.UnifyMostSaid :=
 OpenClaim.holds_of_wide 4 Tryz.f4 rfl rfl rfl rfl rfl rfl rfl ⟨rfl,rfl,rfl,rfl,rfl⟩ rfl rfl rfl rfl rfl AM.Kr Tryz.func4 Aa9
  (of_decide_eq_true AM.Kr) (by unfold Func.isWrapper; first | (rw [if_pos (by decide +kernel)]; kernel_rfl) | (rw [if_neg (by decide +kernel)]; exact ⟨rfl,rfl⟩))
  (fun os started H enc _ => lifted os started H enc)
theorem unifyMost_card : Rows.UnifyMostCardSaid :=
 Claim7.holds_tied_plain_at .later [] [.data, .data, .data, .sentinel, .sentinel, .widerDeep] true (true, "85d5a25160d4d348237a3630ec1a1b8b183f2ecf1c1e09472d65101c2794144c") true
  Abw (fun _ h => by cases h) AM.Kr (fun _ h => by cases h) unifyMost_row_tie rfl ⟨rfl,rfl⟩ AM.Kr rfl
  (fun f fn hf hfn => by
   obtain rfl : f = 4 := Option.some.inj ((show Tryz.prog.funcNamed "apodixis/apodixislaw18.UnifyMost" = some 4 by kernel_rfl).symm.trans hf) |>.symm
   obtain rfl : fn = Tryz.f4 := (Option.some.inj (Tryz.func4.symm.trans hfn)).symm
   exact ⟨by kernel_rfl,fun j t ht => by
    rw [Tryz.params4] at ht
    have h3 : t = 25 ∨ t = 28 ∨ t = 47 := by
     rcases j with _ | _ | _ | _ | j
     ·left; simpa using ht.symm
     ·right; left; simpa using ht.symm
     ·right; left; simpa using ht.symm
     ·right; right; simpa using ht.symm
     ·simp at ht
    rcases h3 with rfl | rfl | rfl
    ·exact (show Tryz.prog.wantsStandIn 25 = false by kernel_rfl)
    ·exact (show Tryz.prog.wantsStandIn 28 = false by kernel_rfl)
    ·exact (show Tryz.prog.wantsStandIn 47 = false by kernel_rfl)⟩)
  AM.Kr
#print axioms unifyMost_card
end Go.Proofs.YtolkkkghemedjaaGreatDoor
