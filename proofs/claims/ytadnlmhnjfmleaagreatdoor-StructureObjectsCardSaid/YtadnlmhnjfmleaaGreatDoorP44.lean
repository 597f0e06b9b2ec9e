/- The law StructureObjects of apodixislaw36, its row and its tied card: for every database, structure, tree, meanings and elements it returns true and leaves its arguments as they read. The card ties the listed variable of the library to the program's text; nothing else is assumed. -/
import Derived.Test.YtadnlmhnjfmleaaGreatDoorCards
import Derived.Test.YtadnlmhnjfmleaaGreatDoorTie
import Derived.Test.YtadnlmhnjfmleaaGreatDoorP29
import Derived.Test.YtadnlmhnjfmleaaGreatDoorP42
import Derived.Test.YtadnlmhnjfmleaaGreatDoorP43
set_option maxRecDepth 100000
set_option maxHeartbeats 4000000
set_option linter.unusedSimpArgs false
set_option linter.unusedVariables false
namespace Go.Proofs.YtadnlmhnjfmleaaGreatDoor
open Go Go.AM Go.Proofs Go.ChangeShapes Go.WideShapes Go.ChangeAt Go.WideMaps Go.WideElems Go.RowKit
theorem Ar9 (d : Db) (s : Stc) (t : As) (l : List Mg) (els : List Int) (J : Sto) : Cv 3 [dbV d,P6 s,Bp t,slV eMg 3 l,slV eI 1 els] J (.bool true) := f3 d s t l els J f9a
theorem own : ownKnob Tryz.prog.godebug = none := Kr
theorem Aqq (os : Os) (args : Array Value) : laidMetH Tryz.prog Abb ((World.doorLaid Tryz.prog 400 os).forCall (fun _ _ => 0) ⟨#[],args,[]⟩).memory :=
 laidMetH_of_parts3 (fuel := 8) (laidMet_of_run' 8 Kr Kr) Kr Kr
section
open Go.ChangeShapes
variable {H : Type} {enc : TypeId × Value -> H} {P : Program} {w : World} {base : Nat} {spare : Nat -> Bool} {dc : Bool}
theorem Afv {t0 t1 t2 t3 t4 : TypeId} {args : Array Value} {ds : List (DataW H)} {ps : List MemPlace} (h : DataW.TrodAll enc P w base spare dc [t0,t1,t2,t3,t4] args.toList ds ps) :
  ∃ v0 v1 v2 v3 v4 d0 d1 d2 d3 d4 p0 p1 p2 p3 p4,args = #[v0,v1,v2,v3,v4] /\ ds = [d0,d1,d2,d3,d4] /\ ps = p0 ++ p1 ++ p2 ++ p3 ++ p4 /\ DataW.Trod enc P w base spare dc t0 v0 d0 p0 /\ DataW.Trod enc P w base spare dc t1 v1 d1 p1 /\ DataW.Trod enc P w base spare dc t2 v2 d2 p2 /\ DataW.Trod enc P w base spare dc t3 v3 d3 p3 /\ DataW.Trod enc P w base spare dc t4 v4 d4 p4 := by
 obtain ⟨v0,_,d0,_,p0,_,ha,rfl,rfl,h0,r0⟩ := trodAll_cons h;obtain ⟨v1,_,d1,_,p1,_,rfl,rfl,rfl,h1,r1⟩ := trodAll_cons r0;obtain ⟨v2,_,d2,_,p2,_,rfl,rfl,rfl,h2,r2⟩ := trodAll_cons r1;obtain ⟨v3,_,d3,_,p3,_,rfl,rfl,rfl,h3,r3⟩ := trodAll_cons r2;obtain ⟨v4,_,d4,_,p4,_,rfl,rfl,rfl,h4,r4⟩ := trodAll_cons r3;obtain ⟨rfl,rfl,rfl⟩ := trodAll_nil r4
 exact ⟨v0,v1,v2,v3,v4,d0,d1,d2,d3,d4,p0,p1,p2,p3,p4,by cases args; simp_all,rfl,by simp,h0,h1,h2,h3,h4⟩
theorem Aid {t0 t1 t2 t3 t4 : TypeId} {v0 v1 v2 v3 v4 : Value} {d0 d1 d2 d3 d4 : DataW H} {p0 p1 p2 p3 p4 : List MemPlace} (h0 : DataW.Trod enc P w base spare dc t0 v0 d0 p0) (h1 : DataW.Trod enc P w base spare dc t1 v1 d1 p1) (h2 : DataW.Trod enc P w base spare dc t2 v2 d2 p2) (h3 : DataW.Trod enc P w base spare dc t3 v3 d3 p3) (h4 : DataW.Trod enc P w base spare dc t4 v4 d4 p4) :
  DataW.TrodAll enc P w base spare dc [t0,t1,t2,t3,t4] [v0,v1,v2,v3,v4] [d0,d1,d2,d3,d4] (p0 ++ (p1 ++ (p2 ++ (p3 ++ p4)))) := ⟨p0,_,h0,trodAll_mk4 h1 h2 h3 h4,rfl⟩
end
def Aie : Value := .slice none 0 0
theorem Aqr : laidOutB Tryz.prog = true := Ia
theorem Aif {H : Type} {enc : TypeId × Value -> H} {t : TypeId} (hr : Tryz.prog.readableRec t = true) (pn : t < Tryz.prog.types.size) {W W' : World} {v : Value} {d : DataW H} {ps : List MemPlace}
  (h : DataW.Trod enc Tryz.prog W 0 (fun _ => true) true t v d ps) (hb : ∀ b,b < W.heap.size -> W'.heap[b]? = W.heap[b]?) (hlt : ∀ x ∈ ps,x.block < W.heap.size) :
  DataW.Trod enc Tryz.prog W' 0 (fun b => decide (b < W.heap.size)) true t v d ps :=
 WideElems.Trod_stays Aqr hr pn h (fun x hx => by
  have hx := hlt x hx;cases x with
  | cell b o => exact World.cell?_of_block (w := W) (hb b hx)
  | map b => exact hb b hx) (fun x hx => by simpa using hlt x hx)
theorem Aqs {W W' : World} (h1 : W'.os = W.os) (h2 : W'.output = W.output) (hb : ∀ b,b < W.heap.size -> W'.heap[b]? = W.heap[b]?) (may : MemPlace -> Prop) : W.keptBut W' may := by
 refine ⟨h1,h2,fun i hi => ?_⟩
 rw [hb i hi]
 split <;> simp_all
theorem lifted (os : Os) (started : os.Started) (H : Type) (enc : TypeId × Value -> H) :
  ReturnsInHanded {} Tryz.checked os 3 .any (fun w args => (Rows.structureObjectsSpec.pre enc Tryz.prog Tryz.f3 [] false w args /\ laidMetH Tryz.prog Abb w) /\ sizedMet enc Tryz.prog Tryz.f3 (OpenSpec.ofChange Rows.structureObjectsSpec) false w args)
   (Rows.structureObjectsSpec.post enc Tryz.prog Tryz.f3 false true false false) := by
 refine returnsInHanded_of_change_and (C := Tryz.checked) (X := fun w _ => laidMetH Tryz.prog Abb w) (fun _ _ _ hh h => h.of_heap hh) own started Kr Tryz.func3
  (ChangeSpec.witness_shaped (enc := enc) (C := Tryz.checked) (os := os) (X := fun w _ => laidMetH Tryz.prog Abb w) false (World.doorLaid Tryz.prog 400 os) #[.agg #[Aie,Aie,Aie],.agg #[.int .i64 0,Aie,Aie],.agg #[.string ⟨#[]⟩,Aie],Aie,Aie] 8 rfl (World.shaped_of_RefB Kr Kr) Kr Kr Kr (Aqq os _)) ?_
 intro W base args ds gs before np hW _ hsz hL _;have fw : ∀ (j : Nat) t v,Tryz.f3.params[j]? = some t -> args[j]? = some v -> Value.okWide Tryz.prog W .any base t v := np;have hW' := hW;obtain ⟨p,q,hA0,hV,rfl,hfz,hnd⟩ := hW;have hA : DataW.TrodAll enc Tryz.prog W 0 (fun _ => true) true Tryz.f3.params.toList args.toList ds p := hA0
 rw [Tryz.params3] at hA fw;obtain ⟨v0,v1,v2,v3,v4,d0,d1,d2,d3,d4,p0,p1,p2,p3,p4,rfl,rfl,rfl,h0,h1,h2,h3,h4⟩ := Afv hA;obtain ⟨rfl,rfl⟩ := trodVars_none hV;have hlt := hW'.lt;rw [Tryz.params3] at hsz;obtain ⟨d,s,t,l,els,hR⟩ := Aqo (fw 0 25 v0 rfl rfl) (fw 1 29 v1 rfl rfl) (fw 2 32 v2 rfl rfl) (fw 3 33 v3 rfl rfl) (fw 4 34 v4 rfl rfl) h0 h1 h2 h3 h4 hsz;simp only [List.append_nil] at hW' hlt;refine (Aj3 (Ar9 d s t l els ⟨.e,0⟩) (Ar8 hL) hR).mono fun e W' ⟨he,_,hb,ho,hu⟩ => ?_
 subst he
 have hl0 : ∀ x ∈ p0,x.block < W.heap.size := fun x hx => hlt x (by simp [hx])
 have hl1 : ∀ x ∈ p1,x.block < W.heap.size := fun x hx => hlt x (by simp [hx])
 have hl2 : ∀ x ∈ p2,x.block < W.heap.size := fun x hx => hlt x (by simp [hx])
 have hl3 : ∀ x ∈ p3,x.block < W.heap.size := fun x hx => hlt x (by simp [hx])
 have hl4 : ∀ x ∈ p4,x.block < W.heap.size := fun x hx => hlt x (by simp [hx])
 refine ⟨_,rfl,_,_,_,[],p0 ++ (p1 ++ (p2 ++ (p3 ++ p4))),[],hW',?_,?_,rfl,Aqs ho hu hb _,fun h => by cases h⟩
 ·exact trodAll_mk1 (shut_bool ut4 _)
 ·exact Aid (Aif Kr (of_decide_eq_true Kr) h0 hb hl0) (Aif Kr (of_decide_eq_true Kr) h1 hb hl1) (Aif Kr (of_decide_eq_true Kr) h2 hb hl2) (Aif Kr (of_decide_eq_true Kr) h3 hb hl3) (Aif Kr (of_decide_eq_true Kr) h4 hb hl4)
theorem P7 : Rows.StructureObjectsSaid :=
 OpenClaim.holds_of_wide 3 Tryz.f3 rfl rfl rfl rfl rfl rfl rfl ⟨rfl,rfl,rfl,rfl,rfl⟩ rfl rfl rfl rfl rfl Kr Tryz.func3 Oo
  (of_decide_eq_true Kr) (by unfold Func.isWrapper; first | (rw [if_pos (by decide +kernel)]; kernel_rfl) | (rw [if_neg (by decide +kernel)]; exact ⟨rfl,rfl⟩))
  (fun os started H enc _ => lifted os started H enc)
theorem structureObjects_card : Rows.StructureObjectsCardSaid :=
 Claim7.holds_tied_plain_at .later [] [.widerDeep] true (true, "9c03383a93de42e170a0be79d7597d1a8c5b9612c8d1fd415972e10bcaad1418") true
  P7 (fun _ h => by cases h) Kr (fun _ h => by cases h) structureObjects_row_tie rfl ⟨rfl,rfl⟩ Kr rfl
  (fun f fn hf hfn => by
   obtain rfl : f = 3 := Option.some.inj ((show Tryz.prog.funcNamed "apodixis/apodixislaw36.StructureObjects" = some 3 by kernel_rfl).symm.trans hf) |>.symm
   obtain rfl : fn = Tryz.f3 := (Option.some.inj (Tryz.func3.symm.trans hfn)).symm
   exact ⟨by kernel_rfl,fun j t ht => by
    rw [Tryz.params3] at ht
    have h3 : t = 25 ∨ t = 29 ∨ t = 32 ∨ t = 33 ∨ t = 34 := by
     rcases j with _ | _ | _ | _ | _ | j
     ·left; simpa using ht.symm
     ·right; left; simpa using ht.symm
     ·right; right; left; simpa using ht.symm
     ·right; right; right; left; simpa using ht.symm
     ·right; right; right; right; simpa using ht.symm
     ·simp at ht
    rcases h3 with rfl | rfl | rfl | rfl | rfl
    ·exact (show Tryz.prog.wantsStandIn 25 = false by kernel_rfl)
    ·exact (show Tryz.prog.wantsStandIn 29 = false by kernel_rfl)
    ·exact (show Tryz.prog.wantsStandIn 32 = false by kernel_rfl)
    ·exact (show Tryz.prog.wantsStandIn 33 = false by kernel_rfl)
    ·exact (show Tryz.prog.wantsStandIn 34 = false by kernel_rfl)⟩)
  Kr
#print axioms structureObjects_card
end Go.Proofs.YtadnlmhnjfmleaaGreatDoor
