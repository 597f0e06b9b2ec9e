/- The law TruthSubstitutes of apodixislaw34, its row and its tied card: for every database, matrix, two trees, label and values it returns true and leaves its arguments as they read. The card ties the listed variable of the library to the program's text; nothing else is assumed. -/
import Derived.Test.YtcnkdbldfpaebaaGreatDoorCards
import Derived.Test.YtcnkdbldfpaebaaGreatDoorTie
import Derived.Test.YtcnkdbldfpaebaaGreatDoorP38
import Derived.Test.YtcnkdbldfpaebaaGreatDoorP39
set_option maxRecDepth 100000
set_option maxHeartbeats 4000000
set_option linter.unusedSimpArgs false
set_option linter.unusedVariables false
namespace Go.Proofs.YtcnkdbldfpaebaaGreatDoor
open Go Go.AM Go.Proofs Go.ChangeShapes Go.WideShapes Go.ChangeAt Go.WideMaps Go.WideElems Go.RowKit
theorem truth (d : Db) (m : Md) (t b : Au) (x : Str) (l : List Vl) (J : Sto) : Cv 3 [dbV d,mdV m,Bg t,Bg b,sV x,slV eVl 2 l] J (.bool true) := f3 d m t b x l J f7
theorem own : ownKnob Tryz.prog.godebug = none := Kr
theorem Arf (os : Os) (args : Array Value) : laidMetH Tryz.prog Aa2 ((World.doorLaid Tryz.prog 400 os).forCall (fun _ _ => 0) ⟨#[],args,[]⟩).memory :=
 laidMetH_of_parts3 (fuel := 8) (laidMet_of_run' 8 Kr Kr) Kr Kr
section
open Go.ChangeShapes
variable {H : Type} {enc : TypeId × Value -> H} {P : Program} {w : World} {base : Nat} {spare : Nat -> Bool} {cn : Bool}
theorem Ah9 {t0 t1 t2 t3 t4 t5 : TypeId} {args : Array Value} {ds : List (DataW H)} {ps : List MemPlace} (h : DataW.TrodAll enc P w base spare cn [t0,t1,t2,t3,t4,t5] args.toList ds ps) :
  ∃ v0 v1 v2 v3 v4 v5 d0 d1 d2 d3 d4 d5 p0 p1 p2 p3 p4 p5,args = #[v0,v1,v2,v3,v4,v5] /\ ds = [d0,d1,d2,d3,d4,d5] /\ ps = p0 ++ p1 ++ p2 ++ p3 ++ p4 ++ p5 /\ DataW.Trod enc P w base spare cn t0 v0 d0 p0 /\ DataW.Trod enc P w base spare cn t1 v1 d1 p1 /\
   DataW.Trod enc P w base spare cn t2 v2 d2 p2 /\ DataW.Trod enc P w base spare cn t3 v3 d3 p3 /\ DataW.Trod enc P w base spare cn t4 v4 d4 p4 /\ DataW.Trod enc P w base spare cn t5 v5 d5 p5 := by
 obtain ⟨v0,_,d0,_,p0,_,ha,rfl,rfl,h0,r0⟩ := trodAll_cons h;obtain ⟨v1,_,d1,_,p1,_,rfl,rfl,rfl,h1,r1⟩ := trodAll_cons r0;obtain ⟨v2,_,d2,_,p2,_,rfl,rfl,rfl,h2,r2⟩ := trodAll_cons r1;obtain ⟨v3,_,d3,_,p3,_,rfl,rfl,rfl,h3,r3⟩ := trodAll_cons r2;obtain ⟨v4,_,d4,_,p4,_,rfl,rfl,rfl,h4,r4⟩ := trodAll_cons r3;obtain ⟨v5,_,d5,_,p5,_,rfl,rfl,rfl,h5,r5⟩ := trodAll_cons r4;obtain ⟨rfl,rfl,rfl⟩ := trodAll_nil r5
 exact ⟨v0,v1,v2,v3,v4,v5,d0,d1,d2,d3,d4,d5,p0,p1,p2,p3,p4,p5,by cases args; simp_all,rfl,by simp,h0,h1,h2,h3,h4,h5⟩
theorem Aia {t0 t1 t2 t3 t4 t5 : TypeId} {v0 v1 v2 v3 v4 v5 : Value} {d0 d1 d2 d3 d4 d5 : DataW H} {p0 p1 p2 p3 p4 p5 : List MemPlace} (h0 : DataW.Trod enc P w base spare cn t0 v0 d0 p0) (h1 : DataW.Trod enc P w base spare cn t1 v1 d1 p1)
  (h2 : DataW.Trod enc P w base spare cn t2 v2 d2 p2) (h3 : DataW.Trod enc P w base spare cn t3 v3 d3 p3) (h4 : DataW.Trod enc P w base spare cn t4 v4 d4 p4) (h5 : DataW.Trod enc P w base spare cn t5 v5 d5 p5) :
  DataW.TrodAll enc P w base spare cn [t0,t1,t2,t3,t4,t5] [v0,v1,v2,v3,v4,v5] [d0,d1,d2,d3,d4,d5] (p0 ++ (p1 ++ (p2 ++ (p3 ++ (p4 ++ p5))))) := ⟨p0,_,h0,⟨p1,_,h1,trodAll_mk4 h2 h3 h4 h5,rfl⟩,rfl⟩
end
def Aib : Value := .slice none 0 0
theorem Arg : laidOutB Tryz.prog = true := Iu
theorem Adg {H : Type} {enc : TypeId × Value -> H} {t : TypeId} (hr : Tryz.prog.readableRec t = true) (om : t < Tryz.prog.types.size) {W W' : World} {v : Value} {d : DataW H} {ps : List MemPlace}
  (h : DataW.Trod enc Tryz.prog W 0 (fun _ => true) true t v d ps) (hb : ∀ b,b < W.heap.size -> W'.heap[b]? = W.heap[b]?) (hlt : ∀ x ∈ ps,x.block < W.heap.size) :
  DataW.Trod enc Tryz.prog W' 0 (fun b => decide (b < W.heap.size)) true t v d ps :=
 WideElems.Trod_stays Arg hr om h (fun x hx => by
  have hx := hlt x hx;cases x with
  | cell b o => exact World.cell?_of_block (w := W) (hb b hx)
  | map b => exact hb b hx) (fun x hx => by simpa using hlt x hx)
theorem Arh {W W' : World} (h1 : W'.os = W.os) (h2 : W'.output = W.output) (hb : ∀ b,b < W.heap.size -> W'.heap[b]? = W.heap[b]?) (may : MemPlace -> Prop) : W.keptBut W' may := by
 refine ⟨h1,h2,fun i hi => ?_⟩
 rw [hb i hi]
 split <;> simp_all
theorem lifted (os : Os) (started : os.Started) (H : Type) (enc : TypeId × Value -> H) :
  ReturnsInHanded {} Tryz.checked os 3 .any (fun w args => (Rows.truthSubstitutesSpec.pre enc Tryz.prog Tryz.f3 [] false w args /\ laidMetH Tryz.prog Aa2 w) /\ sizedMet enc Tryz.prog Tryz.f3 (OpenSpec.ofChange Rows.truthSubstitutesSpec) false w args)
   (Rows.truthSubstitutesSpec.post enc Tryz.prog Tryz.f3 false true false false) := by
 refine returnsInHanded_of_change_and (C := Tryz.checked) (X := fun w _ => laidMetH Tryz.prog Aa2 w) (fun _ _ _ hh h => h.of_heap hh) own started Kr Tryz.func3
  (ChangeSpec.witness_shaped (enc := enc) (C := Tryz.checked) (os := os) (X := fun w _ => laidMetH Tryz.prog Aa2 w) false (World.doorLaid Tryz.prog 400 os) #[.agg #[Aib,Aib,Aib],.agg #[.int .i64 0,Aib,Aib],.agg #[.string ⟨#[]⟩,Aib],.agg #[.string ⟨#[]⟩,Aib],.string ⟨#[]⟩,Aib] 8 rfl (World.shaped_of_RefB Kr Kr) Kr Kr Kr (Arf os _)) ?_
 intro W base args ds gs before mz hW _ hsz hL _;have en : ∀ (j : Nat) t v,Tryz.f3.params[j]? = some t -> args[j]? = some v -> Value.okWide Tryz.prog W .any base t v := mz;have hW' := hW;obtain ⟨p,q,hA0,hV,rfl,hfz,hnd⟩ := hW;have hA : DataW.TrodAll enc Tryz.prog W 0 (fun _ => true) true Tryz.f3.params.toList args.toList ds p := hA0
 rw [Tryz.params3] at hA en;obtain ⟨v0,v1,v2,v3,v4,v5,d0,d1,d2,d3,d4,d5,p0,p1,p2,p3,p4,p5,rfl,rfl,rfl,h0,h1,h2,h3,h4,h5⟩ := Ah9 hA;obtain ⟨rfl,rfl⟩ := trodVars_none hV;have hlt := hW'.lt;rw [Tryz.params3] at hsz;obtain ⟨d,m,t,b,x,l,hR⟩ := Ara (en 0 25 v0 rfl rfl) (en 1 29 v1 rfl rfl) (en 2 32 v2 rfl rfl) (en 3 32 v3 rfl rfl) (en 4 9 v4 rfl rfl) (en 5 33 v5 rfl rfl) h0 h1 h2 h3 h4 h5 hsz;simp only [List.append_nil] at hW' hlt;refine (Aj6 (truth d m t b x l ⟨.e,0⟩) (As3 hL) hR).mono fun e W' ⟨he,_,hb,ho,hu⟩ => ?_
 subst he
 have hl0 : ∀ x ∈ p0,x.block < W.heap.size := fun x hx => hlt x (by simp [hx])
 have hl1 : ∀ x ∈ p1,x.block < W.heap.size := fun x hx => hlt x (by simp [hx])
 have hl2 : ∀ x ∈ p2,x.block < W.heap.size := fun x hx => hlt x (by simp [hx])
 have hl3 : ∀ x ∈ p3,x.block < W.heap.size := fun x hx => hlt x (by simp [hx])
 have hl4 : ∀ x ∈ p4,x.block < W.heap.size := fun x hx => hlt x (by simp [hx])
 have hl5 : ∀ x ∈ p5,x.block < W.heap.size := fun x hx => hlt x (by simp [hx])
 refine ⟨_,rfl,_,_,_,[],p0 ++ (p1 ++ (p2 ++ (p3 ++ (p4 ++ p5)))),[],hW',?_,?_,rfl,Arh ho hu hb _,fun h => by cases h⟩
 ·exact trodAll_mk1 (shut_bool ut4 _)
 ·exact Aia (Adg Kr (of_decide_eq_true Kr) h0 hb hl0) (Adg Kr (of_decide_eq_true Kr) h1 hb hl1) (Adg Kr (of_decide_eq_true Kr) h2 hb hl2) (Adg Kr (of_decide_eq_true Kr) h3 hb hl3) (Adg Kr (of_decide_eq_true Kr) h4 hb hl4) (Adg Kr (of_decide_eq_true Kr) h5 hb hl5)
theorem Qq : Rows.TruthSubstitutesSaid :=
 OpenClaim.holds_of_wide 3 Tryz.f3 rfl rfl rfl rfl rfl rfl rfl ⟨rfl,rfl,rfl,rfl,rfl⟩ rfl rfl rfl rfl rfl Kr Tryz.func3 Pg
  (of_decide_eq_true Kr) (by unfold Func.isWrapper; first | (rw [if_pos (by decide +kernel)]; kernel_rfl) | (rw [if_neg (by decide +kernel)]; exact ⟨rfl,rfl⟩))
  (fun os started H enc _ => lifted os started H enc)
theorem truthSubstitutes_card : Rows.TruthSubstitutesCardSaid :=
 Claim7.holds_tied_plain_at .later [] [.widerDeep] true (true, "e2f369e8a68e2112e409f327248fc4c7caf6ef6f0ca013f1d4690f5b4555cd35") true
  Qq (fun _ h => by cases h) Kr (fun _ h => by cases h) truthSubstitutes_row_tie rfl ⟨rfl,rfl⟩ Kr rfl
  (fun f fn hf hfn => by
   obtain rfl : f = 3 := Option.some.inj ((show Tryz.prog.funcNamed "apodixis/apodixislaw34.TruthSubstitutes" = some 3 by kernel_rfl).symm.trans hf) |>.symm
   obtain rfl : fn = Tryz.f3 := (Option.some.inj (Tryz.func3.symm.trans hfn)).symm
   exact ⟨by kernel_rfl,fun j t ht => by
    rw [Tryz.params3] at ht
    have h3 : t = 25 ∨ t = 29 ∨ t = 32 ∨ t = 9 ∨ t = 33 := by
     rcases j with _ | _ | _ | _ | _ | _ | j
     ·left; simpa using ht.symm
     ·right; left; simpa using ht.symm
     ·right; right; left; simpa using ht.symm
     ·right; right; left; simpa using ht.symm
     ·right; right; right; left; simpa using ht.symm
     ·right; right; right; right; simpa using ht.symm
     ·simp at ht
    rcases h3 with rfl | rfl | rfl | rfl | rfl
    ·exact (show Tryz.prog.wantsStandIn 25 = false by kernel_rfl)
    ·exact (show Tryz.prog.wantsStandIn 29 = false by kernel_rfl)
    ·exact (show Tryz.prog.wantsStandIn 32 = false by kernel_rfl)
    ·exact (show Tryz.prog.wantsStandIn 9 = false by kernel_rfl)
    ·exact (show Tryz.prog.wantsStandIn 33 = false by kernel_rfl)⟩)
  Kr
#print axioms truthSubstitutes_card
end Go.Proofs.YtcnkdbldfpaebaaGreatDoor
