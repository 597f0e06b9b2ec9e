/- A part of the proof; shortened by program. -/
import Derived.LaidMore
import Derived.Stop.Joined
import Derived.Test.YtadnlmhnjfmleaaGreatDoorRows
import Derived.Test.YtadnlmhnjfmleaaGreatDoorP27
set_option maxRecDepth 100000
set_option maxHeartbeats 4000000
set_option linter.unusedSimpArgs false
set_option linter.unusedVariables false
namespace Go.AM
open Go Go.Proofs Go.Proofs.YtadnlmhnjfmleaaGreatDoor
section
variable {H : Type} {eh : TypeId × Value -> H} {w : World} {hd : Bool}
theorem utF : Tryz.prog.underlying 354 = some (.array 10 353) := Kr
theorem ctE : Tryz.prog.cellsOf 353 = 4 := Kr
theorem ctF : Tryz.prog.cellsOf 354 = 40 := Kr
theorem flE : Gm 353 = some [(9,0,1),(4,1,1),(3,2,1),(3,3,1)] := Kr
theorem Aqm {n : Nat} : RdX eh w hd n 353 4 := Aj4 flE rfl fun m _ j f hj => by
 match j,hj with
 | 0,hj => cases hj; exact Ar7 ut9
 | 1,hj => cases hj; exact Aql ut4
 | 2,hj => cases hj; exact Al0 ut3
 | 3,hj => cases hj; exact Al0 ut3
 | j + 4,hj => simp at hj
theorem Anh {n : Nat} : RdX eh w hd n 354 40 := by
 intro cs x h hl;obtain ⟨xs,m,_,rfl,_,hxl,hxf⟩ := DataW.trod_array utF h;rw [ctE] at hxf
 have := Aba (cs := cs) (eh := eh) (w := w) (hd := hd) (m := m) ((List.range 10).map fun i => (353,i * 4,4)) xs 0 (by rw [hxl]; rfl) (fun j f hj => by
  rw [az_,du_] at hj;obtain ⟨i,hi,rfl⟩ := hj;have je := (ad_.1 hi).1;rw [List.length_range] at je;rw [List.getElem?_range je] at hi;cases hi
  exact ⟨Aqm,hxf j je⟩) (by rw [hl]; rfl)
 rw [eu_] at this;refine ⟨?_,this.2⟩;rw [Afu]; exact this.1
end
theorem Aic {w : World} {nm : String} {g : Nat} {cs : Array Value} (hn : Tryz.prog.globalNamed nm = some g) (h : w.var? Tryz.prog nm = some cs) : ∃ T fz,w.heap[g]? = some (.cells cs T fz) := by
 unfold World.var? at h;rw [hn] at h;simp only [fp_] at h
 split at h
 ·rename_i c T fz hh; cases h; exact ⟨T,fz,hh⟩
 ·cases h
theorem tFrmW : (Tryz.prog.globals[0]?).map (·.type) = some 354 := Kr
theorem Asu : Tryz.prog.globalNamed "apodixis/layout.forms" = some 0 := Kr
def Abb : List (String × DataW Unit) := Rows.structureObjectsRow.laid
theorem Aqn : Afu (Rows.laid_apodixis_layout_forms : DataW Unit) = Ai4 := Kr
theorem Ar8 {W : World} (h : laidMetH Tryz.prog Abb W) : Fo C0 0 W Ew := by
 rw [MakeChecks.laidMetH_plain _ _ _ Kr] at h;have h6 : laidMet Tryz.prog (("apodixis/layout.forms", Rows.laid_apodixis_layout_forms) :: []) W := h;obtain ⟨ps, ⟨g', t', cs, fuel, p, q, hg', ht', co, hd, _, _⟩, _⟩ := h6;obtain rfl := ds_ (Asu.symm.trans hg');obtain rfl := ds_ (tFrmW.symm.trans ht')
 refine ⟨fun g l hg => ?_,fun c P hP => (by cases hP),fun L hL => (by cases hL)⟩
 have hg : glW g = some l := hg;unfold glW at hg
 split at hg
 ·rename_i hb
  have := aa_ hb;subst this;cases hg;obtain ⟨T,fz,hh⟩ := Aic Asu co
  have hl : cs.toList.length = 40 := by
   obtain ⟨xs,m,_,_,hl,_⟩ := DataW.trod_array utF hd;rw [hl,ctF]
  obtain ⟨h1,h2⟩ := Anh cs.toList _ hd hl;rw [show Afu (Rows.laid_apodixis_layout_forms : DataW Unit) = Ai4 from Aqn] at h1
  unfold R
  exact ⟨0,0,rfl,fun _ => Aj2 0,fl_ hh h1 h2 fun i v hv => by rw [be_]; simpa using hv⟩
 ·cases hg
end Go.AM
