/- A part of the proof; shortened by program. -/
import Derived.LaidMore
import Derived.Stop.Joined
import Derived.Test.YtcnkdbldfpaebaaGreatDoorRows
import Derived.Test.YtcnkdbldfpaebaaGreatDoorP28
set_option maxRecDepth 100000
set_option maxHeartbeats 4000000
set_option linter.unusedSimpArgs false
set_option linter.unusedVariables false
namespace Go.AM
open Go Go.Proofs Go.Proofs.YtcnkdbldfpaebaaGreatDoor
section
variable {H : Type} {eh : TypeId × Value -> H} {w : World} {hd : Bool}
theorem utF : Tryz.prog.underlying 348 = some (.array 10 347) := Kr
theorem ctE : Tryz.prog.cellsOf 347 = 4 := Kr
theorem ctF : Tryz.prog.cellsOf 348 = 40 := Kr
theorem flE : Hk 347 = some [(9,0,1),(4,1,1),(3,2,1),(3,3,1)] := Kr
theorem Aq7 {n : Nat} : RdX eh w hd n 347 4 := Aj8 flE rfl fun m _ j f hj => by
 match j,hj with
 | 0,hj => cases hj; exact As2 ut9
 | 1,hj => cases hj; exact Aq6 ut4
 | 2,hj => cases hj; exact Amc ut3
 | 3,hj => cases hj; exact Amc ut3
 | j + 4,hj => simp at hj
theorem Anx {n : Nat} : RdX eh w hd n 348 40 := by
 intro cs x h hl;obtain ⟨xs,m,_,rfl,_,hxl,hxf⟩ := DataW.trod_array utF h;rw [ctE] at hxf
 have := Aa1 (cs := cs) (eh := eh) (w := w) (hd := hd) (m := m) ((List.range 10).map fun i => (347,i * 4,4)) xs 0 (by rw [hxl]; rfl) (fun j f hj => by
  rw [bn_,dl_] at hj;obtain ⟨i,hi,rfl⟩ := hj;have jl := (ae_.1 hi).1;rw [List.length_range] at jl;rw [List.getElem?_range jl] at hi;cases hi
  exact ⟨Aq7,hxf j jl⟩) (by rw [hl]; rfl)
 rw [gn_] at this;refine ⟨?_,this.2⟩;rw [Afc]; exact this.1
end
theorem Ah7 {w : World} {nm : String} {g : Nat} {cs : Array Value} (hn : Tryz.prog.globalNamed nm = some g) (h : w.var? Tryz.prog nm = some cs) : ∃ T fz,w.heap[g]? = some (.cells cs T fz) := by
 unfold World.var? at h;rw [hn] at h;simp only [fg_] at h
 split at h
 ·rename_i c T fz hh; cases h; exact ⟨T,fz,hh⟩
 ·cases h
theorem tFrmW : (Tryz.prog.globals[0]?).map (·.type) = some 348 := Kr
theorem Atv : Tryz.prog.globalNamed "apodixis/layout.forms" = some 0 := Kr
def Aa2 : List (String × DataW Unit) := Rows.truthSubstitutesRow.laid
theorem Aq8 : Afc (Rows.laid_apodixis_layout_forms : DataW Unit) = Aix := Kr
theorem As3 {W : World} (h : laidMetH Tryz.prog Aa2 W) : Fh C0 0 W Ew := by
 rw [MakeChecks.laidMetH_plain _ _ _ Kr] at h;have h6 : laidMet Tryz.prog (("apodixis/layout.forms", Rows.laid_apodixis_layout_forms) :: []) W := h;obtain ⟨ps, ⟨g', t', cs, fuel, p, q, hg', ht', og, hd, _, _⟩, _⟩ := h6;obtain rfl := dr_ (Atv.symm.trans hg');obtain rfl := dr_ (tFrmW.symm.trans ht')
 refine ⟨fun g l hg => ?_,fun c P hP => (by cases hP),fun L hL => (by cases hL)⟩
 have hg : glW g = some l := hg;unfold glW at hg
 split at hg
 ·rename_i hb
  have := aa_ hb;subst this;cases hg;obtain ⟨T,fz,hh⟩ := Ah7 Atv og
  have hl : cs.toList.length = 40 := by
   obtain ⟨xs,m,_,_,hl,_⟩ := DataW.trod_array utF hd;rw [hl,ctF]
  obtain ⟨h1,h2⟩ := Anx cs.toList _ hd hl;rw [show Afc (Rows.laid_apodixis_layout_forms : DataW Unit) = Aix from Aq8] at h1
  unfold R
  exact ⟨0,0,rfl,fun _ => Aj5 0,f_ hh h1 h2 fun i v hv => by rw [bf_]; simpa using hv⟩
 ·cases hg
end Go.AM
