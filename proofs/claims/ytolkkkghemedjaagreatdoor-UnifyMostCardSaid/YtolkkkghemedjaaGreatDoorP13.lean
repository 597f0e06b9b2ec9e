/- A part of the proof; shortened by program. -/
import Derived.LaidMore
import Derived.Stop.Joined
import Derived.Stop.LaidErr
import Derived.Lib.LaidTab
import Derived.Test.YtolkkkghemedjaaGreatDoorRows
import Derived.Test.YtolkkkghemedjaaGreatDoorP12
set_option maxRecDepth 100000
set_option maxHeartbeats 4000000
set_option linter.unusedSimpArgs false
set_option linter.unusedVariables false
namespace Go.AM
open Go Go.Proofs Go.Proofs.YtolkkkghemedjaaGreatDoor
section
variable {H : Type} {eh : TypeId × Value -> H} {w : World} {hd : Bool}
theorem ut3 : Tryz.prog.underlying 3 = some (.int .i64) := Kr
theorem Ash : Tryz.prog.underlying 378 = some (.array 10 377) := Kr
theorem ct377 : Tryz.prog.cellsOf 377 = 4 := Kr
theorem ct378 : Tryz.prog.cellsOf 378 = 40 := Kr
theorem fl377 : Iz 377 = some [(9,0,1),(4,1,1),(3,2,1),(3,3,1)] := Kr
theorem Apw {n : Nat} : RdX eh w hd n 377 4 := Ajt fl377 rfl fun m _ j f hj => by
 match j,hj with
 | 0,hj => cases hj; exact Arm ut9
 | 1,hj => cases hj; exact Apv ut4
 | 2,hj => cases hj; exact Alm ut3
 | 3,hj => cases hj; exact Alm ut3
 | j + 4,hj => simp at hj
theorem And {n : Nat} : RdX eh w hd n 378 40 := by
 intro cs x h hl;obtain ⟨xs,m,_,rfl,_,hxl,hxf⟩ := DataW.trod_array Ash h;rw [ct377] at hxf
 have := Aaq (cs := cs) (eh := eh) (w := w) (hd := hd) (m := m) ((List.range 10).map fun i => (377,i * 4,4)) xs 0 (by rw [hxl]; rfl) (fun j f hj => by
  rw [bp_,do_] at hj;obtain ⟨i,hi,rfl⟩ := hj;have jt := (aa_.1 hi).1;rw [List.length_range] at jt;rw [List.getElem?_range jt] at hi;cases hi
  exact ⟨Apw,hxf j jt⟩) (by rw [hl]; rfl)
 rw [du_] at this;refine ⟨?_,this.2⟩;rw [Ae8]; exact this.1
end
theorem Lr {w : World} {nm : String} {g : Nat} {cs : Array Value} (hn : Tryz.prog.globalNamed nm = some g) (h : w.var? Tryz.prog nm = some cs) : ∃ T fz,w.heap[g]? = some (.cells cs T fz) := by
 unfold World.var? at h;rw [hn] at h;simp only [fn_] at h
 split at h
 ·rename_i c T fz hh; cases h; exact ⟨T,fz,hh⟩
 ·cases h
theorem tSynW : (Tryz.prog.globals[1]?).map (·.type) = some 202 := Kr
theorem tRngW : (Tryz.prog.globals[2]?).map (·.type) = some 202 := Kr
theorem tPowW : (Tryz.prog.globals[3]?).map (·.type) = some 354 := Kr
theorem tFrmW : (Tryz.prog.globals[4]?).map (·.type) = some 378 := Kr
theorem Asi : Tryz.prog.globalNamed "apodixis/layout.forms" = some 4 := Kr
theorem Asj : "*" ++ "errors.errorString" = "*errors.errorString" := by decide
theorem Apx (u : TypeId) (h : Tryz.prog.typeName? 3 u = some "*errors.errorString") : u = 321 :=
 typeName_ptr_named (nm := "errors.errorString") (by rw [Asj]; kernel_rfl) Kr (by decide) u (by rw [Asj]; exact h)
theorem Ahl : Tryz.prog.cellsOf 323 = 1 := Kr
theorem Apy : Tryz.prog.cellsOf 289 = 1 := Kr
theorem Apz : Tryz.prog.cellsOf 354 = 20 := Kr
def Aar : List (String × DataW Unit) := Rows.unifyPatternsRow.laid
theorem Ane : (Rows.laid_internal_strconv_uint64pow10 : DataW Unit) = Lib.tabData .u64 Lib.pow10Tab := Kr
theorem Ap0 : Ae8 (Rows.laid_apodixis_layout_forms : DataW Unit) = Aii := Kr
theorem Arn {W : World} (h : laidMetH Tryz.prog Aar W) : Gc C0 0 W Ew := by
 rw [MakeChecks.laidMetH_plain _ _ _ Kr] at h;have h3 : laidMet Tryz.prog (("internal/strconv.uint64pow10", Rows.laid_internal_strconv_uint64pow10) :: _) W := h.tail.tail;have h4 := h3.tail;have h5 := h4.tail;have h6 : laidMet Tryz.prog (("apodixis/layout.forms", Rows.laid_apodixis_layout_forms) :: _) W := h5.tail;rw [Ane] at h3;obtain ⟨a0, s0, hv0, _, _, _⟩ := laid_sentinel h4 Apk tRngW Tryz.underlying202 Apx Tryz.underlying321 Tryz.underlying323 rfl rfl Tryz.underlying9 Ahl ct9;obtain ⟨a1, s1, hv1, _, _, _⟩ := laid_sentinel h5 Apj tSynW Tryz.underlying202 Apx Tryz.underlying321 Tryz.underlying323 rfl rfl Tryz.underlying9 Ahl ct9;have hp : Lib.TabIs Tryz.prog W "internal/strconv.uint64pow10" .u64 Lib.pow10Tab := Lib.tabIs_of_head Apl tPowW Tryz.underlying354 Tryz.underlying289 Apy Apz h3;obtain ⟨ps, ⟨g', t', cs, fuel, p, q, hg', ht', p7, hd, _, _⟩, _⟩ := h6;obtain rfl := cf_ (Asi.symm.trans hg');obtain rfl := cf_ (tFrmW.symm.trans ht');refine ⟨fun g l hg => ?_, fun c P hP => ⟨Ae7 c, ?_⟩⟩
 ·have hg : glW g = some l := hg;unfold glW at hg
  split at hg
  ·rename_i hb
   have := ac_ hb;subst this;cases hg;obtain ⟨T,fz,hh⟩ := Lr Asi p7
   have hl : cs.toList.length = 40 := by
    obtain ⟨xs,m,_,_,hl,_⟩ := DataW.trod_array Ash hd;rw [hl,ct378]
   obtain ⟨h1,h2⟩ := And cs.toList _ hd hl;rw [show Ae8 (Rows.laid_apodixis_layout_forms : DataW Unit) = Aii from Ap0] at h1
   unfold R
   exact ⟨4,0,rfl,fun _ => Ae7 4,fh_ hh h1 h2 fun i v hv => by rw [bq_]; simpa using hv⟩
  ·cases hg
 ·have hP : Zc c = some P := hP;unfold Zc at hP
  split at hP
  ·cases hP;obtain ⟨T,fz,hh⟩ := Lr Apj hv1;exact ⟨_,T,fz,hh,_,_,rfl⟩
  ·cases hP;obtain ⟨T,fz,hh⟩ := Lr Apk hv0;exact ⟨_,T,fz,hh,_,_,rfl⟩
  ·cases hP;obtain ⟨T,fz,hh⟩ := Lr Apl hp;exact ⟨_,T,fz,hh,rfl⟩
  ·cases hP
end Go.AM
