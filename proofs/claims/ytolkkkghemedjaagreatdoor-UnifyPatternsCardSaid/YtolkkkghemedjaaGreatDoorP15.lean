/- A part of the proof; shortened by program. -/
import Derived.LaidMore
import Derived.Stop.Joined
import Derived.Stop.LaidErr
import Derived.Lib.LaidTab
import Derived.Test.YtolkkkghemedjaaGreatDoorRows
import Derived.Test.YtolkkkghemedjaaGreatDoorP14
set_option maxRecDepth 100000
set_option linter.unusedSimpArgs false
set_option linter.unusedVariables false
namespace Go.AM
open Go Go.Proofs Go.Proofs.YtolkkkghemedjaaGreatDoor
section
variable {H : Type} {eh : TypeId × Value -> H} {w : World} {hd : Bool}
theorem ut3 : Tryz.prog.underlying 3 = some (.int .i64) := by kernel_rfl
theorem Aqj : Tryz.prog.underlying 378 = some (.array 10 377) := by kernel_rfl
theorem ct377 : Tryz.prog.cellsOf 377 = 4 := by kernel_rfl
theorem ct378 : Tryz.prog.cellsOf 378 = 40 := by kernel_rfl
theorem fl377 : I8 377 = some [(9, 0, 1), (4, 1, 1), (3, 2, 1), (3, 3, 1)] := by kernel_rfl
theorem Aob {n : Nat} : RdX eh w hd n 377 4 := Ah0 fl377 rfl fun m _ j f hj => by
 match j, hj with
 | 0, hj => cases hj; exact App ut9
 | 1, hj => cases hj; exact Aoa ut4
 | 2, hj => cases hj; exact Aju ut3
 | 3, hj => cases hj; exact Aju ut3
 | j + 4, hj => simp at hj
theorem Ald {n : Nat} : RdX eh w hd n 378 40 := by
 intro cs x h hl;obtain ⟨xs, m, _, rfl, _, hxl, hxf⟩ := DataW.trod_array Aqj h;rw [ct377] at hxf
 have := Zb (cs := cs) (eh := eh) (w := w) (hd := hd) (m := m) ((List.range 10).map fun i => (377, i * 4, 4)) xs 0 (by rw [hxl]; rfl) (fun j f hj => by
  rw [List.getElem?_map, Option.map_eq_some_iff] at hj;obtain ⟨i, hi, rfl⟩ := hj;have hj10 := (List.getElem?_eq_some_iff.1 hi).1;rw [List.length_range] at hj10;rw [List.getElem?_range hj10] at hi;cases hi
  exact ⟨Aob, hxf j hj10⟩) (by rw [hl]; rfl)
 rw [List.drop_zero] at this;refine ⟨?_, this.2⟩;rw [Ads]; exact this.1
end
theorem Lf {w : World} {nm : String} {g : Nat} {cs : Array Value} (hn : Tryz.prog.globalNamed nm = some g) (h : w.var? Tryz.prog nm = some cs) : ∃ T fz, w.heap[g]? = some (.cells cs T fz) := by
 unfold World.var? at h;rw [hn] at h;simp only [Option.bind_some] at h
 split at h
 ·rename_i c T fz hh; cases h; exact ⟨T, fz, hh⟩
 ·cases h
theorem tSynW : (Tryz.prog.globals[1]?).map (·.type) = some 202 := by kernel_rfl
theorem tRngW : (Tryz.prog.globals[2]?).map (·.type) = some 202 := by kernel_rfl
theorem tPowW : (Tryz.prog.globals[3]?).map (·.type) = some 354 := by kernel_rfl
theorem tFrmW : (Tryz.prog.globals[4]?).map (·.type) = some 378 := by kernel_rfl
theorem Aqk : Tryz.prog.globalNamed "apodixis/layout.forms" = some 4 := by kernel_rfl
theorem Aql : "*" ++ "errors.errorString" = "*errors.errorString" := by decide
theorem Aoc (u : TypeId) (h : Tryz.prog.typeName? 3 u = some "*errors.errorString") : u = 321 :=
 typeName_ptr_named (nm := "errors.errorString") (by rw [Aql]; kernel_rfl) (by kernel_rfl) (by decide) u (by rw [Aql]; exact h)
theorem Af2 : Tryz.prog.cellsOf 323 = 1 := by kernel_rfl
theorem Aod : Tryz.prog.cellsOf 289 = 1 := by kernel_rfl
theorem Aoe : Tryz.prog.cellsOf 354 = 20 := by kernel_rfl
def Zc : List (String × DataW Unit) := Rows.unifyPatternsRow.laid
theorem Ale : (Rows.laid_internal_strconv_uint64pow10 : DataW Unit) = Lib.tabData .u64 Lib.pow10Tab := by kernel_rfl
theorem Aof : Ads (Rows.laid_apodixis_layout_forms : DataW Unit) = Agj := by kernel_rfl
theorem Apq {W : World} (h : laidMetH Tryz.prog Zc W) : Fv C0 0 W Ew := by
 rw [MakeChecks.laidMetH_plain _ _ _ (by kernel_rfl)] at h
 have h3 : laidMet Tryz.prog (("internal/strconv.uint64pow10", Rows.laid_internal_strconv_uint64pow10) :: _) W := h.tail.tail;have h4 := h3.tail;have h5 := h4.tail;have h6 : laidMet Tryz.prog (("apodixis/layout.forms", Rows.laid_apodixis_layout_forms) :: _) W := h5.tail;rw [Ale] at h3;obtain ⟨a0, s0, hv0, _, _, _⟩ := laid_sentinel h4 Anq tRngW Tryz.underlying202 Aoc Tryz.underlying321 Tryz.underlying323 rfl rfl Tryz.underlying9 Af2 ct9;obtain ⟨a1, s1, hv1, _, _, _⟩ := laid_sentinel h5 Anp tSynW Tryz.underlying202 Aoc Tryz.underlying321 Tryz.underlying323 rfl rfl Tryz.underlying9 Af2 ct9;have hp : Lib.TabIs Tryz.prog W "internal/strconv.uint64pow10" .u64 Lib.pow10Tab := Lib.tabIs_of_head Anr tPowW Tryz.underlying354 Tryz.underlying289 Aod Aoe h3;obtain ⟨ps, ⟨g', t', cs, fuel, p, q, hg', ht', hvar, hd, _, _⟩, _⟩ := h6;obtain rfl := Option.some.inj (Aqk.symm.trans hg');obtain rfl := Option.some.inj (tFrmW.symm.trans ht');refine ⟨fun g l hg => ?_, fun c P hP => ⟨Adp c, ?_⟩⟩
 ·have hg : glW g = some l := hg;unfold glW at hg
  split at hg
  ·rename_i hb
   have := Nat.eq_of_beq_eq_true hb;subst this;cases hg;obtain ⟨T, fz, hh⟩ := Lf Aqk hvar
   have hl : cs.toList.length = 40 := by
    obtain ⟨xs, m, _, _, hl, _⟩ := DataW.trod_array Aqj hd;rw [hl, ct378]
   obtain ⟨h1, h2⟩ := Ald cs.toList _ hd hl;rw [show Ads (Rows.laid_apodixis_layout_forms : DataW Unit) = Agj from Aof] at h1
   unfold R
   exact ⟨4, 0, rfl, fun _ => Adp 4, RC.of_cells hh h1 h2 fun i v hv => by rw [Nat.zero_add]; simpa using hv⟩
  ·cases hg
 ·have hP : Aig c = some P := hP;unfold Aig at hP
  split at hP
  ·cases hP;obtain ⟨T, fz, hh⟩ := Lf Anp hv1;exact ⟨_, T, fz, hh, _, _, rfl⟩
  ·cases hP;obtain ⟨T, fz, hh⟩ := Lf Anq hv0;exact ⟨_, T, fz, hh, _, _, rfl⟩
  ·cases hP;obtain ⟨T, fz, hh⟩ := Lf Anr hp;exact ⟨_, T, fz, hh, rfl⟩
  ·cases hP
end Go.AM
