/- For every sort, number and label the law UnifyLabels of apodixislaw18 returns true and leaves its arguments as they read, where the listed variables of the library hold what their initialisers lay. -/
import Derived.Test.YtjdllejnkgoehaaGreatDoorRows
import Derived.ProofKit
import Derived.LaidMore
import Derived.OpenShut
import Derived.Stop.Joined
import Derived.Stop.LaidErr
import Derived.Lib.LaidTab
import Derived.SizedLaws
import Derived.Test.YtjdllejnkgoehaaGreatDoorWalkB
namespace Go.Proofs.YtjdllejnkgoehaaGreatDoor
open Go Go.ChangeShapes Go.WideShapes Go.ChangeAt Go.WideMaps Go.WideElems Go.RowKit
open Go.ChangeMaps (open_string shut_string)

theorem own : ownKnob Tryz.prog.godebug = none := by kernel_rfl
theorem gPow : Tryz.prog.globalNamed "internal/strconv.uint64pow10" = some 3 := by kernel_rfl
theorem tPow : (Tryz.prog.globals[3]?).map (·.type) = some 176 := by kernel_rfl
theorem gSyn : Tryz.prog.globalNamed "strconv.ErrSyntax" = some 1 := by kernel_rfl
theorem tSyn : (Tryz.prog.globals[1]?).map (·.type) = some 48 := by kernel_rfl
theorem gRng : Tryz.prog.globalNamed "strconv.ErrRange" = some 2 := by kernel_rfl
theorem tRng : (Tryz.prog.globals[2]?).map (·.type) = some 48 := by kernel_rfl
theorem cells148 : Tryz.prog.cellsOf 148 = 1 := by kernel_rfl
theorem cells176 : Tryz.prog.cellsOf 176 = 20 := by kernel_rfl
theorem cells185 : Tryz.prog.cellsOf 185 = 1 := by kernel_rfl
theorem cells9 : Tryz.prog.cellsOf 9 = 1 := by kernel_rfl
theorem star : "*" ++ "errors.errorString" = "*errors.errorString" := by decide
theorem row183 (u : TypeId) (h : Tryz.prog.typeName? 3 u = some "*errors.errorString") : u = 183 :=
  typeName_ptr_named (nm := "errors.errorString") (by rw [star]; kernel_rfl) (by kernel_rfl) (by decide) u (by rw [star]; exact h)

def laidL : List (String × DataW Unit) := Rows.unifyLabelsRow.laid

theorem pow_data : (Rows.laid_internal_strconv_uint64pow10 : DataW Unit) = Lib.tabData .u64 Lib.pow10Tab := by kernel_rfl

theorem laid_of {W : World} (h : laidMetH Tryz.prog laidL W) : Laid W := by
  rw [MakeChecks.laidMetH_plain _ _ _ (by kernel_rfl)] at h
  have h3 : laidMet Tryz.prog (("internal/strconv.uint64pow10", Rows.laid_internal_strconv_uint64pow10) :: _) W := h.tail.tail
  have h4 := h3.tail
  have h5 := h4.tail
  rw [pow_data] at h3
  obtain ⟨a0, s0, hv0, _, _, _⟩ := laid_sentinel h4 gRng tRng Tryz.underlying48 row183 Tryz.underlying183 Tryz.underlying185 rfl rfl Tryz.underlying9 cells185 cells9
  obtain ⟨a1, s1, hv1, _, _, _⟩ := laid_sentinel h5 gSyn tSyn Tryz.underlying48 row183 Tryz.underlying183 Tryz.underlying185 rfl rfl Tryz.underlying9 cells185 cells9
  exact ⟨Lib.tabIs_of_head gPow tPow Tryz.underlying176 Tryz.underlying148 cells148 cells176 h3, ⟨_, _, hv1⟩, ⟨_, _, hv0⟩⟩

theorem door_met (os : Os) (args : Array Value) : laidMetH Tryz.prog laidL ((World.doorLaid Tryz.prog 400 os).forCall (fun _ _ => 0) ⟨#[], args, []⟩).memory :=
  laidMetH_of_parts3 (fuel := 8) (laidMet_of_run' 8 (by kernel_rfl) (by kernel_rfl)) (by kernel_rfl) (by kernel_rfl)

theorem Kept.frame {W W' : World} (h : Kept W W') (may : MemPlace → Prop) : W.keptBut W' may := by
  refine ⟨h.os, h.output, fun i hi => ?_⟩
  rw [h.block i hi]
  split <;> simp_all
end Go.Proofs.YtjdllejnkgoehaaGreatDoor
