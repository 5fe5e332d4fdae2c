/- The table of the crc package, out of the row's condition. -/
import Derived.Test.YtgageajnicedbaaDoorCrcLaw
import Derived.Test.YtgageajnicedbaaDoorRows
import Derived.ProofKit
import Derived.LaidMore
import Derived.Stop.Joined
import Derived.Lib.LaidTab
namespace Go.Proofs.YtgageajnicedbaaDoor
open Go
theorem gSteps : Tryd.prog.globalNamed "quorate/crc.steps" = some 0 := by kernel_rfl
theorem tSteps : (Tryd.prog.globals[0]?).map (·.type) = some 31 := by kernel_rfl
theorem of_laid {W : World} (h : laidMetH Tryd.prog [("quorate/crc.steps", Rows.laid_quorate_crc_steps)] W) : TableAt W T0 := by
  rw [MakeChecks.laidMetH_plain _ _ _ (by kernel_rfl)] at h
  have hT := Lib.tabIs_of_head (k := .u32) (zs := tab) (rest := []) gSteps tSteps Tryd.underlying31 Tryd.underlying24 (by kernel_rfl) (by kernel_rfl) h
  have hc : ∀ i, i < 16 → W.cell? ⟨0, i, none⟩ = some (.int .u32 (T0 i)) := fun i hi => hT.cell gSteps i hi
  exact ⟨World.block_lt_of_cell? W _ (hc 0 (by omega)), hc⟩
end Go.Proofs.YtgageajnicedbaaDoor
