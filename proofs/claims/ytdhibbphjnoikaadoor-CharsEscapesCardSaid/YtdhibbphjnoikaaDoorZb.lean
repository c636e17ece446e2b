/-
  What the rows' list gives: the one cell that is read.
-/
import Derived.Test.YtdhibbphjnoikaaDoorZa
import Derived.Test.YtdhibbphjnoikaaDoorBs
namespace Go.Proofs.YtdhibbphjnoikaaDoor
open Go.ChangeShapes Go.WideShapes Go.ChangeAt Go.Deep Go.RowKit
theorem gTab : Tryd.prog.globalNamed "math/bits.deBruijn64tab" = some 3 := by kernel_rfl
theorem gTabType : (Tryd.prog.globals[3]?).map (·.type) = some 72 := by kernel_rfl
theorem cells72 : Tryd.prog.cellsOf 72 = 64 := by kernel_rfl
theorem cells5 : Tryd.prog.cellsOf 5 = 1 := by kernel_rfl
def dbTab : List Int := numsOf Rows.laid_math_bits_deBruijn64tab
theorem tabData_eq : Rows.laid_math_bits_deBruijn64tab (H := Unit) = Lib.tabData .u8 dbTab := by kernel_rfl
theorem table {W : World} (h : laidMetH Tryd.prog [("math/bits.deBruijn32tab", Rows.laid_math_bits_deBruijn32tab), ("math/bits.deBruijn64tab", Rows.laid_math_bits_deBruijn64tab), ("internal/strconv.uint64pow10", Rows.laid_internal_strconv_uint64pow10)] W) : dbAt W := by
  have h0 : laidMet Tryd.prog [("math/bits.deBruijn32tab", Rows.laid_math_bits_deBruijn32tab), ("math/bits.deBruijn64tab", Rows.laid_math_bits_deBruijn64tab), ("internal/strconv.uint64pow10", Rows.laid_internal_strconv_uint64pow10)] W := h
  obtain ⟨ps, ⟨_, _, _, _, _, _, _, _, _, _, ⟨g', t', cs, fuel, p, q, hg', ht', hvar, hd, _, _⟩, _⟩, _⟩ := h0
  rw [tabData_eq] at hd
  obtain rfl := Option.some.inj (gTab.symm.trans hg')
  obtain rfl := Option.some.inj (gTabType.symm.trans ht')
  have ht : Lib.TabIs Tryd.prog W "math/bits.deBruijn64tab" .u8 dbTab := by
    unfold Lib.TabIs
    rw [hvar, ← Lib.cells_of_tab Tryd.underlying72 Tryd.underlying5 cells5 cells72 hd]
  have hc := ht.cell gTab 15 (by decide +kernel)
  rw [show dbTab.getD 15 0 = 4 by decide +kernel] at hc
  exact ⟨hc, (addr_plain hc).2⟩
end Go.Proofs.YtdhibbphjnoikaaDoor
