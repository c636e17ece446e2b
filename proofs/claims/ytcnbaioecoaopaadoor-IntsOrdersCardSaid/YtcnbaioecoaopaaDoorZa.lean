/-
  What all laws of layer 2 share: the listed tables, and a world that holds them.
-/
import Derived.Test.YtcnbaioecoaopaaDoorAs
import Derived.Test.YtcnbaioecoaopaaDoorRows
import Derived.ProofKit
import Derived.OpenShut
import Derived.Deep.DeepHandedRow
import Derived.Lib.LaidTab
namespace Go.Proofs.YtcnbaioecoaopaaDoor
open Go.ChangeShapes Go.WideShapes Go.ChangeAt Go.RowKit
theorem own : ownKnob Tryd.prog.godebug = none := by kernel_rfl
theorem gTab : Tryd.prog.globalNamed "internal/strconv.uint64pow10" = some 0 := by kernel_rfl
theorem gTabType : (Tryd.prog.globals[0]?).map (·.type) = some 68 := by kernel_rfl
theorem cells68 : Tryd.prog.cellsOf 68 = 20 := by kernel_rfl
theorem cells58 : Tryd.prog.cellsOf 58 = 1 := by kernel_rfl
theorem tabData_eq : Rows.laid_internal_strconv_uint64pow10 (H := Unit) = Lib.tabData .u64 Lib.pow10Tab := by kernel_rfl
/-- what the rows' list gives: the table of powers -/
theorem table {W : World} (h : laidMetH Tryd.prog [("math/bits.deBruijn32tab", Rows.laid_math_bits_deBruijn32tab), ("math/bits.deBruijn64tab", Rows.laid_math_bits_deBruijn64tab), ("internal/strconv.uint64pow10", Rows.laid_internal_strconv_uint64pow10)] W) : pow10At W := by
  have h0 : laidMet Tryd.prog [("math/bits.deBruijn32tab", Rows.laid_math_bits_deBruijn32tab), ("math/bits.deBruijn64tab", Rows.laid_math_bits_deBruijn64tab), ("internal/strconv.uint64pow10", Rows.laid_internal_strconv_uint64pow10)] W := h
  obtain ⟨ps, ⟨_, _, _, _, _, _, _, _, _, _, ⟨_, _, _, _, _, _, _, _, _, _, ⟨g', t', cs, fuel, p, q, hg', ht', hvar, hd, _, _⟩, _⟩, _⟩, _⟩ := h0
  rw [tabData_eq] at hd
  obtain rfl := Option.some.inj (gTab.symm.trans hg')
  obtain rfl := Option.some.inj (gTabType.symm.trans ht')
  unfold pow10At Lib.TabIs
  rw [hvar, ← Lib.cells_of_tab Tryd.underlying68 Tryd.underlying58 cells58 cells68 hd]
def ints (k : IntKind) (l : List Int) : Array Value := (l.map fun z => Value.int k z).toArray
/-- the integers of a datum that is a table -/
def numsOf : DataW Unit → List Int
  | .agg l => l.map fun x => match x with | .lit (.int _ z) => z | _ => 0
  | _ => []
def fillAt (o : Obj) (k : IntKind) (l : List Int) : Obj := match o with
  | .cells _ t frozen => .cells (ints k l) t frozen
  | o => o
noncomputable def laidWorld (os : Os) : World :=
  { World.holding Tryd.prog os ⟨#[], #[], []⟩ with heap := (((World.holding Tryd.prog os ⟨#[], #[], []⟩).heap.modify 0 (fillAt · .u64 (numsOf Rows.laid_internal_strconv_uint64pow10))).modify 1 (fillAt · .u8 (numsOf Rows.laid_math_bits_deBruijn32tab))).modify 2 (fillAt · .u8 (numsOf Rows.laid_math_bits_deBruijn64tab)) }
theorem inR_wf {x : Int} (h : (Lit.int .i64 x).wf = true) : inR x := by
  have := bounds_i64 h
  unfold inR
  omega
theorem u8_wf {x : Int} (h : (Lit.int .u8 x).wf = true) : 0 ≤ x ∧ x ≤ 255 := bounds_u8 h
end Go.Proofs.YtcnbaioecoaopaaDoor
