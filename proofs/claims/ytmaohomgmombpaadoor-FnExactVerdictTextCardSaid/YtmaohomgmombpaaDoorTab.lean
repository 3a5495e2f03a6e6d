/-
  What the three listed tables give: the table of powers of ten reads as strconv wants it, and stays so below new blocks; a world for the witnesses. No condition.
-/
import Derived.Test.YtmaohomgmombpaaDoorFmt
import Derived.Test.YtmaohomgmombpaaDoorCards
import Derived.Test.YtmaohomgmombpaaDoorTie
import Derived.OpenShut
import Derived.WalkSmall
import Derived.LaidSub
import Derived.Deep.DeepHandedRow
import Derived.Lib.LaidTab
namespace Go.Proofs.YtmaohomgmombpaaDoor
open Go.ChangeShapes Go.WideShapes Go.ChangeAt Go.RowKit

theorem own : ownKnob Tryd.prog.godebug = none := by kernel_rfl
theorem laidOut : laidOutB Tryd.prog = true := by kernel_rfl
theorem gTab : Tryd.prog.globalNamed "internal/strconv.uint64pow10" = some 1 := by kernel_rfl
theorem gTabType : (Tryd.prog.globals[1]?).map (·.type) = some 127 := by kernel_rfl
theorem cells127 : Tryd.prog.cellsOf 127 = 20 := by kernel_rfl
theorem cells120 : Tryd.prog.cellsOf 120 = 1 := by kernel_rfl

/-- The three tables that the rows list. -/
def tabs : List (String × DataW Unit) := [("math/bits.deBruijn32tab", Rows.laid_math_bits_deBruijn32tab), ("math/bits.deBruijn64tab", Rows.laid_math_bits_deBruijn64tab), ("internal/strconv.uint64pow10", Rows.laid_internal_strconv_uint64pow10)]

theorem tab_laid {W : World} (h : laidMetH Tryd.prog tabs W) : Tab W := by
  have h1 : laidMet Tryd.prog tabs W := h
  have h2 := laidMet.filter (fun x => x.1 == "internal/strconv.uint64pow10") h1
  have h3 : laidMet Tryd.prog [("internal/strconv.uint64pow10", Lib.tabData .u64 Lib.pow10Tab)] W := h2
  exact Lib.tabIs_of_head (rest := []) gTab gTabType Tryd.underlying127 Tryd.underlying120 cells120 cells127 h3

theorem tab_keeps {W W' : World} (h : Tab W) (hb : Below W.heap.size W W') : Tab W' := by
  have hc := h.cell gTab 0 (by decide)
  exact var?_below hb gTab (World.block_lt_of_cell? W _ hc) h

/-- A world for the witnesses: the settled one, the tables holding what their initialisers lay. -/
noncomputable def laidWorld (os : Os) : World :=
  { World.holding Tryd.prog os ⟨#[], #[], []⟩ with heap := ((((World.holding Tryd.prog os ⟨#[], #[], []⟩).heap.modify 1 fun
      | .cells _ t frozen => .cells (Lib.pow10Tab.map (Value.int .u64)).toArray t frozen
      | o => o).modify 2 fun
      | .cells _ t frozen => .cells ([0, 1, 28, 2, 29, 14, 24, 3, 30, 22, 20, 15, 25, 17, 4, 8, 31, 27, 13, 23, 21, 19, 16, 7, 26, 12, 18, 6, 11, 5, 10, 9].map (Value.int .u8)).toArray t frozen
      | o => o).modify 3 fun
      | .cells _ t frozen => .cells ([0, 1, 56, 2, 57, 49, 28, 3, 61, 58, 42, 50, 38, 29, 17, 4, 62, 47, 59, 36, 45, 43, 51, 22, 53, 39, 33, 30, 24, 18, 12, 5, 63, 55, 48, 27, 60, 41, 37, 16, 46, 35, 44, 21, 52, 32, 23, 11, 54, 26, 40, 15, 34, 20, 31, 10, 25, 14, 19, 9, 13, 8, 7, 6].map (Value.int .u8)).toArray t frozen
      | o => o) }
end Go.Proofs.YtmaohomgmombpaaDoor
