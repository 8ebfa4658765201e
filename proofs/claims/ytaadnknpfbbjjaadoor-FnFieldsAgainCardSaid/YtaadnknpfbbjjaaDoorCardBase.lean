/- What a row that lists the library's tables gives its walk, and a world for its witness. -/
import Derived.Test.YtaadnknpfbbjjaaDoorCards
import Derived.Test.YtaadnknpfbbjjaaDoorTie
import Derived.Test.YtaadnknpfbbjjaaDoorRowBase
import Derived.Test.YtaadnknpfbbjjaaDoorItoaA
import Derived.WalkKit
import Derived.Deep.DeepHandedRow
namespace Go.Proofs.YtaadnknpfbbjjaaDoor
open Go.ChangeShapes Go.WideShapes Go.ChangeAt Go.RowKit Sat

theorem gTab : Tryd.prog.globalNamed "internal/strconv.uint64pow10" = some 0 := by kernel_rfl
theorem gTabType : (Tryd.prog.globals[0]?).map (·.type) = some 61 := by kernel_rfl
theorem tabCells : Tryd.prog.cellsOf 61 = 20 := by kernel_rfl
theorem tabCell : Tryd.prog.cellsOf 54 = 1 := by kernel_rfl
theorem laid_tail {P : Program} {x : String × DataW Unit} {r : List (String × DataW Unit)} {w : World} (h : laidMet P (x :: r) w) : laidMet P r w := by
  obtain ⟨ps, hv, hnd, hrows⟩ := h
  obtain ⟨n, d⟩ := x
  obtain ⟨g, t, cs, fuel, p, q, _, _, _, _, hq, rfl⟩ := hv
  exact ⟨q, hq, List.Nodup.sublist (List.sublist_append_right _ _) hnd, fun b off hm => hrows b off (List.mem_append_right _ hm)⟩
theorem table {W : World} (h : laidMetH Tryd.prog [("math/bits.deBruijn32tab", Rows.laid_math_bits_deBruijn32tab), ("math/bits.deBruijn64tab", Rows.laid_math_bits_deBruijn64tab), ("internal/strconv.uint64pow10", Rows.laid_internal_strconv_uint64pow10)] W) : Tab W := by
  have h1 : laidMet Tryd.prog [("math/bits.deBruijn32tab", Rows.laid_math_bits_deBruijn32tab), ("math/bits.deBruijn64tab", Rows.laid_math_bits_deBruijn64tab), ("internal/strconv.uint64pow10", Rows.laid_internal_strconv_uint64pow10)] W := h
  have h2 : laidMet Tryd.prog [("internal/strconv.uint64pow10", Lib.tabData .u64 Lib.pow10Tab)] W := laid_tail (laid_tail h1)
  exact Lib.tabIs_of_head (rest := []) gTab gTabType Tryd.underlying61 Tryd.underlying54 tabCell tabCells h2
def tabVals : DataW Unit → Array Value
  | .agg l => (l.map fun | .lit (.int k z) => Value.int k z | _ => Value.nilIface).toArray
  | _ => #[]
def setTab (vs : Array Value) : Obj → Obj
  | .cells _ t frozen => .cells vs t frozen
  | o => o
/-- the settled world, the tables as their initialisers lay them -/
noncomputable def laidWorld (os : Os) : World :=
  { World.holding Tryd.prog os ⟨#[], #[], []⟩ with heap := ((World.holding Tryd.prog os ⟨#[], #[], []⟩).heap.modify 0 (setTab (tabVals Rows.laid_internal_strconv_uint64pow10)) |>.modify 1 (setTab (tabVals Rows.laid_math_bits_deBruijn32tab)) |>.modify 2 (setTab (tabVals Rows.laid_math_bits_deBruijn64tab))) }
end Go.Proofs.YtaadnknpfbbjjaaDoor
