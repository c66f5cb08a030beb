/- The table of the powers of ten out of what the row lists. -/
import Derived.Test.YtnbpbidflacoiaaDoorRows
import Derived.Test.YtnbpbidflacoiaaDoorDN7
import Derived.Lib.LaidTab
import Derived.LaidSub
import Derived.LaidMore
import Derived.Lay
import Derived.ChangeMaps5
namespace Go.Proofs.YtnbpbidflacoiaaDoor
open Go.ChangeShapes Go.WideShapes Go.ChangeAt Go.Deep Go.RowKit

theorem tab_of {W : World} (h : laidMetH Tryd.prog [("internal/strconv.uint64pow10", Rows.laid_internal_strconv_uint64pow10)] W) : Tab W := by
  rw [MakeChecks.laidMetH_plain _ _ _ (by kernel_rfl)] at h
  rw [show (Rows.laid_internal_strconv_uint64pow10 : DataW Unit) = Lib.tabData .u64 Lib.pow10Tab by kernel_rfl] at h
  exact Lib.tabIs_of_head pow_known (show (Tryd.prog.globals[2]?).map (·.type) = some 156 by kernel_rfl) Tryd.underlying156 Tryd.underlying141 (by kernel_rfl) (by kernel_rfl) h
end Go.Proofs.YtnbpbidflacoiaaDoor
