/- Words for strings. -/
import Derived.Laws.Closers25
import Derived.WalkKit
import Derived.WideShapes
import Derived.Lib.MinMaxS
namespace Go.Proofs.YtnbpbidflacoiaaDoor
open Go Go.RowKit

theorem str_inj {a b : ByteArray} (h : a.toList = b.toList) : a = b := by
  rw [ByteArray.toList_eq, ByteArray.toList_eq] at h
  exact Go.WideShapes.bytes_inj h
theorem str_eq (a b : ByteArray) : (a.toList == b.toList) = decide (a = b) := by
  by_cases h : a = b
  · subst h; simp
  · rw [decide_eq_false h, beq_eq_false_iff_ne]
    exact fun e => h (str_inj e)
theorem str_len (a : ByteArray) : a.toList.length = a.size := by rw [ByteArray.toList_eq]; rfl
/-- Go's order of strings. -/
def strLt (a b : ByteArray) : Bool := Op.bytesLess a.toList b.toList
end Go.Proofs.YtnbpbidflacoiaaDoor
