/- The two variables of errors out of what the row lists. -/
import Derived.Test.YtnbpbidflacoiaaDoorDNT
import Derived.Test.YtnbpbidflacoiaaDoorRows
import Derived.Stop.LaidErr
namespace Go.Proofs.YtnbpbidflacoiaaDoor
open Go.ChangeShapes Go.WideShapes Go.ChangeAt Go.Deep Go.RowKit

theorem errs_star : "*" ++ "errors.errorString" = "*errors.errorString" := by decide
theorem errs_row (u : TypeId) (h : Tryd.prog.typeName? 3 u = some "*errors.errorString") : u = 175 :=
  typeName_ptr_named (nm := "errors.errorString") (by rw [errs_star]; kernel_rfl) (by kernel_rfl) (by decide) u (by rw [errs_star]; exact h)
theorem errs_of {W : World} (h : laidMetH Tryd.prog [("strconv.ErrRange", Rows.laid_strconv_ErrRange), ("strconv.ErrSyntax", Rows.laid_strconv_ErrSyntax)] W) : Errs W := by
  rw [MakeChecks.laidMetH_plain _ _ _ (by kernel_rfl)] at h
  obtain ⟨a0, s0, hv0, -, -, -⟩ := laid_sentinel h errR_known (show (Tryd.prog.globals[4]?).map (·.type) = some 119 by kernel_rfl) Tryd.underlying119 errs_row Tryd.underlying175 Tryd.underlying177 rfl rfl Tryd.underlying9 (by kernel_rfl) (by kernel_rfl)
  obtain ⟨a1, s1, hv1, -, -, -⟩ := laid_sentinel h.tail errS_known (show (Tryd.prog.globals[3]?).map (·.type) = some 119 by kernel_rfl) Tryd.underlying119 errs_row Tryd.underlying175 Tryd.underlying177 rfl rfl Tryd.underlying9 (by kernel_rfl) (by kernel_rfl)
  exact ⟨⟨_, _, hv1⟩, ⟨_, _, hv0⟩⟩
end Go.Proofs.YtnbpbidflacoiaaDoor
