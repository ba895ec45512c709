/- The frame of this seat holds of the program; no condition. -/
import Derived.Test.YtlkaoiceehlkmaaErPr
import Derived.Test.YtlkaoiceehlkmaaVeQ1
import Derived.Test.YtlkaoiceehlkmaaShelf
namespace Go.Proofs.YtlkaoiceehlkmaaTE
open Go Go.Proofs.YtlkaoiceehlkmaaVE Go.RowKit
set_option linter.unusedVariables false
variable {B : Base}
theorem primOkX : PrimOk cfgX B := by
  intro f args p h
  have h : primEr f args = some p := h
  unfold primEr at h
  split at h
  · exact okIndexByte (Try.strings_IndexByte) h
  · exact okIndex (Try.stringslite_Index_one) h
  · cases h
theorem primHasX : PrimHas cfgX := by
  intro f args p h
  have h : primEr f args = some p := h
  unfold primEr at h
  split at h
  · exact hasBody (by kernel_rfl)
  · exact hasBody (by kernel_rfl)
  · cases h
set_option maxRecDepth 100000
theorem cfgOkX : CfgOk cfgX B := ⟨primOkX, primHasX, plain_of (by kernel_rfl), draws_of (by kernel_rfl)⟩
end Go.Proofs.YtlkaoiceehlkmaaTE
