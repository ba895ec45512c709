/- The frame of this seat holds of the program, in a world that keeps the length up to which strings.Index goes by bytes. -/
import Derived.Test.YtlkaoiceehlkmaaEsPr
import Derived.Test.YtlkaoiceehlkmaaVeQ1
import Derived.Test.YtlkaoiceehlkmaaShelf
namespace Go.Proofs.YtlkaoiceehlkmaaTE
open Go Go.Proofs.YtlkaoiceehlkmaaVE Go.RowKit
set_option linter.unusedVariables false
variable {B : Base} {m : Int}
theorem primOkX (hm : B.w.cell? ⟨0, 0, none⟩ = some (.int .i64 m)) : PrimOk cfgX B := by
  intro f args p h
  have h : primEs f args = some p := h
  unfold primEs at h
  split at h
  · exact okIndexByte (Try.strings_IndexByte) h
  · exact okIndexL (Try.stringslite_Index) hm h
  · cases h
theorem primHasX : PrimHas cfgX := by
  intro f args p h
  have h : primEs f args = some p := h
  unfold primEs at h
  split at h
  · exact hasBody (by kernel_rfl)
  · exact hasBody (by kernel_rfl)
  · cases h
set_option maxRecDepth 100000
theorem cfgOkX (hm : B.w.cell? ⟨0, 0, none⟩ = some (.int .i64 m)) : CfgOk cfgX B := ⟨primOkX hm, primHasX, plain_of (by kernel_rfl), draws_of (by kernel_rfl)⟩
end Go.Proofs.YtlkaoiceehlkmaaTE
