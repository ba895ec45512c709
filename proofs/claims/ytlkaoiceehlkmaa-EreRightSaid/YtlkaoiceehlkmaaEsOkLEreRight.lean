/- Printed by a program of this session's own; no condition. -/
import Derived.Test.YtlkaoiceehlkmaaEsLEreRight
import Derived.Test.YtlkaoiceehlkmaaEsOk
namespace Go.Proofs.YtlkaoiceehlkmaaTE
open Go Go.Proofs.YtlkaoiceehlkmaaVE
set_option linter.unusedVariables false
set_option maxRecDepth 100000
theorem law6_EreRight_run (k : Nat) (v : (List UInt8) × Unit) : tFn X_law6_EreRight k 8 [(.tmp 0, .str)] 0 [(.tmp 0, .bool)] v = law6_EreRight v := by kernel_rfl
theorem law6_EreRight_ok : EntryOk X0 8 ⟨[(.tmp 0, .str)], 0, [(.tmp 0, .bool)], law6_EreRight⟩ := fn_ok (X := X0) (t := tab44) (l := L_law6_EreRight) (j := J_law6_EreRight) xOk tab44_ok rfl (fun _ => rfl) fun v w h => ⟨0, (law6_EreRight_run 0 v).trans h⟩
end Go.Proofs.YtlkaoiceehlkmaaTE
