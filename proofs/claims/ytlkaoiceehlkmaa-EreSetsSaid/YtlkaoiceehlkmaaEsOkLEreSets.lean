/- Printed by a program of this session's own; no condition. -/
import Derived.Test.YtlkaoiceehlkmaaEsLEreSets
import Derived.Test.YtlkaoiceehlkmaaEsOk
namespace Go.Proofs.YtlkaoiceehlkmaaTE
open Go Go.Proofs.YtlkaoiceehlkmaaVE
set_option linter.unusedVariables false
set_option maxRecDepth 100000
theorem law6_EreSets_run (k : Nat) (v : Int × Int × Int × Int × Unit) : tFn X_law6_EreSets k 11 [(.tmp 0, .int .u8), (.tmp 1, .int .u8), (.tmp 2, .int .u8), (.tmp 3, .int .i64)] 0 [(.tmp 0, .bool)] v = law6_EreSets v := by kernel_rfl
theorem law6_EreSets_ok : EntryOk X0 11 ⟨[(.tmp 0, .int .u8), (.tmp 1, .int .u8), (.tmp 2, .int .u8), (.tmp 3, .int .i64)], 0, [(.tmp 0, .bool)], law6_EreSets⟩ := fn_ok (X := X0) (t := tab44) (l := L_law6_EreSets) (j := J_law6_EreSets) xOk tab44_ok rfl (fun _ => rfl) fun v w h => ⟨0, (law6_EreSets_run 0 v).trans h⟩
end Go.Proofs.YtlkaoiceehlkmaaTE
