/- Printed by a program of this session's own; no condition. -/
import Derived.Test.YtlkaoiceehlkmaaErLEreTimes
import Derived.Test.YtlkaoiceehlkmaaErOk
namespace Go.Proofs.YtlkaoiceehlkmaaTE
open Go Go.Proofs.YtlkaoiceehlkmaaVE
set_option linter.unusedVariables false
set_option maxRecDepth 100000
theorem law6_EreTimes_run (k : Nat) (v : Int × Int × Int × Unit) : tFn X_law6_EreTimes k 10 [(.tmp 0, .int .i64), (.tmp 1, .int .i64), (.tmp 2, .int .i64)] 0 [(.tmp 0, .bool)] v = law6_EreTimes v := by kernel_rfl
theorem law6_EreTimes_ok : EntryOk X0 10 ⟨[(.tmp 0, .int .i64), (.tmp 1, .int .i64), (.tmp 2, .int .i64)], 0, [(.tmp 0, .bool)], law6_EreTimes⟩ := fn_ok (X := X0) (t := tab45) (l := L_law6_EreTimes) (j := J_law6_EreTimes) xOk tab45_ok rfl (fun _ => rfl) fun v w h => ⟨0, (law6_EreTimes_run 0 v).trans h⟩
end Go.Proofs.YtlkaoiceehlkmaaTE
