/- Printed by a program of this session's own; no condition. -/
import Derived.Test.YtlkaoiceehlkmaaEsR0
import Derived.Test.YtlkaoiceehlkmaaEsR1
import Derived.Test.YtlkaoiceehlkmaaEsR2
import Derived.Test.YtlkaoiceehlkmaaEsR3
namespace Go.Proofs.YtlkaoiceehlkmaaTE
open Go Go.Proofs.YtlkaoiceehlkmaaVE
set_option linter.unusedVariables false
set_option maxRecDepth 100000
end Go.Proofs.YtlkaoiceehlkmaaTE
