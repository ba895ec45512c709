/- Printed by a program of this session's own; no condition. -/
import Derived.Test.YtlkaoiceehlkmaaErR0
import Derived.Test.YtlkaoiceehlkmaaErR1
import Derived.Test.YtlkaoiceehlkmaaErR2
import Derived.Test.YtlkaoiceehlkmaaErR3
namespace Go.Proofs.YtlkaoiceehlkmaaTE
open Go Go.Proofs.YtlkaoiceehlkmaaVE
set_option linter.unusedVariables false
set_option maxRecDepth 100000
end Go.Proofs.YtlkaoiceehlkmaaTE
