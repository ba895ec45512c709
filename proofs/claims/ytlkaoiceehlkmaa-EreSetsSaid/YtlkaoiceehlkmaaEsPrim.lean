/- What some functions of Go's library answer in this seat; no condition. -/
import Derived.Test.YtlkaoiceehlkmaaVeQ1
import Derived.Test.YtlkaoiceehlkmaaTeV1
namespace Go.Proofs.YtlkaoiceehlkmaaTE
open Go Go.Proofs.YtlkaoiceehlkmaaVE
def primEs (f : FuncId) : List PV → Option PV := match f with
  | 52 => pIndexByte
  | 81 => pIndexL
  | _ => fun _ => none
end Go.Proofs.YtlkaoiceehlkmaaTE
