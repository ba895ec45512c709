/- What some functions of Go's library answer in this seat; no condition. -/
import Derived.Test.YthngeddaeoeimaaDoorVeS
namespace Go.Proofs.YthngeddaeoeimaaDoorTE
open Go Go.Proofs.YthngeddaeoeimaaDoorVE
def primC (f : FuncId) : List PV → Option PV := match f with
  | 73 => pCount
  | 54 => pIndex
  | 70 => pIndex
  | 51 => pAtoiAll
  | 50 => pItoa
  | _ => fun _ => none
end Go.Proofs.YthngeddaeoeimaaDoorTE
