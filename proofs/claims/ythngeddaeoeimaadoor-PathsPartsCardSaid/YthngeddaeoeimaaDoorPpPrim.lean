/- What some functions answer in this seat, for the laws of paths; no condition. -/
import Derived.Test.YthngeddaeoeimaaDoorPpParts
namespace Go.Proofs.YthngeddaeoeimaaDoorTE
open Go Go.Proofs.YthngeddaeoeimaaDoorVE
def primPp (f : FuncId) : List PV → Option PV := match f with
  | 28 => pParts
  | 73 => pCount
  | 54 => pIndex
  | 70 => pIndex
  | _ => fun _ => none
def tParts (v : List UInt8 × Unit) : Option (List (List UInt8) × Unit) := match decide (v.1.length ≤ 4294967296) with
  | true => some (Paths.parts v.1, ())
  | false => none
def tNoneSI (_ : List UInt8 × Int × Unit) : Option (Int × Unit) := none
end Go.Proofs.YthngeddaeoeimaaDoorTE
