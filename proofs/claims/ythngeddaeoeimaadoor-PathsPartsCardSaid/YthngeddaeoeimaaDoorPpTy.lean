/- The plain types of the program's data; no condition. -/
import Derived.Test.YthngeddaeoeimaaDoorTeA
namespace Go.Proofs.YthngeddaeoeimaaDoorTE
structure RuntimeBoundsError where
  x : Int
  y : Int
  signed : Bool
  code : Int
structure RuntimeErrorAddressString where
  msg : List UInt8
  addr : Int
structure Range where
  from_ : Int
  to_ : Int
structure StringsSpan where
  start : Int
  end_ : Int
structure Utf8AcceptRange where
  lo : Int
  hi : Int
structure ErrorsErrorString where
  s : List UInt8
structure RuntimePanicNilError where

end Go.Proofs.YthngeddaeoeimaaDoorTE
