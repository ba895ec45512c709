/- The plain types of the program's data; no condition. -/
import Derived.Test.YtlkaoiceehlkmaaTeA
namespace Go.Proofs.YtlkaoiceehlkmaaTE
structure RuntimeBoundsError where
  x : Int
  y : Int
  signed : Bool
  code : Int
structure RuntimeErrorAddressString where
  msg : List UInt8
  addr : Int
structure Node where
  kind : Int
  set0 : Int
  set1 : Int
  set2 : Int
  set3 : Int
  kids : List Node
  min : Int
  max : Int
structure Ref1Reader where
  s : List UInt8
  n : Int
  deep : Int
  bad : Int
  err : Int
structure EreWrong where
  at_ : Int
  e : Int
structure NfaState where
  kind : Int
  nodeKind : Int
  nodeSet0 : Int
  nodeSet1 : Int
  nodeSet2 : Int
  nodeSet3 : Int
  nodeKids : List Node
  nodeMin : Int
  nodeMax : Int
  next : List Int
structure Ref1Member where
  end_ : Int
  from_ : Int
  to_ : Int
  class_ : List UInt8
structure RuntimePanicNilError where

structure NfaMachine where
  l : List NfaState
  s : List UInt8
end Go.Proofs.YtlkaoiceehlkmaaTE
