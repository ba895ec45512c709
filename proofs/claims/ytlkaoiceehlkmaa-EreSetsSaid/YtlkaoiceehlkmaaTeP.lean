import Derived.Test.YtlkaoiceehlkmaaTeA
import Derived.KernelRfl
import Derived.Test.YtlkaoiceehlkmaaVeQ1
namespace Go.Proofs.YtlkaoiceehlkmaaTE
open Go Go.Proofs.YtlkaoiceehlkmaaVE
set_option linter.unusedVariables false
/-! Cells as parts of plain things. -/
section
variable {A : TypeId → Type}
def dI (k : IntKind) : TV A → Option Int
  | .int j n => if k = j then some n else none
  | _ => none
def dB : TV A → Option Bool
  | .bool b => some b
  | _ => none
def dS : TV A → Option (List UInt8)
  | .str s => some s
  | _ => none
def dR (t : TypeId) : TV A → Option (List (A t))
  | .row u l _ => if h : u = t then some (h ▸ l) else none
  | .cst (.slice none 0 0) => some []
  | _ => none
end
/-- More rounds than there can be. -/
def kBig : Nat := 18446744073709551616
abbrev Str := List UInt8
/-! Functions of Go's library. -/
def tCount (v : Str × Str × Unit) : Option (Int × Unit) := match v.2.1 with
  | [c] => some (Lib.countByte v.1 c, ())
  | _ => none
def tIndex (v : Str × Str × Unit) : Option (Int × Unit) := match v.2.1 with
  | [c] => some (idxF v.1 c 0, ())
  | _ => none
def tIndexByte (v : Str × Int × Unit) : Option (Int × Unit) := some (idxF v.1 v.2.1.toNat.toUInt8 0, ())
/-- The number, and whether the error is nil. -/
def tAtoi (v : Str × Unit) : Option (Int × Bool × Unit) := match decide (v.1.length ≤ 18) with
  | true => match Lib.atoi v.1 with
    | some n => some (n, true, ())
    | none => none
  | false => none
/-- The digits of a number below 10 ^ (k + 1). -/
def digs : Nat → Nat → List UInt8
  | 0, u => [UInt8.ofNat (48 + u)]
  | k + 1, u => match decide (u < 10) with
    | true => [UInt8.ofNat (48 + u)]
    | false => digs k (u / 10) ++ [UInt8.ofNat (48 + u % 10)]
def tItoa (v : Int × Unit) : Option (Str × Unit) := match decide (-9223372036854775808 ≤ v.1) && decide (v.1 ≤ 9223372036854775807) with
  | true => match decide (v.1 < 0) with
    | true => some (45 :: digs 20 v.1.natAbs, ())
    | false => some (digs 20 v.1.toNat, ())
  | false => none
/-- A text of digits alone that spells an int. -/
def tAtoiAll (v : Str × Unit) : Option (Int × Bool × Unit) := match decide (v.1.length ≤ 9223372036854775806) with
  | true => match Lib.atoiAll v.1 with
    | .ok n => some (n, true, ())
    | _ => none
  | false => none
/-- Of these functions nothing is told. -/
def tNoneIS (_ : Int × Unit) : Option (Str × Unit) := none
def tNoneSIR (_ : Str × Int × Unit) : Option (List Str × Unit) := none
end Go.Proofs.YtlkaoiceehlkmaaTE
