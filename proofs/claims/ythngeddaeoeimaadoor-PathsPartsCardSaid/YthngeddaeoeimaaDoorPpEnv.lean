/- The frame in which the functions of the program are reckoned; no condition. -/
import Derived.Test.YthngeddaeoeimaaDoorProg
import Derived.Test.YthngeddaeoeimaaDoorPpTy
import Derived.Test.YthngeddaeoeimaaDoorTeP
import Derived.Test.YthngeddaeoeimaaDoorPpPrim
namespace Go.Proofs.YthngeddaeoeimaaDoorTE
open Go Go.Proofs.YthngeddaeoeimaaDoorVE
set_option linter.unusedVariables false
def A : TypeId → Type
  | 2 => Int
  | 3 => Int
  | 4 => Bool
  | 5 => Int
  | 6 => Int
  | 8 => RuntimeBoundsError
  | 9 => List UInt8
  | 10 => List UInt8
  | 11 => List UInt8
  | 12 => Int
  | 14 => RuntimeErrorAddressString
  | 21 => Int
  | 22 => List (List UInt8)
  | 31 => List Int
  | 32 => List Bool
  | 41 => Int
  | 46 => List Range
  | 49 => List Int
  | 65 => Range
  | 82 => List StringsSpan
  | 84 => StringsSpan
  | 95 => Int
  | 103 => Int
  | 110 => Int
  | 120 => Int
  | 125 => Utf8AcceptRange
  | 134 => ErrorsErrorString
  | 144 => Int
  | 145 => Int
  | 147 => Int
  | 148 => Int
  | _ => Unit
noncomputable def lay : (t : TypeId) → A t → List (TV A)
  | 2, x => let x : Int := x; [.int .i64 x]
  | 3, x => let x : Int := x; [.int .i64 x]
  | 4, x => let x : Bool := x; [.bool x]
  | 5, x => let x : Int := x; [.int .u8 x]
  | 6, x => let x : Int := x; [.int .u8 x]
  | 8, x => let x : RuntimeBoundsError := x; [.int .i64 x.x, .int .i64 x.y, .bool x.signed, .int .u8 x.code]
  | 9, x => let x : List UInt8 := x; [.str x]
  | 10, x => let x : List UInt8 := x; [.str x]
  | 11, x => let x : List UInt8 := x; [.str x]
  | 12, x => let x : Int := x; [.int .u64 x]
  | 14, x => let x : RuntimeErrorAddressString := x; [.str x.msg, .int .u64 x.addr]
  | 21, x => let x : Int := x; [.int .i32 x]
  | 22, x => let x : List (List UInt8) := x; [.row 9 x .sh]
  | 31, x => let x : List Int := x; [.row 3 x .sh]
  | 32, x => let x : List Bool := x; [.row 4 x .sh]
  | 41, x => let x : Int := x; [.int .i64 x]
  | 46, x => let x : List Range := x; [.row 65 x .sh]
  | 49, x => let x : List Int := x; [.row 5 x .sh]
  | 65, x => let x : Range := x; [.int .i64 x.from_, .int .i64 x.to_]
  | 82, x => let x : List StringsSpan := x; [.row 84 x .sh]
  | 84, x => let x : StringsSpan := x; [.int .i64 x.start, .int .i64 x.end_]
  | 95, x => let x : Int := x; [.int .i64 x]
  | 103, x => let x : Int := x; [.int .u64 x]
  | 110, x => let x : Int := x; [.int .u64 x]
  | 120, x => let x : Int := x; [.int .u32 x]
  | 125, x => let x : Utf8AcceptRange := x; [.int .u8 x.lo, .int .u8 x.hi]
  | 134, x => let x : ErrorsErrorString := x; [.str x.s]
  | 144, x => let x : Int := x; [.int .u8 x]
  | 145, x => let x : Int := x; [.int .u8 x]
  | 147, x => let x : Int := x; [.int .i32 x]
  | 148, x => let x : Int := x; [.int .i32 x]
  | _, _ => []
noncomputable def dec : (t : TypeId) → List (TV A) → Option (A t)
  | 2, cs => match cs with
    | [c0] => (match dI .i64 c0 with | some a0 => some a0 | none => none)
    | _ => none
  | 3, cs => match cs with
    | [c0] => (match dI .i64 c0 with | some a0 => some a0 | none => none)
    | _ => none
  | 4, cs => match cs with
    | [c0] => (match dB c0 with | some a0 => some a0 | none => none)
    | _ => none
  | 5, cs => match cs with
    | [c0] => (match dI .u8 c0 with | some a0 => some a0 | none => none)
    | _ => none
  | 6, cs => match cs with
    | [c0] => (match dI .u8 c0 with | some a0 => some a0 | none => none)
    | _ => none
  | 8, cs => match cs with
    | [c0, c1, c2, c3] => (match dI .i64 c0 with | some a0 => (match dI .i64 c1 with | some a1 => (match dB c2 with | some a2 => (match dI .u8 c3 with | some a3 => some (RuntimeBoundsError.mk a0 a1 a2 a3) | none => none) | none => none) | none => none) | none => none)
    | _ => none
  | 9, cs => match cs with
    | [c0] => (match dS c0 with | some a0 => some a0 | none => none)
    | _ => none
  | 10, cs => match cs with
    | [c0] => (match dS c0 with | some a0 => some a0 | none => none)
    | _ => none
  | 11, cs => match cs with
    | [c0] => (match dS c0 with | some a0 => some a0 | none => none)
    | _ => none
  | 12, cs => match cs with
    | [c0] => (match dI .u64 c0 with | some a0 => some a0 | none => none)
    | _ => none
  | 14, cs => match cs with
    | [c0, c1] => (match dS c0 with | some a0 => (match dI .u64 c1 with | some a1 => some (RuntimeErrorAddressString.mk a0 a1) | none => none) | none => none)
    | _ => none
  | 21, cs => match cs with
    | [c0] => (match dI .i32 c0 with | some a0 => some a0 | none => none)
    | _ => none
  | 22, cs => match cs with
    | [c0] => (match dR 9 c0 with | some a0 => some a0 | none => none)
    | _ => none
  | 31, cs => match cs with
    | [c0] => (match dR 3 c0 with | some a0 => some a0 | none => none)
    | _ => none
  | 32, cs => match cs with
    | [c0] => (match dR 4 c0 with | some a0 => some a0 | none => none)
    | _ => none
  | 41, cs => match cs with
    | [c0] => (match dI .i64 c0 with | some a0 => some a0 | none => none)
    | _ => none
  | 46, cs => match cs with
    | [c0] => (match dR 65 c0 with | some a0 => some a0 | none => none)
    | _ => none
  | 49, cs => match cs with
    | [c0] => (match dR 5 c0 with | some a0 => some a0 | none => none)
    | _ => none
  | 65, cs => match cs with
    | [c0, c1] => (match dI .i64 c0 with | some a0 => (match dI .i64 c1 with | some a1 => some (Range.mk a0 a1) | none => none) | none => none)
    | _ => none
  | 82, cs => match cs with
    | [c0] => (match dR 84 c0 with | some a0 => some a0 | none => none)
    | _ => none
  | 84, cs => match cs with
    | [c0, c1] => (match dI .i64 c0 with | some a0 => (match dI .i64 c1 with | some a1 => some (StringsSpan.mk a0 a1) | none => none) | none => none)
    | _ => none
  | 95, cs => match cs with
    | [c0] => (match dI .i64 c0 with | some a0 => some a0 | none => none)
    | _ => none
  | 103, cs => match cs with
    | [c0] => (match dI .u64 c0 with | some a0 => some a0 | none => none)
    | _ => none
  | 110, cs => match cs with
    | [c0] => (match dI .u64 c0 with | some a0 => some a0 | none => none)
    | _ => none
  | 120, cs => match cs with
    | [c0] => (match dI .u32 c0 with | some a0 => some a0 | none => none)
    | _ => none
  | 125, cs => match cs with
    | [c0, c1] => (match dI .u8 c0 with | some a0 => (match dI .u8 c1 with | some a1 => some (Utf8AcceptRange.mk a0 a1) | none => none) | none => none)
    | _ => none
  | 134, cs => match cs with
    | [c0] => (match dS c0 with | some a0 => some (ErrorsErrorString.mk a0) | none => none)
    | _ => none
  | 144, cs => match cs with
    | [c0] => (match dI .u8 c0 with | some a0 => some a0 | none => none)
    | _ => none
  | 145, cs => match cs with
    | [c0] => (match dI .u8 c0 with | some a0 => some a0 | none => none)
    | _ => none
  | 147, cs => match cs with
    | [c0] => (match dI .i32 c0 with | some a0 => some a0 | none => none)
    | _ => none
  | 148, cs => match cs with
    | [c0] => (match dI .i32 c0 with | some a0 => some a0 | none => none)
    | _ => none
  | _, _ => none
noncomputable def wd : TypeId → Option Nat
  | 2 => some 1
  | 3 => some 1
  | 4 => some 1
  | 5 => some 1
  | 6 => some 1
  | 8 => some 4
  | 9 => some 1
  | 10 => some 1
  | 11 => some 1
  | 12 => some 1
  | 14 => some 2
  | 21 => some 1
  | 22 => some 1
  | 31 => some 1
  | 32 => some 1
  | 41 => some 1
  | 46 => some 1
  | 49 => some 1
  | 65 => some 2
  | 82 => some 1
  | 84 => some 2
  | 95 => some 1
  | 103 => some 1
  | 110 => some 1
  | 120 => some 1
  | 125 => some 2
  | 134 => some 1
  | 144 => some 1
  | 145 => some 1
  | 147 => some 1
  | 148 => some 1
  | _ => none
noncomputable def modeX (f : FuncId) : YthngeddaeoeimaaDoorVE.Mode := match f with
  | 2 | 3 | 4 | 5 | 6 | 7 | 8 | 9 | 10 | 11 | 12 | 13 | 14 | 15 | 16 | 17 | 18 | 19 | 20 | 21 | 22 | 23 | 24 | 25 | 26 | 27 | 28 | 29 | 30 | 31 | 32 | 33 | 34 | 35 | 36 | 37 | 38 | 39 | 40 | 41 | 42 | 43 | 44 | 45 | 48 | 49 | 50 | 51 | 52 | 53 | 54 | 55 | 56 | 60 | 61 | 62 | 65 | 66 | 69 | 70 | 71 | 72 | 73 | 77 | 78 | 79 | 85 | 87 | 88 | 89 | 93 | 94 | 95 | 96 | 97 | 98 | 100 | 103 | 104 | 105 | 106 | 107 | 108 | 109 | 110 | 111 | 112 | 113 | 114 | 144 => .pure
  | _ => .keep
noncomputable def dynX (f : FuncId) (id : Nat) : Option (List (Bool × Tmp × Tmp)) := match f, id with
  | 10, 18 => some []
  | 19, 6 => some []
  | 61, 3 => some []
  | 94, 6 => some []
  | 94, 7 => some []
  | 94, 14 => some []
  | 94, 31 => some []
  | _, _ => none
noncomputable def refX (f : FuncId) (d : Nat) : Bool := match f, d with
  | 56, 0 => true
  | 56, 1 => true
  | 56, 2 => true
  | 56, 3 => true
  | 56, 4 => true
  | 56, 5 => true
  | 56, 6 => true
  | 56, 7 => true
  | 56, 8 => true
  | 56, 9 => true
  | 56, 10 => true
  | 56, 11 => true
  | 56, 12 => true
  | 56, 13 => true
  | 56, 14 => true
  | 56, 15 => true
  | 56, 16 => true
  | 56, 17 => true
  | 56, 18 => true
  | 56, 19 => true
  | 56, 20 => true
  | 56, 21 => true
  | 56, 22 => true
  | 56, 23 => true
  | 56, 24 => true
  | 56, 25 => true
  | 56, 26 => true
  | 56, 27 => true
  | 56, 28 => true
  | 56, 29 => true
  | 56, 30 => true
  | 56, 31 => true
  | 56, 32 => true
  | 56, 33 => true
  | 56, 34 => true
  | 56, 35 => true
  | 56, 36 => true
  | 56, 37 => true
  | 56, 38 => true
  | 56, 39 => true
  | 56, 40 => true
  | 56, 41 => true
  | 56, 42 => true
  | 56, 43 => true
  | 56, 44 => true
  | 56, 45 => true
  | 56, 46 => true
  | 56, 47 => true
  | 56, 48 => true
  | 56, 49 => true
  | 56, 50 => true
  | 56, 51 => true
  | 56, 52 => true
  | 56, 53 => true
  | 56, 54 => true
  | 56, 55 => true
  | 56, 56 => true
  | 56, 57 => true
  | 56, 58 => true
  | 56, 59 => true
  | 56, 60 => true
  | 56, 61 => true
  | 56, 62 => true
  | 56, 63 => true
  | 56, 64 => true
  | 56, 65 => true
  | _, _ => false
noncomputable def frzX (f : FuncId) : Bool := match f with
  | 56 => true
  | _ => false
noncomputable def cfgP (prim : FuncId → List PV → Option PV) : Cfg := { P := Tryd.prog, prim := prim, mode := modeX, keep := fun _ _ => [], dyn := dynX, byRef := refX, frz := frzX }
noncomputable def cfgX : Cfg := cfgP primPp
noncomputable def X0 : TX := ⟨cfgX, A, lay, dec, wd, fun _ => [], fun _ _ => none, fun _ _ => none⟩
noncomputable def tab0 : FuncId → List (Entry A)
  | 28 => [⟨[(.tmp 0, .str)], 0, [(.tmp 0, .row 9 false)], tParts⟩] -- patchwork/paths.Parts
  | 70 => [⟨[(.tmp 0, .str), (.tmp 1, .str)], 0, [(.tmp 0, .int .i64)], tIndex⟩] -- internal/stringslite.Index
  | 104 => [⟨[(.tmp 0, .str), (.tmp 1, .int .u8)], 0, [(.tmp 0, .int .i64)], tNoneSI⟩] -- strings.IndexByte
  | _ => []
end Go.Proofs.YthngeddaeoeimaaDoorTE
