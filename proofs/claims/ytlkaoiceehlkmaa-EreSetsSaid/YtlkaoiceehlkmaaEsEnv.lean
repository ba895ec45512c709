/- The frame in which the functions of the program are reckoned; no condition. -/
import Derived.Test.YtlkaoiceehlkmaaProg
import Derived.Test.YtlkaoiceehlkmaaEsTy
import Derived.Test.YtlkaoiceehlkmaaTeP
import Derived.Test.YtlkaoiceehlkmaaEsPrim
namespace Go.Proofs.YtlkaoiceehlkmaaTE
open Go Go.Proofs.YtlkaoiceehlkmaaVE
set_option linter.unusedVariables false
def A : TypeId → Type
  | 2 => Int
  | 3 => Int
  | 4 => Bool
  | 5 => Int
  | 6 => Int
  | 8 => RuntimeBoundsError
  | 9 => List UInt8
  | 10 => List UInt8
  | 11 => List UInt8
  | 12 => Int
  | 14 => RuntimeErrorAddressString
  | 21 => Int
  | 23 => Int
  | 25 => List Node
  | 27 => Node
  | 35 => List (List UInt8)
  | 36 => List Bool
  | 40 => Int
  | 48 => List Int
  | 50 => List Int
  | 60 => Ref1Reader
  | 70 => EreWrong
  | 73 => List NfaState
  | 75 => NfaMachine
  | 78 => NfaState
  | 89 => List Ref1Member
  | 96 => Int
  | 98 => Ref1Member
  | 111 => Int
  | 121 => Int
  | 122 => Int
  | 125 => Int
  | 126 => Int
  | _ => Unit
noncomputable def lay : (t : TypeId) → A t → List (TV A)
  | 2, x => let x : Int := x; [.int .i64 x]
  | 3, x => let x : Int := x; [.int .i64 x]
  | 4, x => let x : Bool := x; [.bool x]
  | 5, x => let x : Int := x; [.int .u8 x]
  | 6, x => let x : Int := x; [.int .u8 x]
  | 8, x => let x : RuntimeBoundsError := x; [.int .i64 x.x, .int .i64 x.y, .bool x.signed, .int .u8 x.code]
  | 9, x => let x : List UInt8 := x; [.str x]
  | 10, x => let x : List UInt8 := x; [.str x]
  | 11, x => let x : List UInt8 := x; [.str x]
  | 12, x => let x : Int := x; [.int .u64 x]
  | 14, x => let x : RuntimeErrorAddressString := x; [.str x.msg, .int .u64 x.addr]
  | 21, x => let x : Int := x; [.int .i32 x]
  | 23, x => let x : Int := x; [.int .u64 x]
  | 25, x => let x : List Node := x; [.row 27 x .sh]
  | 27, x => let x : Node := x; [.int .i64 x.kind, .int .u64 x.set0, .int .u64 x.set1, .int .u64 x.set2, .int .u64 x.set3, .row 27 x.kids .sh, .int .i64 x.min, .int .i64 x.max]
  | 35, x => let x : List (List UInt8) := x; [.row 9 x .sh]
  | 36, x => let x : List Bool := x; [.row 4 x .sh]
  | 40, x => let x : Int := x; [.int .i64 x]
  | 48, x => let x : List Int := x; [.row 3 x .sh]
  | 50, x => let x : List Int := x; [.row 5 x .sh]
  | 60, x => let x : Ref1Reader := x; [.str x.s, .int .i64 x.n, .int .i64 x.deep, .int .i64 x.bad, .int .i64 x.err]
  | 70, x => let x : EreWrong := x; [.int .i64 x.at_, .int .i64 x.e]
  | 73, x => let x : List NfaState := x; [.row 78 x .sh]
  | 75, x => let x : NfaMachine := x; [.row 78 x.l .sh, .str x.s]
  | 78, x => let x : NfaState := x; [.int .i64 x.kind, .int .i64 x.nodeKind, .int .u64 x.nodeSet0, .int .u64 x.nodeSet1, .int .u64 x.nodeSet2, .int .u64 x.nodeSet3, .row 27 x.nodeKids .sh, .int .i64 x.nodeMin, .int .i64 x.nodeMax, .row 3 x.next .sh]
  | 89, x => let x : List Ref1Member := x; [.row 98 x .sh]
  | 96, x => let x : Int := x; [.int .u64 x]
  | 98, x => let x : Ref1Member := x; [.int .i64 x.end_, .int .i64 x.from_, .int .i64 x.to_, .str x.class_]
  | 111, x => let x : Int := x; [.int .u32 x]
  | 121, x => let x : Int := x; [.int .u8 x]
  | 122, x => let x : Int := x; [.int .u8 x]
  | 125, x => let x : Int := x; [.int .i32 x]
  | 126, x => let x : Int := x; [.int .i32 x]
  | _, _ => []
noncomputable def dec : (t : TypeId) → List (TV A) → Option (A t)
  | 2, cs => match cs with
    | [c0] => (match dI .i64 c0 with | some a0 => some a0 | none => none)
    | _ => none
  | 3, cs => match cs with
    | [c0] => (match dI .i64 c0 with | some a0 => some a0 | none => none)
    | _ => none
  | 4, cs => match cs with
    | [c0] => (match dB c0 with | some a0 => some a0 | none => none)
    | _ => none
  | 5, cs => match cs with
    | [c0] => (match dI .u8 c0 with | some a0 => some a0 | none => none)
    | _ => none
  | 6, cs => match cs with
    | [c0] => (match dI .u8 c0 with | some a0 => some a0 | none => none)
    | _ => none
  | 8, cs => match cs with
    | [c0, c1, c2, c3] => (match dI .i64 c0 with | some a0 => (match dI .i64 c1 with | some a1 => (match dB c2 with | some a2 => (match dI .u8 c3 with | some a3 => some (RuntimeBoundsError.mk a0 a1 a2 a3) | none => none) | none => none) | none => none) | none => none)
    | _ => none
  | 9, cs => match cs with
    | [c0] => (match dS c0 with | some a0 => some a0 | none => none)
    | _ => none
  | 10, cs => match cs with
    | [c0] => (match dS c0 with | some a0 => some a0 | none => none)
    | _ => none
  | 11, cs => match cs with
    | [c0] => (match dS c0 with | some a0 => some a0 | none => none)
    | _ => none
  | 12, cs => match cs with
    | [c0] => (match dI .u64 c0 with | some a0 => some a0 | none => none)
    | _ => none
  | 14, cs => match cs with
    | [c0, c1] => (match dS c0 with | some a0 => (match dI .u64 c1 with | some a1 => some (RuntimeErrorAddressString.mk a0 a1) | none => none) | none => none)
    | _ => none
  | 21, cs => match cs with
    | [c0] => (match dI .i32 c0 with | some a0 => some a0 | none => none)
    | _ => none
  | 23, cs => match cs with
    | [c0] => (match dI .u64 c0 with | some a0 => some a0 | none => none)
    | _ => none
  | 25, cs => match cs with
    | [c0] => (match dR 27 c0 with | some a0 => some a0 | none => none)
    | _ => none
  | 27, cs => match cs with
    | [c0, c1, c2, c3, c4, c5, c6, c7] => (match dI .i64 c0 with | some a0 => (match dI .u64 c1 with | some a1 => (match dI .u64 c2 with | some a2 => (match dI .u64 c3 with | some a3 => (match dI .u64 c4 with | some a4 => (match dR 27 c5 with | some a5 => (match dI .i64 c6 with | some a6 => (match dI .i64 c7 with | some a7 => some (Node.mk a0 a1 a2 a3 a4 a5 a6 a7) | none => none) | none => none) | none => none) | none => none) | none => none) | none => none) | none => none) | none => none)
    | _ => none
  | 35, cs => match cs with
    | [c0] => (match dR 9 c0 with | some a0 => some a0 | none => none)
    | _ => none
  | 36, cs => match cs with
    | [c0] => (match dR 4 c0 with | some a0 => some a0 | none => none)
    | _ => none
  | 40, cs => match cs with
    | [c0] => (match dI .i64 c0 with | some a0 => some a0 | none => none)
    | _ => none
  | 48, cs => match cs with
    | [c0] => (match dR 3 c0 with | some a0 => some a0 | none => none)
    | _ => none
  | 50, cs => match cs with
    | [c0] => (match dR 5 c0 with | some a0 => some a0 | none => none)
    | _ => none
  | 60, cs => match cs with
    | [c0, c1, c2, c3, c4] => (match dS c0 with | some a0 => (match dI .i64 c1 with | some a1 => (match dI .i64 c2 with | some a2 => (match dI .i64 c3 with | some a3 => (match dI .i64 c4 with | some a4 => some (Ref1Reader.mk a0 a1 a2 a3 a4) | none => none) | none => none) | none => none) | none => none) | none => none)
    | _ => none
  | 70, cs => match cs with
    | [c0, c1] => (match dI .i64 c0 with | some a0 => (match dI .i64 c1 with | some a1 => some (EreWrong.mk a0 a1) | none => none) | none => none)
    | _ => none
  | 73, cs => match cs with
    | [c0] => (match dR 78 c0 with | some a0 => some a0 | none => none)
    | _ => none
  | 75, cs => match cs with
    | [c0, c1] => (match dR 78 c0 with | some a0 => (match dS c1 with | some a1 => some (NfaMachine.mk a0 a1) | none => none) | none => none)
    | _ => none
  | 78, cs => match cs with
    | [c0, c1, c2, c3, c4, c5, c6, c7, c8, c9] => (match dI .i64 c0 with | some a0 => (match dI .i64 c1 with | some a1 => (match dI .u64 c2 with | some a2 => (match dI .u64 c3 with | some a3 => (match dI .u64 c4 with | some a4 => (match dI .u64 c5 with | some a5 => (match dR 27 c6 with | some a6 => (match dI .i64 c7 with | some a7 => (match dI .i64 c8 with | some a8 => (match dR 3 c9 with | some a9 => some (NfaState.mk a0 a1 a2 a3 a4 a5 a6 a7 a8 a9) | none => none) | none => none) | none => none) | none => none) | none => none) | none => none) | none => none) | none => none) | none => none) | none => none)
    | _ => none
  | 89, cs => match cs with
    | [c0] => (match dR 98 c0 with | some a0 => some a0 | none => none)
    | _ => none
  | 96, cs => match cs with
    | [c0] => (match dI .u64 c0 with | some a0 => some a0 | none => none)
    | _ => none
  | 98, cs => match cs with
    | [c0, c1, c2, c3] => (match dI .i64 c0 with | some a0 => (match dI .i64 c1 with | some a1 => (match dI .i64 c2 with | some a2 => (match dS c3 with | some a3 => some (Ref1Member.mk a0 a1 a2 a3) | none => none) | none => none) | none => none) | none => none)
    | _ => none
  | 111, cs => match cs with
    | [c0] => (match dI .u32 c0 with | some a0 => some a0 | none => none)
    | _ => none
  | 121, cs => match cs with
    | [c0] => (match dI .u8 c0 with | some a0 => some a0 | none => none)
    | _ => none
  | 122, cs => match cs with
    | [c0] => (match dI .u8 c0 with | some a0 => some a0 | none => none)
    | _ => none
  | 125, cs => match cs with
    | [c0] => (match dI .i32 c0 with | some a0 => some a0 | none => none)
    | _ => none
  | 126, cs => match cs with
    | [c0] => (match dI .i32 c0 with | some a0 => some a0 | none => none)
    | _ => none
  | _, _ => none
noncomputable def wd : TypeId → Option Nat
  | 2 => some 1
  | 3 => some 1
  | 4 => some 1
  | 5 => some 1
  | 6 => some 1
  | 8 => some 4
  | 9 => some 1
  | 10 => some 1
  | 11 => some 1
  | 12 => some 1
  | 14 => some 2
  | 21 => some 1
  | 23 => some 1
  | 25 => some 1
  | 27 => some 8
  | 35 => some 1
  | 36 => some 1
  | 40 => some 1
  | 48 => some 1
  | 50 => some 1
  | 60 => some 5
  | 70 => some 2
  | 73 => some 1
  | 75 => some 2
  | 78 => some 10
  | 89 => some 1
  | 96 => some 1
  | 98 => some 4
  | 111 => some 1
  | 121 => some 1
  | 122 => some 1
  | 125 => some 1
  | 126 => some 1
  | _ => none
noncomputable def modeX (f : FuncId) : YtlkaoiceehlkmaaVE.Mode := match f with
  | 2 | 3 | 4 | 5 | 6 | 7 | 8 | 9 | 10 | 11 | 12 | 13 | 14 | 15 | 16 | 17 | 18 | 19 | 20 | 21 | 22 | 23 | 24 | 25 | 26 | 31 | 34 | 35 | 36 | 42 | 45 | 46 | 52 | 57 | 58 | 59 | 60 | 64 | 65 | 67 | 69 | 70 | 71 | 72 | 73 | 75 | 76 | 77 | 78 | 79 | 80 | 81 | 83 | 84 | 85 => .pure
  | _ => .keep
noncomputable def dynX (f : FuncId) (id : Nat) : Option (List (Bool × Tmp × Tmp)) := match f, id with
  | 17, 8 => some [(true, 38, 2), (true, 42, 2)]
  | 19, 8 => some [(true, 45, 2), (true, 48, 2), (true, 52, 2), (true, 55, 2)]
  | 23, 6 => some []
  | 40, 2 => some []
  | 41, 1 => some []
  | 43, 2 => some []
  | 44, 1 => some []
  | 46, 1 => some []
  | 50, 2 => some []
  | 50, 5 => some []
  | 51, 4 => some []
  | 53, 24 => some []
  | 53, 28 => some []
  | 53, 30 => some []
  | 55, 1 => some []
  | 55, 18 => some []
  | 55, 22 => some []
  | 60, 7 => some []
  | 62, 1 => some []
  | 62, 23 => some []
  | 74, 0 => some []
  | 80, 3 => some []
  | _, _ => none
noncomputable def refX (f : FuncId) (d : Nat) : Bool := match f, d with
  | _, _ => false
noncomputable def frzX (f : FuncId) : Bool := match f with
  | _ => false
noncomputable def cfgP (prim : FuncId → List PV → Option PV) : Cfg := { P := Try.prog, prim := prim, mode := modeX, keep := fun _ _ => [], dyn := dynX, byRef := refX, frz := frzX }
noncomputable def cfgX : Cfg := cfgP primEs
noncomputable def X0 : TX := ⟨cfgX, A, lay, dec, wd, fun _ => [], fun _ _ => none, fun _ _ => none⟩
noncomputable def tab0 : FuncId → List (Entry A)
  | 52 => [⟨[(.tmp 0, .str), (.tmp 1, .int .u8)], 0, [(.tmp 0, .int .i64)], tIndexByte⟩] -- strings.IndexByte
  | 81 => [⟨[(.tmp 0, .str), (.tmp 1, .str)], 0, [(.tmp 0, .int .i64)], tIndexL⟩] -- internal/stringslite.Index
  | _ => []
end Go.Proofs.YtlkaoiceehlkmaaTE
