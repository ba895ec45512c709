import Derived.Test.YtfgfigcpfadedaaDoorVeQ
import Derived.Test.YtfgfigcpfadedaaDoorShelf
namespace Go.Proofs.YtfgfigcpfadedaaDoorVE
open Go Go.RowKit
set_option linter.unusedVariables false
set_option linter.unusedSimpArgs false
def primE (f : FuncId) (args : List PV) : Option PV :=
  match f with
  | 52 => pCount args
  | 53 | 66 => pIndex args
  | 46 => pIndexByte args
  | 42 => pAtoi args
  | 15 => pFields args
  | _ => none
def modeE (f : FuncId) : Mode :=
  match f with
  | 38 | 71 => .rd
  | 14 | 16 | 20 | 21 | 22 | 29 | 30 | 37 | 45 | 55 | 56 | 67 | 68 | 84 => .loc
  | _ => .pure
def dynE (f : FuncId) (id : Nat) : Option (List (Bool × Tmp × Tmp)) :=
  match f with
  | 5 => match id with
    | 7 => some [(false, 43, 43), (false, 47, 47)]
    | _ => none
  | 25 => match id with
    | 8 => some [(true, 45, 2), (true, 48, 2), (true, 52, 2), (true, 55, 2)]
    | _ => none
  | 34 => match id with
    | 13 => some [(true, 78, 2)]
    | _ => none
  | 3 | 4 | 8 | 17 | 18 | 37 | 38 | 45 | 47 | 54 | 55 | 67 | 84 => some []
  | _ => none
noncomputable def cfgE : Cfg := { P := Tryd.prog, prim := primE, mode := modeE, keep := fun _ _ => [], dyn := dynE, byRef := fun f _ => f == 43, frz := fun f => f == 43 }
variable {B : Base}
theorem primOkE (htab : Lib.TabIs Tryd.prog B.w "strings.asciiSpace" .u8 Lib.asciiSpaceTab) : PrimOk cfgE B := by
  intro f args p h
  simp only [cfgE, primE] at h ⊢
  split at h
  · exact okCount (Tryd.strings_Count_one) h
  · exact okIndex (Tryd.strings_Index_one) h
  · exact okIndex (Tryd.stringslite_Index_one) h
  · exact okIndexByte (Tryd.strings_IndexByte) h
  · exact okAtoi (Tryd.strconv_Atoi) h
  · exact okFields (Tryd.strings_Fields) htab h
  · cases h
theorem primHasE : PrimHas cfgE := by
  intro f args p h
  simp only [cfgE, primE] at h ⊢
  split at h
  · exact hasBody (by kernel_rfl)
  · exact hasBody (by kernel_rfl)
  · exact hasBody (by kernel_rfl)
  · exact hasBody (by kernel_rfl)
  · exact hasBody (by kernel_rfl)
  · exact hasBody (by kernel_rfl)
  · cases h
set_option maxRecDepth 100000
theorem cfgOkE (htab : Lib.TabIs Tryd.prog B.w "strings.asciiSpace" .u8 Lib.asciiSpaceTab) : CfgOk cfgE B := ⟨primOkE htab, primHasE, plain_of (by kernel_rfl), draws_of (by kernel_rfl)⟩
end Go.Proofs.YtfgfigcpfadedaaDoorVE
