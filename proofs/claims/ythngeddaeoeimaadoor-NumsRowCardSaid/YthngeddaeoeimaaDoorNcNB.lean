/- The walk of NumsBack: what is told of it holds of the program; no condition but the table of powers. -/
import Derived.Test.YthngeddaeoeimaaDoorPureNB
import Derived.Test.YthngeddaeoeimaaDoorVeP
import Derived.Test.YthngeddaeoeimaaDoorShelf
import Derived.Test.YthngeddaeoeimaaDoorShelfB
namespace Go.Proofs.YthngeddaeoeimaaDoorTE
open Go Go.Proofs.YthngeddaeoeimaaDoorVE Go.RowKit
set_option linter.unusedVariables false
variable {B : Base}
theorem primOkX (htab : Lib.TabIs Tryd.prog B.w "internal/strconv.uint64pow10" .u64 Lib.pow10Tab) : PrimOk cfgX B := by
  intro f args p h
  have h : primC f args = some p := h
  unfold primC at h
  split at h
  · exact okCount (Tryd.strings_Count_one) h
  · exact okIndex (Tryd.strings_Index_one) h
  · exact okIndex (Tryd.stringslite_Index_one) h
  · exact okAtoiAll (fun s hm v hv w => Tryd.strconv_Atoi_ok s hm v hv w) h
  · exact okItoa (fun n h0 h1 w ht => Tryd.strconv_Itoa n h0 h1 w ht) htab h
  · cases h
theorem primHasX : PrimHas cfgX := by
  intro f args p h
  have h : primC f args = some p := h
  unfold primC at h
  split at h
  · exact hasBody (by kernel_rfl)
  · exact hasBody (by kernel_rfl)
  · exact hasBody (by kernel_rfl)
  · exact hasBody (by kernel_rfl)
  · exact hasBody (by kernel_rfl)
  · cases h
set_option maxRecDepth 100000
theorem cfgOkX (htab : Lib.TabIs Tryd.prog B.w "internal/strconv.uint64pow10" .u64 Lib.pow10Tab) : CfgOk cfgX B := ⟨primOkX htab, primHasX, plain_of (by kernel_rfl), draws_of (by kernel_rfl)⟩
theorem numsBack_walk (n p : Int) (s : ByteArray) (w : World) (htab : Lib.TabIs Tryd.prog w "internal/strconv.uint64pow10" .u64 Lib.pow10Tab) : Calls Tryd.prog 12 #[.int .i64 n, .int .i64 p, .string s] w fun e w' => e = .returned (.bool true) ∧ Below w.heap.size w w' := by
  obtain ⟨k, hk⟩ := told_of (X := X0) law2_NumsBack_ok rfl (fun _ => rfl) (v := (n, p, s.data.toList, ())) (w := (true, ())) (numsBack_pure n p s.data.toList) rfl (args' := [.v (.int .i64 n), .v (.int .i64 p), .v (.string s)]) (.int (.int (.str .nil))) rfl
  exact told (C := cfgX) (cfgOkX (B := ⟨w⟩) htab) hk (YthngeddaeoeimaaDoorVE.start w) (vs := [.int .i64 n, .int .i64 p, .string s]) (by simp only [Reps]; exact ⟨_, _, rfl, Rep.ofFlat rfl, _, _, rfl, Rep.ofFlat rfl, _, _, rfl, Rep.ofFlat rfl, rfl⟩)
end Go.Proofs.YthngeddaeoeimaaDoorTE
