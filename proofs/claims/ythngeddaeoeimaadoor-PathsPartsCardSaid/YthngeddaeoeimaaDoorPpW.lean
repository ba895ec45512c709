/- The walk of PathsParts: what is told of it holds of the program; no condition. -/
import Derived.Test.YthngeddaeoeimaaDoorPurePP
import Derived.Test.YthngeddaeoeimaaDoorPpOk
import Derived.Test.YthngeddaeoeimaaDoorVeQ1
namespace Go.Proofs.YthngeddaeoeimaaDoorTE
open Go Go.Proofs.YthngeddaeoeimaaDoorVE Go.RowKit
set_option linter.unusedVariables false
variable {B : Base}
theorem primOkX : PrimOk cfgX B := by
  intro f args p h
  have h : primPp f args = some p := h
  unfold primPp at h
  split at h
  · exact okParts h
  · exact okCount (Tryd.strings_Count_one) h
  · exact okIndex (Tryd.strings_Index_one) h
  · exact okIndex (Tryd.stringslite_Index_one) h
  · cases h
theorem primHasX : PrimHas cfgX := by
  intro f args p h
  have h : primPp f args = some p := h
  unfold primPp at h
  split at h
  · exact hasBody (by kernel_rfl)
  · exact hasBody (by kernel_rfl)
  · exact hasBody (by kernel_rfl)
  · exact hasBody (by kernel_rfl)
  · cases h
set_option maxRecDepth 100000
theorem cfgOkX : CfgOk cfgX B := ⟨primOkX, primHasX, plain_of (by kernel_rfl), draws_of (by kernel_rfl)⟩
theorem rowInts (l : List Int) : VRs X0 Rn.nil [.row 3 l .sh] [.row (l.map fun n => [.v (.int .i64 n)]) .sh] := by
  have hlen : l.length = (l.map fun n => [PV.v (.int .i64 n)]).length := by simp
  refine .row (n := 1) rfl hlen (fun i a c ha hc => ?_) (fun c hc => ?_) trivial .nil
  · have ha' : l[i]? = some (show Int from a) := ha
    have hc' : (l[i]?).map (fun n => [PV.v (.int .i64 n)]) = some c := by rw [← List.getElem?_map]; exact hc
    rw [ha'] at hc'
    cases hc'
    exact .int .nil
  · obtain ⟨n, _, rfl⟩ := List.mem_map.1 hc; rfl
theorem pathsParts_walk (x0 : List (List UInt8)) (x1 : List Int) (v0 v1 : Value) (w : World) (h0 : RowAt w (x0.map fun s => .string ⟨s.toArray⟩) v0) (h1 : RowAt w (x1.map (Value.int .i64)) v1) :
    Calls Tryd.prog 10 #[v0, v1] w fun e w' => e = .returned (.bool true) ∧ Below w.heap.size w w' := by
  obtain ⟨k, hk⟩ := told_of (X := X0) law3_PathsParts_ok rfl (fun _ => rfl) (v := (x0, x1, ())) (w := (true, ())) (pathsParts_pure x0 x1) rfl (args' := [.row (x0.map fun s => [.v (.string ⟨s.toArray⟩)]) .sh, .row (x1.map fun n => [.v (.int .i64 n)]) .sh]) (VRs.cons (strRow Rn.nil x0 .sh) (rowInts x1)) rfl
  have r0 := rep_strs h0
  have r1 := rep_ints h1
  exact told (C := cfgX) (cfgOkX (B := ⟨w⟩)) hk (startAll w) (vs := [v0, v1]) (by simp only [Reps]; exact ⟨_, _, rfl, r0, _, _, rfl, r1, rfl⟩)
end Go.Proofs.YthngeddaeoeimaaDoorTE
