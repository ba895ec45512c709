/- What the printed functions of paths lean on: the sign's question, and rows of texts that a call handed back; no condition. -/
import Derived.Test.YthngeddaeoeimaaDoorX
import Derived.Test.YthngeddaeoeimaaDoorShelfB
namespace Go.Proofs
open Go.RowKit Go.Proofs.YthngeddaeoeimaaDoorW.PrintWords
theorem slash_gives (x : Nat) (W : World) : FnGives Tryd.prog 48 #[] #[encR x] (.bool (x == 47)) W := by
  show Calls Tryd.prog 48 #[.int .i32 x] W _
  go_enter Tryd.func48, Tryd.ntmps48
  go_wp2
  all_goals (go_ret; refine ⟨?_, 0, rfl⟩)
  refine congrArg Ending.returned (show Value.bool ((x : Int) == 47) = Value.bool (x == 47) from congrArg Value.bool ?_)
  rw [Bool.eq_iff_iff, beq_iff_eq, beq_iff_eq]
  omega
theorem slash_pred (w : World) : PredAt Tryd.prog 48 #[] encR (fun r => r == 47) w := fun W x _ => slash_gives x W
theorem slash_eg : ∀ args w, (callFunc 48 args).run Tryd.prog w = .ok (.enter 48 args) w := enters_of Tryd.func48 (by kernel_rfl) rfl
theorem strs_of_own {W : World} {base : Nat} {v : Value} {xs : List ByteArray} (h : W.ownsRow base 9 1 v xs.length (xs.map Value.string)) :
    Kd.R Kd.string 9 W base (fun _ => True) v xs :=
  ⟨fun _ _ => trivial, encs Value.string xs, by simpa [encs, Kd.string, Kd.scalar] using h, Kd.reps_scalar xs⟩
set_option maxHeartbeats 1000000 in
set_option maxRecDepth 100000 in
theorem parts_calls (a0 : ByteArray) (w : World) (hs : a0.size ≤ 4294967296) :
    Calls Tryd.prog 28 #[.string a0] w fun e w' => ∃ v0_ : Value, e = .returned v0_ ∧ Kd.R Kd.string 9 w' w.heap.size (fun _ => True) v0_ (Lib.goFieldsP (fun r => r == 47) a0) ∧ Below w.heap.size w w' := by
  go_enter Tryd.func28, Tryd.ntmps28
  go_wp2_with fail
  have hc := Tryd.strings_FieldsFunc 48 #[] slash_eg (fun r => r == 47) a0 w hs (slash_pred w)
  refine hc.mono ?_
  clear hc
  rintro e w' ⟨A, rfl, hA, ho, hb⟩
  go_wp2
  go_ret
  exact ⟨_, rfl, strs_of_own ho, hb⟩
end Go.Proofs
