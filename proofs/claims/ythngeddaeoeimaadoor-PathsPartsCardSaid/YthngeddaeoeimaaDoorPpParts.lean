/- paths.Parts as a function of its own: what the evaluator answers for it, and that it holds; no condition. -/
import Derived.Test.YthngeddaeoeimaaDoorPartsL
import Derived.Test.YthngeddaeoeimaaDoorVeQ1
import Derived.Test.YthngeddaeoeimaaDoorShelfB
namespace Go.Proofs.YthngeddaeoeimaaDoorVE
open Go Go.RowKit Go.Lib Go.Proofs.YthngeddaeoeimaaDoorTE.Paths
set_option linter.unusedVariables false
def pParts : List PV → Option PV
  | [.v (.string s)] => if s.size ≤ 4294967296 then some (.row ((parts s.data.toList).map fun l => [.v (.string ⟨l.toArray⟩)]) .sh) else none
  | _ => none
theorem slash_gives (x : Nat) (W : World) : FnGives Tryd.prog 48 #[] #[encR x] (.bool (x == 47)) W := by
  show Calls Tryd.prog 48 #[.int .i32 x] W _
  go_enter Tryd.func48, Tryd.ntmps48
  go_wp2
  all_goals (go_ret; refine ⟨?_, 0, rfl⟩)
  refine congrArg Ending.returned (show Value.bool ((x : Int) == 47) = Value.bool (x == 47) from congrArg Value.bool ?_)
  rw [Bool.eq_iff_iff, beq_iff_eq, beq_iff_eq]
  omega
theorem slash_pred (w : World) : PredAt Tryd.prog 48 #[] encR (fun r => r == 47) w := fun W x _ => slash_gives x W
theorem slash_eg : ∀ args w, (callFunc 48 args).run Tryd.prog w = .ok (.enter 48 args) w := enters_of Tryd.func48 (by kernel_rfl) rfl
theorem goParts (s : ByteArray) : Lib.goFieldsP (fun r => r == 47) s = (parts s.data.toList).map tb := by
  have := fields_pcs s s.size 0 none [] [] (by omega) (by omega) (.inl ⟨rfl, rfl⟩)
  exact this
set_option maxHeartbeats 1000000 in
set_option maxRecDepth 100000 in
theorem parts_calls (a0 : ByteArray) (w : World) (hs : a0.size ≤ 4294967296) :
    Calls Tryd.prog 28 #[.string a0] w fun e w' => ∃ v : Value, e = .returned v ∧ w'.ownsRow w.heap.size 9 1 v ((parts a0.data.toList).map tb).length (((parts a0.data.toList).map tb).map Value.string) ∧ Below w.heap.size w w' := by
  go_enter Tryd.func28, Tryd.ntmps28
  go_wp2_with fail
  have hc := Tryd.strings_FieldsFunc 48 #[] slash_eg (fun r => r == 47) a0 w hs (slash_pred w)
  rw [goParts] at hc
  refine hc.mono ?_
  clear hc
  rintro e w' ⟨A, rfl, hA, ho, hb⟩
  go_wp2
  go_ret
  refine ⟨_, rfl, ?_, hb⟩
  rw [List.length_map] at ho ⊢
  exact ho
theorem okParts {B : Base} {args : List PV} {p : PV} (hp : pParts args = some p) : PrimAt Tryd.prog 28 B args p := by
  intro wr g st w vs hs ha
  unfold pParts at hp
  split at hp
  · rename_i s
    split at hp
    · rename_i hl
      simp only [Option.some.injEq] at hp
      subst hp
      obtain ⟨a, rfl, h1⟩ := ha.oneArg
      simp only [Rep] at h1
      obtain ⟨rfl, _⟩ := h1
      refine Calls.post (parts_calls s w hl) fun e w' ⟨v, he, ho, hb⟩ => ?_
      subst he
      have := post_own (wr := wr) hs hb ho (by rw [List.all_eq_true]; intro x hx; obtain ⟨l, _, rfl⟩ := List.mem_map.1 hx; rfl)
      simpa [Function.comp_def, tb] using this
    · cases hp
  · cases hp
end Go.Proofs.YthngeddaeoeimaaDoorVE
