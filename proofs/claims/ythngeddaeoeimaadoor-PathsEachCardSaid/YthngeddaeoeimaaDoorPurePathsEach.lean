import Derived.Test.YthngeddaeoeimaaDoorPax3
namespace Go.Proofs.YthngeddaeoeimaaDoor.Pure
set_option linter.unusedVariables false
open Go Go.RowKit Go.Proofs.YthngeddaeoeimaaDoor.Pa Go.Proofs.YthngeddaeoeimaaDoorW.PrintWords Go.Proofs.YthngeddaeoeimaaDoorW.PrintLast
set_option maxRecDepth 100000 in
theorem paths_alive : patchworklaw3_alive.f 20 = some true := by kernel_rfl
set_option maxRecDepth 100000 in
theorem PathsEach : patchworklaw3_PathsEach.Pure := by
  intro a0 _
  by_cases h0 : a0 < 0
  · refine ⟨20, ?_⟩
    rw [patchworklaw3_PathsEach.f, paths_alive]
    simp only [Option.bind_some]
    rw [if_pos trivial, if_pos h0]
    rfl
  by_cases h9 : a0 ≥ 14
  · refine ⟨20, ?_⟩
    rw [patchworklaw3_PathsEach.f, paths_alive]
    simp only [Option.bind_some]
    rw [if_pos trivial, if_neg h0]
    simp only [List.length_cons, List.length_nil]
    rw [decide_eq_true (show a0 ≥ _ from by simpa using h9)]
    rfl
  obtain h | h | h | h | h | h | h | h | h | h | h | h | h | h : a0 = 0 ∨ a0 = 1 ∨ a0 = 2 ∨ a0 = 3 ∨ a0 = 4 ∨ a0 = 5 ∨ a0 = 6 ∨ a0 = 7 ∨ a0 = 8 ∨ a0 = 9 ∨ a0 = 10 ∨ a0 = 11 ∨ a0 = 12 ∨ a0 = 13 := by omega
  all_goals (subst h; exact ⟨20, by kernel_rfl⟩)
end Go.Proofs.YthngeddaeoeimaaDoor.Pure
