import Derived.Test.YthngeddaeoeimaaDoorLnx5
namespace Go.Proofs.YthngeddaeoeimaaDoor.Pure
open Go.RowKit Go.Proofs.YthngeddaeoeimaaDoor.Ln Go.Proofs.YthngeddaeoeimaaDoorW.PrintWords Go.Proofs.YthngeddaeoeimaaDoorW.PrintLast
theorem alive_ok5 : patchworklaw1_alive.f 20 = some true := by kernel_rfl
theorem LinesEach : patchworklaw1_LinesEach.Pure := by
  intro a0 _
  by_cases h0 : a0 < 0
  · refine ⟨20, ?_⟩
    rw [patchworklaw1_LinesEach.f, alive_ok5]
    simp only [Option.bind_some]
    rw [if_pos trivial, if_pos h0]
    rfl
  by_cases h9 : a0 ≥ 9
  · refine ⟨20, ?_⟩
    rw [patchworklaw1_LinesEach.f, alive_ok5]
    simp only [Option.bind_some]
    rw [if_pos trivial, if_neg h0]
    simp only [List.length_cons, List.length_nil]
    rw [decide_eq_true (show a0 ≥ _ from by simpa using h9)]
    rfl
  obtain h | h | h | h | h | h | h | h | h : a0 = 0 ∨ a0 = 1 ∨ a0 = 2 ∨ a0 = 3 ∨ a0 = 4 ∨ a0 = 5 ∨ a0 = 6 ∨ a0 = 7 ∨ a0 = 8 := by omega
  all_goals (subst h; exact ⟨20, by kernel_rfl⟩)
end Go.Proofs.YthngeddaeoeimaaDoor.Pure
