import Derived.Test.YthngeddaeoeimaaDoorLnx4
import Derived.Test.YthngeddaeoeimaaDoorLinesR
namespace Go.Proofs.YthngeddaeoeimaaDoor.Pure
set_option linter.unusedVariables false
open Go Go.RowKit Go.Proofs.YthngeddaeoeimaaDoor.Ln Go.Proofs.YthngeddaeoeimaaDoor.LinesP Go.Proofs.YthngeddaeoeimaaDoorW.PrintWords Go.Proofs.YthngeddaeoeimaaDoorW.PrintLast
theorem mem_size {l : List ByteArray} {t : ByteArray} (h : t ∈ l) : t.size ≤ (l.map fun t => t.data.toList).flatten.length := by
  have := mem_flat (List.mem_map.2 ⟨t, h, rfl⟩ : t.data.toList ∈ l.map fun t => t.data.toList)
  rw [sz]; exact this
theorem LinesWhole (l0 : List ByteArray) (hl : l0.length ≤ 1048576) (hf : (l0.map fun t => t.data.toList).flatten.length ≤ 1048576) : ∃ k, patchworklaw1_LinesWhole.f k l0 = some true := by
  refine Ev.rounds (g := fun k => patchworklaw1_LinesWhole.f k l0) ?_
  refine Ev.congr (fun k => by simp only [patchworklaw1_LinesWhole.f]; exact rfl) ?_
  refine Ev.bind alive_ev3 ?_
  refine Ev.bind (refJoinf_ev l0 (by omega) (by omega)) ?_
  simp only [if_true]
  have stop : Ev (fun k => patchworklaw1_LinesWhole.j0 k l0 true (tb (l0.map fun t => t.data.toList).flatten) true) true := by
    refine Ev.step (fun k => by simp only [patchworklaw1_LinesWhole.j0]; exact rfl) ?_
    exact Ev.now _
  by_cases h0 : (l0.length : Int) > 60
  · simp only [if_pos h0]; exact stop
  · simp only [if_neg h0]
    by_cases h1 : ((tb (l0.map fun t => t.data.toList).flatten).size : Int) > 1000
    · rw [decide_eq_true h1]; exact stop
    · rw [decide_eq_false h1]
      refine Ev.step (fun k => by simp only [patchworklaw1_LinesWhole.j0]; exact rfl) ?_
      simp only [Bool.false_eq_true, if_false]
      refine Ev.bind (wholef_ev l0 (by omega) (fun t ht => by have := mem_size ht; omega)) ?_
      refine Ev.bindS (split_eq _ (by omega)) ?_
      have hln := lns_length_le (l0.map fun t => t.data.toList).flatten
      refine Ev.bind (samef_ev _ _ (by rw [List.length_map, tb_data]; omega)) ?_
      rw [tb_data, map_data, whole_iff, beq_self_eq_true]
      exact Ev.now _
end Go.Proofs.YthngeddaeoeimaaDoor.Pure
