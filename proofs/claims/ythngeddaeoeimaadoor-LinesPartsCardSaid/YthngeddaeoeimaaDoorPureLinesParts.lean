import Derived.Test.YthngeddaeoeimaaDoorLnx4
import Derived.Test.YthngeddaeoeimaaDoorLinesP
namespace Go.Proofs.YthngeddaeoeimaaDoor.Pure
set_option linter.unusedVariables false
open Go Go.RowKit Go.Proofs.YthngeddaeoeimaaDoor.Ln Go.Proofs.YthngeddaeoeimaaDoor.LinesP Go.Proofs.YthngeddaeoeimaaDoorW.PrintWords Go.Proofs.YthngeddaeoeimaaDoorW.PrintLast
theorem alive_ev4 : Ev (fun k => patchworklaw1_alive.f k) true := Ev.of patchworklaw1_alive.mono (k := 20) (by kernel_rfl)
theorem parts_ev (a b : ByteArray) (ha : a.size ≤ 300) (hb : b.size ≤ 300) : Ev (fun k => patchworklaw1_LinesParts.j0 k a b true false) true := by
  have h1 : (a ++ (⟨#[10]⟩ : ByteArray)).data.toList = a.data.toList ++ [10] := by simp [ByteArray.data_append]
  have h2 : ((a ++ (⟨#[10]⟩ : ByteArray)) ++ b).data.toList = a.data.toList ++ 10 :: b.data.toList := by simp [ByteArray.data_append]
  have s1 : (a ++ (⟨#[10]⟩ : ByteArray)).size = a.size + 1 := by rw [sz, h1, List.length_append, ← sz]; rfl
  have s2 : ((a ++ (⟨#[10]⟩ : ByteArray)) ++ b).size = a.size + 1 + b.size := by rw [sz, h2, List.length_append, List.length_cons, ← sz, ← sz]; omega
  have l1 := lns_length_le (a.data.toList ++ [10])
  have l2 := lns_length_le b.data.toList
  have l3 := lns_length_le (a.data.toList ++ 10 :: b.data.toList)
  rw [← h1, ← sz, s1, h1] at l1
  rw [← sz] at l2
  rw [← h2, ← sz, s2, h2] at l3
  refine Ev.step (fun k => by simp only [patchworklaw1_LinesParts.j0]; exact rfl) ?_
  simp only [Bool.false_eq_true, if_false]
  simp only [if_pos (show a.size + 1 ≤ 9223372036854775807 by omega)]
  refine Ev.bindS (split_eq _ (by rw [s1]; omega)) ?_
  refine Ev.bindS (split_eq _ (by omega)) ?_
  rw [h1]
  simp only [if_pos (show ((lns (a.data.toList ++ [10])).map tb).length + ((lns b.data.toList).map tb).length < 8796093022208 by rw [List.length_map, List.length_map]; omega), if_pos (show (a ++ (⟨#[10]⟩ : ByteArray)).size + b.size ≤ 9223372036854775807 by rw [s1]; omega)]
  refine Ev.bindS (split_eq _ (by rw [s2]; omega)) ?_
  rw [h2]
  refine Ev.bind (samef_ev _ _ (by rw [List.length_map]; omega)) ?_
  rw [← List.map_append, map_data, map_data, lns_end, decide_eq_true rfl]
  exact Ev.now _
theorem LinesParts : patchworklaw1_LinesParts.Pure := by
  intro a0 a1 _ _
  refine Ev.rounds (g := fun k => patchworklaw1_LinesParts.f k a0 a1) ?_
  refine Ev.congr (fun k => by simp only [patchworklaw1_LinesParts.f]; exact rfl) ?_
  refine Ev.bind alive_ev4 ?_
  simp only [if_true]
  by_cases h0 : (a0.size : Int) > 300
  · simp only [if_pos h0]
    refine Ev.step (fun k => by simp only [patchworklaw1_LinesParts.j0]; exact rfl) ?_
    exact Ev.now _
  · simp only [if_neg h0]
    by_cases h1 : (a1.size : Int) > 300
    · rw [decide_eq_true h1]
      refine Ev.step (fun k => by simp only [patchworklaw1_LinesParts.j0]; exact rfl) ?_
      exact Ev.now _
    · rw [decide_eq_false h1]
      exact parts_ev a0 a1 (by omega) (by omega)
end Go.Proofs.YthngeddaeoeimaaDoor.Pure
