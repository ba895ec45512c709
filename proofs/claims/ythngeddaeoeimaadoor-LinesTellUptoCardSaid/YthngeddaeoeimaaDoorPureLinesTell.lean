import Derived.Test.YthngeddaeoeimaaDoorLnx3
import Derived.Test.YthngeddaeoeimaaDoorLinesR
namespace Go.Proofs.YthngeddaeoeimaaDoor.Pure
set_option linter.unusedVariables false
open Go Go.RowKit Go.Proofs.YthngeddaeoeimaaDoor.Ln Go.Proofs.YthngeddaeoeimaaDoor.LinesP Go.Proofs.YthngeddaeoeimaaDoorW.PrintWords Go.Proofs.YthngeddaeoeimaaDoorW.PrintLast
theorem mem_sizeT {l : List ByteArray} {t : ByteArray} (h : t ∈ l) : t.size ≤ (l.map fun t => t.data.toList).flatten.length := by
  have := mem_flat (List.mem_map.2 ⟨t, h, rfl⟩ : t.data.toList ∈ l.map fun t => t.data.toList)
  rw [sz]; exact this
theorem tell_ev (a0 : ByteArray) (l : List ByteArray) (ha : a0.size ≤ 500) (hl : l.length ≤ 1048576) (hf : (l.map fun t => t.data.toList).flatten.length ≤ 1048576) : ∀ (n i : Nat), i + n = l.length →
    Ev (fun k => patchworklaw1_LinesTell.l0 k a0 l (i : Int)) true
  | 0, i, h => by
    refine Ev.step (fun k => by simp only [patchworklaw1_LinesTell.l0]; exact rfl) ?_
    simp only [if_neg (show ¬ (i : Int) < (l.length : Int) by omega)]
    refine Ev.bindS (split_eq _ (by omega)) ?_
    refine Ev.bind (refSplitf_ev _ (by omega)) ?_
    have hln := lns_length_le a0.data.toList
    rw [← sz] at hln
    refine Ev.bind (samef_ev _ _ (by rw [List.length_map]; omega)) ?_
    rw [decide_eq_true rfl]
    simp only [if_true, List.nil_append, List.length_nil, Nat.zero_add]
    simp only [if_pos (show l.length < 8796093022208 by omega)]
    refine Ev.bindS (join_eq l (by omega) (by omega)) ?_
    refine Ev.bind (refJoinf_ev l (by omega) (by omega)) ?_
    simp only [if_true]
    refine Ev.bind (wholef_ev l (by omega) (fun t ht => by have := mem_sizeT ht; omega)) ?_
    refine Ev.bind (refWholef_ev l (by omega) (fun t ht => by have := mem_sizeT ht; omega)) ?_
    rw [beq_self_eq_true]
    exact Ev.now _
  | n + 1, i, h => by
    have hm : (rdOf ByteArray.empty l (i : Int)).size ≤ 1048576 := by
      have h' : i < l.length := by omega
      have : rdOf ByteArray.empty l (i : Int) ∈ l := by simp [rdOf, h']
      have := mem_sizeT this
      omega
    have ih := tell_ev a0 l ha hl hf n (i + 1) (by omega)
    refine Ev.step (fun k => by simp only [patchworklaw1_LinesTell.l0]; exact rfl) ?_
    simp only [if_pos (show (i : Int) < (l.length : Int) by omega), if_pos (show (0 : Int) ≤ (i : Int) by omega)]
    refine Ev.bindS (right_eq _ (by omega)) ?_
    refine Ev.bind (refRightf_ev _ (by omega)) ?_
    simp only [bne_self_eq_false, Bool.false_eq_true, if_false]
    rw [wn i (by omega)]
    exact ih
theorem LinesTell (a0 : ByteArray) (l1 : List ByteArray) (hl : l1.length ≤ 1048576) (hf : (l1.map fun t => t.data.toList).flatten.length ≤ 1048576) : ∃ k, patchworklaw1_LinesTell.f k a0 l1 = some true := by
  refine Ev.rounds (g := fun k => patchworklaw1_LinesTell.f k a0 l1) ?_
  refine Ev.congr (fun k => by simp only [patchworklaw1_LinesTell.f]; exact rfl) ?_
  refine Ev.bind alive_ev3 ?_
  simp only [if_true]
  have stop : Ev (fun k => patchworklaw1_LinesTell.j0 k a0 l1 true true) true := by
    refine Ev.step (fun k => by simp only [patchworklaw1_LinesTell.j0]; exact rfl) ?_
    exact Ev.now _
  by_cases h0 : (a0.size : Int) > 500
  · simp only [if_pos h0]; exact stop
  · simp only [if_neg h0]
    by_cases h1 : (l1.length : Int) > 60
    · simp only [if_pos h1]; exact stop
    · simp only [if_neg h1]
      refine Ev.bind (refJoinf_ev l1 (by omega) (by omega)) ?_
      by_cases h2 : ((tb (l1.map fun t => t.data.toList).flatten).size : Int) > 1000
      · rw [decide_eq_true h2]; exact stop
      · rw [decide_eq_false h2]
        refine Ev.step (fun k => by simp only [patchworklaw1_LinesTell.j0]; exact rfl) ?_
        simp only [Bool.false_eq_true, if_false]
        exact tell_ev a0 l1 (by omega) hl hf l1.length 0 (by omega)
end Go.Proofs.YthngeddaeoeimaaDoor.Pure
