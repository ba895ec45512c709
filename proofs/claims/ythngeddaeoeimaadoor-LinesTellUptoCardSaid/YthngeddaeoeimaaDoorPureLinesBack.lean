import Derived.Test.YthngeddaeoeimaaDoorLnx3
import Derived.Test.YthngeddaeoeimaaDoorLinesP
namespace Go.Proofs.YthngeddaeoeimaaDoor.Pure
set_option linter.unusedVariables false
open Go Go.RowKit Go.Proofs.YthngeddaeoeimaaDoor.Ln Go.Proofs.YthngeddaeoeimaaDoor.LinesP Go.Proofs.YthngeddaeoeimaaDoorW.PrintWords Go.Proofs.YthngeddaeoeimaaDoorW.PrintLast
theorem alive_ev3 : Ev (fun k => patchworklaw1_alive.f k) true := Ev.of patchworklaw1_alive.mono (k := 20) (by kernel_rfl)
theorem dat_drop (p : ByteArray) (i : Nat) (h : i < p.size) : ∃ b : UInt8, p.data.toList.drop i = b :: p.data.toList.drop (i + 1) ∧ bt p i = (b.toNat : Int) := by
  have h' : i < p.data.toList.length := by rw [← sz]; exact h
  refine ⟨p.data.toList[i], List.drop_eq_getElem_cons h', ?_⟩
  unfold bt
  rw [dif_pos (by simpa using h)]
  simp [ByteArray.getElem_eq_getElem_data]
theorem ten_iff (b : UInt8) : (b.toNat : Int) = 10 ↔ b = 10 := by
  constructor
  · intro h; exact UInt8.toNat_inj.1 (by have : b.toNat = 10 := by omega
                                         rw [this]; rfl)
  · rintro rfl; rfl
theorem mem_flat : ∀ {L : List (List UInt8)} {l : List UInt8}, l ∈ L → l.length ≤ L.flatten.length
  | x :: L, l, h => by
    rw [List.flatten_cons, List.length_append]
    rcases List.mem_cons.1 h with rfl | h
    · omega
    · have := mem_flat h; omega
theorem mem_lns_size (s : List UInt8) : ∀ t ∈ (lns s).map tb, t.size ≤ s.length := by
  intro t ht
  obtain ⟨l, hl, rfl⟩ := List.mem_map.1 ht
  have h := mem_flat hl
  rw [lns_flat] at h
  rw [sz, tb_data]; exact h

theorem tail_ev (a : ByteArray) (c : Nat) (o : Bool) (ha : a.size ≤ 500) (hc : (lns a.data.toList).length = c + if o then 1 else 0) : Ev (fun k => patchworklaw1_LinesBack.j2 k a (c : Int) o) true := by
  have hl := lns_length_le a.data.toList
  rw [← sz] at hl
  have hw := wholef_ev ((lns a.data.toList).map tb) (by rw [List.length_map]; omega) (fun t ht => by have := mem_lns_size _ t ht; rw [← sz] at this; omega)
  rw [map_data, whole_lns] at hw
  have hj := join_eq ((lns a.data.toList).map tb) (by rw [List.length_map]; omega) (by rw [map_data, lns_flat, ← sz]; omega)
  rw [map_data, lns_flat] at hj
  refine Ev.step (fun k => by simp only [patchworklaw1_LinesBack.j2]; exact rfl) ?_
  cases o with
  | true =>
    simp only [if_true] at hc ⊢
    refine Ev.bindS (split_eq _ (by omega)) ?_
    refine Ev.bindS hj ?_
    simp only [if_pos (show (tb a.data.toList).toList = a.toList by rw [tb_of])]
    refine Ev.bind hw ?_
    simp only [if_true]
    rw [wn c (by omega), List.length_map, hc, beq_self_eq_true]
    exact Ev.now _
  | false =>
    simp only [Bool.false_eq_true, if_false] at hc ⊢
    refine Ev.bindS (split_eq _ (by omega)) ?_
    refine Ev.bindS hj ?_
    simp only [if_pos (show (tb a.data.toList).toList = a.toList by rw [tb_of])]
    refine Ev.bind hw ?_
    simp only [if_true]
    rw [List.length_map, hc, Nat.add_zero, beq_self_eq_true]
    exact Ev.now _

theorem loop_ev (a : ByteArray) (ha : a.size ≤ 500) : ∀ (n i c : Nat), i + n = a.size → c + (a.data.toList.drop i).count 10 = a.data.toList.count 10 → Ev (fun k => patchworklaw1_LinesBack.l0 k a (c : Int) (i : Int)) true
  | 0, i, c, h, hc => by
    rw [List.drop_of_length_le (by rw [← sz]; omega), List.count_nil, Nat.add_zero] at hc
    refine Ev.step (fun k => by simp only [patchworklaw1_LinesBack.l0]; exact rfl) ?_
    simp only [if_neg (show ¬ (i : Int) < (a.size : Int) by omega)]
    have hcount := lns_count a.data.toList
    by_cases h0 : (a.size : Int) > 0
    · simp only [if_pos h0]
      have hs1 : wrap64 ((a.size : Int) - 1) = ((a.size - 1 : Nat) : Int) := by rw [w64 (by omega) (by omega)]; omega
      rw [hs1]
      simp only [if_pos (show (0 : Int) ≤ ((a.size - 1 : Nat) : Int) by omega), if_pos (show ((a.size - 1 : Nat) : Int) < (a.size : Int) by omega)]
      obtain ⟨b, hb, hbt⟩ := dat_drop a (a.size - 1) (by omega)
      rw [List.drop_of_length_le (i := a.size - 1 + 1) (by rw [← sz]; omega)] at hb
      have hs := List.take_append_drop (a.size - 1) a.data.toList
      rw [hb] at hs
      have hcl : closedL a.data.toList = (b == 10) := by rw [← hs]; exact suf_snoc _ _
      have hne : a.data.toList.isEmpty = false := by rw [← hs]; simp
      rw [hne, hcl, Bool.false_or] at hcount
      rw [hbt]
      by_cases hb10 : b = 10
      · have : ((b.toNat : Int) != 10) = false := by rw [(ten_iff b).2 hb10]; rfl
        rw [this]
        refine tail_ev a c false ha ?_
        rw [hcount, hb10, hc]; rfl
      · have : ((b.toNat : Int) != 10) = true := by rw [bne_iff_ne]; exact fun h => hb10 ((ten_iff b).1 h)
        rw [this]
        refine tail_ev a c true ha ?_
        rw [hcount, if_neg (by simpa using hb10), hc]; rfl
    · simp only [if_neg h0]
      refine tail_ev a c false ha ?_
      have he : a.data.toList = [] := List.eq_nil_of_length_eq_zero (by rw [← sz]; omega)
      rw [hcount, hc, he]; rfl
  | n + 1, i, c, h, hc => by
    obtain ⟨b, hb, hbt⟩ := dat_drop a i (by omega)
    rw [hb] at hc
    refine Ev.step (fun k => by simp only [patchworklaw1_LinesBack.l0]; exact rfl) ?_
    simp only [if_pos (show (i : Int) < (a.size : Int) by omega), if_pos (show (0 : Int) ≤ (i : Int) by omega), hbt]
    have hcl : a.data.toList.count 10 ≤ 500 := Nat.le_trans List.count_le_length (by rw [← sz]; exact ha)
    by_cases hb10 : b = 10
    · simp only [if_pos ((ten_iff b).2 hb10)]
      rw [hb10, List.count_cons_self] at hc
      rw [wn c (by omega), wn i (by omega)]
      exact loop_ev a ha n (i + 1) (c + 1) (by omega) (by omega)
    · simp only [if_neg (fun h => hb10 ((ten_iff b).1 h))]
      rw [List.count_cons_of_ne (by simpa using hb10)] at hc
      rw [wn i (by omega)]
      exact loop_ev a ha n (i + 1) c (by omega) hc
theorem LinesBack : patchworklaw1_LinesBack.Pure := by
  intro a0 _
  refine Ev.rounds (g := fun k => patchworklaw1_LinesBack.f k a0) ?_
  refine Ev.congr (fun k => by simp only [patchworklaw1_LinesBack.f]; exact rfl) ?_
  refine Ev.bind alive_ev3 ?_
  simp only [if_true]
  by_cases h0 : (a0.size : Int) > 500
  · rw [decide_eq_true h0]
    refine Ev.step (fun k => by simp only [patchworklaw1_LinesBack.j0]; exact rfl) ?_
    exact Ev.now _
  · rw [decide_eq_false h0]
    refine Ev.step (fun k => by simp only [patchworklaw1_LinesBack.j0]; exact rfl) ?_
    exact loop_ev a0 (by omega) a0.size 0 0 (by omega) (by simp)
end Go.Proofs.YthngeddaeoeimaaDoor.Pure
