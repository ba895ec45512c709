import Derived.Test.YthngeddaeoeimaaDoorLnx2
import Derived.Test.YthngeddaeoeimaaDoorPureLinesBack
namespace Go.Proofs.YthngeddaeoeimaaDoor.LinesP
set_option linter.unusedVariables false
open Go Go.RowKit Go.Proofs.YthngeddaeoeimaaDoor.Ln Go.Proofs.YthngeddaeoeimaaDoor.Pure Go.Proofs.YthngeddaeoeimaaDoorW.PrintWords Go.Proofs.YthngeddaeoeimaaDoorW.PrintLast

/-! the reference's functions -/
theorem nums_bytes (l : List UInt8) : strOfNums (bytesOf (tb l)) = tb l := by
  unfold strOfNums tb
  congr 2
  show (l.map fun b => (b.toNat : Int)).map _ = l
  rw [List.map_map]
  conv => rhs; rw [← List.map_id l]
  exact List.map_congr_left fun b _ => by simp
theorem bytesOf_tb (l : List UInt8) : bytesOf (tb l) = l.map fun b => (b.toNat : Int) := rfl
theorem refJoin_ev (l : List ByteArray) (hl : l.length ≤ 1000000000000000) (hf : (l.map fun t => t.data.toList).flatten.length < 140737488355328) : ∀ (n i : Nat) (d : List UInt8), i + n = l.length →
    d ++ ((l.map fun t => t.data.toList).drop i).flatten = (l.map fun t => t.data.toList).flatten → Ev (fun k => patchworkref1_Join.l0 k l (bytesOf (tb d)) (i : Int)) (tb (l.map fun t => t.data.toList).flatten)
  | 0, i, d, h, hd => by
    rw [List.drop_of_length_le (by simp; omega), List.flatten_nil, List.append_nil] at hd
    refine Ev.step (fun k => by simp only [patchworkref1_Join.l0]; exact rfl) ?_
    simp only [if_neg (show ¬ (i : Int) < (l.length : Int) by omega)]
    rw [nums_bytes, hd]
    exact Ev.now _
  | n + 1, i, d, h, hd => by
    rw [at_drop l i (by omega), List.flatten_cons, ← List.append_assoc] at hd
    have ih := refJoin_ev l hl hf n (i + 1) _ (by omega) hd
    have hsz : (bytesOf (tb d)).length + (rdOf ByteArray.empty l (i : Int)).size < 140737488355328 := by
      have := congrArg List.length hd
      rw [List.length_append, List.length_append] at this
      rw [bytesOf_length, sz, sz, tb_data]; omega
    refine Ev.step (fun k => by simp only [patchworkref1_Join.l0]; exact rfl) ?_
    simp only [if_pos (show (i : Int) < (l.length : Int) by omega), if_pos (show (0 : Int) ≤ (i : Int) by omega), if_pos hsz]
    rw [wn i (by omega)]
    rw [bytesOf_tb, List.map_append] at ih
    exact ih
theorem refJoinf_ev (l : List ByteArray) (hl : l.length ≤ 1000000000000000) (hf : (l.map fun t => t.data.toList).flatten.length < 140737488355328) : Ev (fun k => patchworkref1_Join.f k l) (tb (l.map fun t => t.data.toList).flatten) :=
  refJoin_ev l hl hf l.length 0 [] (by omega) (by simp)

theorem refRight_ev (a : ByteArray) (ha : a.size ≤ 1000000000000000) : ∀ (n i : Nat), i + n = a.size →
    Ev (fun k => patchworkref1_RightLine.l0 k a (i : Int)) (!a.data.toList.isEmpty && !((a.data.toList.dropLast.drop i).contains 10))
  | 0, i, h => by
    refine Ev.step (fun k => by simp only [patchworkref1_RightLine.l0]; exact rfl) ?_
    rw [wn i (by omega)]
    simp only [if_neg (show ¬ ((i + 1 : Nat) : Int) < (a.size : Int) by omega)]
    rw [List.drop_of_length_le (by rw [List.length_dropLast, ← sz]; omega), Lib.toList_data]
    have : (a.data.toList != []) = (!a.data.toList.isEmpty && !(([] : List UInt8).contains 10)) := by cases a.data.toList <;> rfl
    rw [this]
    exact Ev.now _
  | n + 1, i, h => by
    have hlen : a.data.toList.dropLast.length = a.size - 1 := by rw [List.length_dropLast, ← sz]
    refine Ev.step (fun k => by simp only [patchworkref1_RightLine.l0]; exact rfl) ?_
    rw [wn i (by omega)]
    by_cases hi : i + 1 < a.size
    · simp only [if_pos (show ((i + 1 : Nat) : Int) < (a.size : Int) by omega), if_pos (show (0 : Int) ≤ (i : Int) by omega), if_pos (show (i : Int) < (a.size : Int) by omega)]
      obtain ⟨b, hb, hbt⟩ := dat_drop a i (by omega)
      have hne : a.data.toList ≠ [] := fun e => by rw [sz, e] at hi; simp at hi
      have hd : a.data.toList.dropLast.drop i = b :: a.data.toList.dropLast.drop (i + 1) := by
        rw [List.drop_eq_getElem_cons (by rw [hlen]; omega)]
        congr 1
        rw [List.getElem_dropLast]
        have := congrArg List.head? hb
        rw [List.head?_drop, List.getElem?_eq_getElem (by rw [← sz]; omega)] at this
        exact Option.some.inj this
      rw [hd, hbt]
      by_cases h10 : b = 10
      · simp only [if_pos ((ten_iff b).2 h10)]
        rw [h10]
        have : (!a.data.toList.isEmpty && !((10 : UInt8) :: a.data.toList.dropLast.drop (i + 1)).contains 10) = false := by simp
        rw [this]
        exact Ev.now _
      · simp only [if_neg (fun h => h10 ((ten_iff b).1 h))]
        have : ((b :: a.data.toList.dropLast.drop (i + 1)).contains 10) = (a.data.toList.dropLast.drop (i + 1)).contains 10 := by
          rw [List.contains_cons]
          have : ((10 : UInt8) == b) = false := by rw [beq_eq_false_iff_ne]; exact fun h => h10 h.symm
          rw [this, Bool.false_or]
        rw [this]
        exact refRight_ev a ha n (i + 1) (by omega)
    · simp only [if_neg (show ¬ ((i + 1 : Nat) : Int) < (a.size : Int) by omega)]
      rw [List.drop_of_length_le (by rw [hlen]; omega), Lib.toList_data]
      have : (a.data.toList != []) = (!a.data.toList.isEmpty && !(([] : List UInt8).contains 10)) := by cases a.data.toList <;> rfl
      rw [this]
      exact Ev.now _
theorem refRightf_ev (a : ByteArray) (ha : a.size ≤ 1000000000000000) : Ev (fun k => patchworkref1_RightLine.f k a) (rightL a.data.toList) := refRight_ev a ha a.size 0 (by omega)

theorem open_eq (a : ByteArray) (ha : a.size ≤ 1000000000000000) : patchworkref1_Open.f a = some (!closedL a.data.toList) := by
  unfold patchworkref1_Open.f
  rw [Lib.toList_data]
  by_cases h : a.data.toList = []
  · rw [if_pos h, h]; rfl
  · rw [if_neg h]
    have h0 : 0 < a.size := by rw [sz]; exact List.length_pos_iff.2 h
    have hs1 : wrap64 ((a.size : Int) - 1) = ((a.size - 1 : Nat) : Int) := by rw [w64 (by omega) (by omega)]; omega
    rw [hs1, if_pos (by omega), if_pos (by omega)]
    obtain ⟨b, hb, hbt⟩ := dat_drop a (a.size - 1) (by omega)
    rw [List.drop_of_length_le (i := a.size - 1 + 1) (by rw [← sz]; omega)] at hb
    have hs := List.take_append_drop (a.size - 1) a.data.toList
    rw [hb] at hs
    rw [hbt]
    conv => rhs; rw [← hs]
    rw [suf_snoc]
    by_cases h10 : b = 10
    · rw [h10]; rfl
    · have e1 : ((b.toNat : Int) != 10) = true := by rw [bne_iff_ne]; exact fun h => h10 ((ten_iff b).1 h)
      have e2 : (b == 10) = false := by rw [beq_eq_false_iff_ne]; exact h10
      rw [e1, e2]; rfl

theorem refWhole_ev (l : List ByteArray) (hl : l.length ≤ 1000000000000000) (hs : ∀ t ∈ l, t.size ≤ 1000000000000000) : ∀ (n i : Nat), i + n = l.length → Ev (fun k => patchworkref1_Whole.l0 k l (i : Int)) (wholeL ((l.map fun t => t.data.toList).drop i))
  | 0, i, h => by
    refine Ev.step (fun k => by simp only [patchworkref1_Whole.l0]; exact rfl) ?_
    rw [List.drop_of_length_le (by simp; omega)]
    simp only [if_neg (show ¬ (i : Int) < (l.length : Int) by omega)]
    exact Ev.now _
  | n + 1, i, h => by
    have hm : (rdOf ByteArray.empty l (i : Int)).size ≤ 1000000000000000 := by
      refine hs _ ?_
      have : i < l.length := by omega
      simp [rdOf, this]
    have ih := refWhole_ev l hl hs n (i + 1) (by omega)
    refine Ev.step (fun k => by simp only [patchworkref1_Whole.l0]; exact rfl) ?_
    rw [at_drop l i (by omega)]
    simp only [if_pos (show (i : Int) < (l.length : Int) by omega), if_pos (show (0 : Int) ≤ (i : Int) by omega)]
    refine Ev.bind (refRightf_ev _ hm) ?_
    simp only [wholeL]
    cases hr : rightL (rdOf ByteArray.empty l (i : Int)).data.toList with
    | false => exact Ev.now _
    | true =>
      simp only [if_true]
      refine Ev.bindS (open_eq _ hm) ?_
      rw [wn i (by omega)]
      cases hc : closedL (rdOf ByteArray.empty l (i : Int)).data.toList with
      | true => simpa using ih
      | false =>
        simp only [Bool.not_false, if_true]
        by_cases hi : i + 1 < l.length
        · simp only [if_pos (show ((i + 1 : Nat) : Int) < (l.length : Int) by omega)]
          have hne : ((l.map fun t => t.data.toList).drop (i + 1)).isEmpty = false := by
            rw [List.isEmpty_eq_false_iff]; intro h; have := congrArg List.length h; simp at this; omega
          rw [hne]
          exact Ev.now _
        · simp only [if_neg (show ¬ ((i + 1 : Nat) : Int) < (l.length : Int) by omega)]
          have he : (l.map fun t => t.data.toList).drop (i + 1) = [] := List.drop_of_length_le (by simp; omega)
          rw [he] at ih ⊢
          simpa using ih
theorem refWholef_ev (l : List ByteArray) (hl : l.length ≤ 1000000000000000) (hs : ∀ t ∈ l, t.size ≤ 1000000000000000) : Ev (fun k => patchworkref1_Whole.f k l) (wholeL (l.map fun t => t.data.toList)) := refWhole_ev l hl hs l.length 0 (by omega)

theorem right_snoc {p : List UInt8} (h : (10 : UInt8) ∉ p) (b : UInt8) : lns (p ++ [b]) = [p ++ [b]] := lns_right (by simp [rightL, h])
theorem cut_ab (a : ByteArray) {p r : List UInt8} (st i : Nat) (b : UInt8) (h : a.data.toList.drop st = p ++ b :: r) (hi : st + p.length = i) : a.extract st (i + 1) = tb (p ++ [b]) := by
  rw [← tb_of (a.extract st (i + 1)), Lib.extract_data, h]
  congr 1
  rw [show i + 1 - st = p.length + 1 by omega, List.take_append, List.take_of_length_le (by omega)]
  simp
theorem refSplit_ev (a : ByteArray) (ha : a.size ≤ 1000000) : ∀ (n st i : Nat) (p : List UInt8) (acc : List ByteArray), i + n = a.size → st + p.length = i → a.data.toList.drop st = p ++ a.data.toList.drop i → (10 : UInt8) ∉ p → (n = 0 → p = []) → acc.length ≤ i →
    Ev (fun k => patchworkref1_Split.l0 k a acc (st : Int) (i : Int)) (acc ++ (lns (a.data.toList.drop st)).map tb)
  | 0, st, i, p, acc, h, hst, hd, hp, h0, hacc => by
    refine Ev.step (fun k => by simp only [patchworkref1_Split.l0]; exact rfl) ?_
    simp only [if_neg (show ¬ (i : Int) < (a.size : Int) by omega)]
    rw [hd, h0 rfl, List.drop_of_length_le (by rw [← sz]; omega)]
    simp only [lns, List.map_nil, List.append_nil]
    exact Ev.now _
  | n + 1, st, i, p, acc, h, hst, hd, hp, h0, hacc => by
    obtain ⟨b, hb, hbt⟩ := dat_drop a i (by omega)
    have hd' := hd
    rw [hb] at hd'
    refine Ev.step (fun k => by simp only [patchworkref1_Split.l0]; exact rfl) ?_
    rw [wn i (by omega)]
    simp only [if_pos (show (i : Int) < (a.size : Int) by omega), if_pos (show (0 : Int) ≤ (i : Int) by omega), if_pos (show (0 : Int) ≤ (st : Int) by omega), if_pos (show (st : Int) ≤ ((i + 1 : Nat) : Int) by omega), if_pos (show ((i + 1 : Nat) : Int) ≤ (a.size : Int) by omega), if_pos (show acc.length < 8796093022208 by omega), hbt, Int.toNat_natCast, cut_ab a st i b hd' hst]
    by_cases h10 : b = 10
    · simp only [if_pos ((ten_iff b).2 h10)]
      have ih := refSplit_ev a ha n (i + 1) (i + 1) [] (acc ++ [tb (p ++ [b])]) (by omega) (by simp) rfl (by simp) (fun _ => rfl) (by simp; omega)
      rw [hd', h10, lns_end, right_snoc hp, List.map_append, ← List.append_assoc]
      rw [h10] at ih
      exact ih
    · simp only [if_neg (fun h => h10 ((ten_iff b).1 h))]
      by_cases hi : i + 1 = a.size
      · simp only [if_pos (show ((i + 1 : Nat) : Int) = (a.size : Int) by omega)]
        have ih := refSplit_ev a ha n (i + 1) (i + 1) [] (acc ++ [tb (p ++ [b])]) (by omega) (by simp) rfl (by simp) (fun _ => rfl) (by simp; omega)
        have he : a.data.toList.drop (i + 1) = [] := List.drop_of_length_le (by rw [← sz]; omega)
        rw [he] at ih hd'
        rw [hd', right_snoc hp]
        simpa [lns] using ih
      · simp only [if_neg (show ¬ ((i + 1 : Nat) : Int) = (a.size : Int) by omega)]
        refine refSplit_ev a ha n st (i + 1) (p ++ [b]) acc (by omega) (by simp; omega) (by rw [hd']; simp) ?_ (fun e => by omega) (by omega)
        simp [hp]; exact fun h => h10 h.symm
theorem refSplitf_ev (a : ByteArray) (ha : a.size ≤ 1000000) : Ev (fun k => patchworkref1_Split.f k a) ((lns a.data.toList).map tb) := by
  have := refSplit_ev a ha a.size 0 0 [] [] (by omega) rfl rfl (by simp) (fun _ => rfl) (by simp)
  simp only [List.nil_append, List.drop_zero] at this
  exact this
end Go.Proofs.YthngeddaeoeimaaDoor.LinesP
