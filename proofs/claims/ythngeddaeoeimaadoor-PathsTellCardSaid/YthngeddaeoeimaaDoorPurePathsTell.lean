import Derived.Test.YthngeddaeoeimaaDoorPathsP
namespace Go.Proofs.YthngeddaeoeimaaDoor.Pure
set_option linter.unusedVariables false
set_option linter.unusedSimpArgs false
open Go Go.RowKit Go.Proofs.YthngeddaeoeimaaDoor.Pa Go.Proofs.YthngeddaeoeimaaDoor.PathsP Go.Proofs.YthngeddaeoeimaaDoorW.PrintWords Go.Proofs.YthngeddaeoeimaaDoorW.PrintLast
open Go.Proofs.YthngeddaeoeimaaDoor.LinesP (tb tb_data tb_of tb_toList sz map_tb map_data w64 wn Ev.bindS at_drop)
theorem paths_alive_evT : Ev (fun k => patchworklaw3_alive.f k) true := Ev.of patchworklaw3_alive.mono (k := 20) (by kernel_rfl)
theorem dat_dropT (p : ByteArray) (i : Nat) (h : i < p.size) : ∃ b : UInt8, p.data.toList.drop i = b :: p.data.toList.drop (i + 1) ∧ bt p i = (b.toNat : Int) := by
  have h' : i < p.data.toList.length := by rw [← sz]; exact h
  refine ⟨p.data.toList[i], List.drop_eq_getElem_cons h', ?_⟩
  unfold bt
  rw [dif_pos (by simpa using h)]
  simp [ByteArray.getElem_eq_getElem_data]
theorem sl_iff (b : UInt8) : (b.toNat : Int) = 47 ↔ b = 47 := by
  constructor
  · intro h; exact UInt8.toNat_inj.1 (by have : b.toNat = 47 := by omega
                                         rw [this]; rfl)
  · rintro rfl; rfl
theorem sameT_ev (a b : List ByteArray) (hl : a.length ≤ 1000000000000000) (he : a.length = b.length) : ∀ (n i : Nat), i + n = a.length →
    Ev (fun k => patchworkref1_SameTexts.l0 k a b (i : Int)) (decide ((a.map fun t => t.data.toList).drop i = (b.map fun t => t.data.toList).drop i))
  | 0, i, h => by
    refine Ev.step (fun k => by simp only [patchworkref1_SameTexts.l0]; exact rfl) ?_
    rw [List.drop_of_length_le (by simp; omega), List.drop_of_length_le (by simp; omega)]
    simp only [if_neg (show ¬ (i : Int) < (a.length : Int) by omega)]
    exact Ev.now _
  | n + 1, i, h => by
    have ih := sameT_ev a b hl he n (i + 1) (by omega)
    refine Ev.step (fun k => by simp only [patchworkref1_SameTexts.l0]; exact rfl) ?_
    rw [at_drop a i (by omega), at_drop b i (by omega)]
    simp only [if_pos (show (i : Int) < (a.length : Int) by omega), if_pos (show (i : Int) < (b.length : Int) by omega), if_pos (show (0 : Int) ≤ (i : Int) by omega), Lib.toList_data]
    by_cases hq : (rdOf ByteArray.empty a (i : Int)).data.toList = (rdOf ByteArray.empty b (i : Int)).data.toList
    · simp only [if_pos hq]
      rw [wn i (by omega)]
      rw [hq]
      simpa using ih
    · simp only [if_neg hq]
      rw [decide_eq_false (fun h => hq (List.cons.inj h).1)]
      exact Ev.now _
theorem sameTf_ev (a b : List ByteArray) (hl : a.length ≤ 1000000000000000) : Ev (fun k => patchworkref1_SameTexts.f k a b) (decide ((a.map fun t => t.data.toList) = (b.map fun t => t.data.toList))) := by
  by_cases he : a.length = b.length
  · refine Ev.congr (fun k => by simp only [patchworkref1_SameTexts.f]; rw [if_pos (by omega)]; rfl) (sameT_ev a b hl he a.length 0 (by omega))
  · refine Ev.congr (fun k => by simp only [patchworkref1_SameTexts.f]; rw [if_neg (by omega)]) ?_
    rw [decide_eq_false (fun h => he (by simpa using congrArg List.length h))]
    exact Ev.now _

/-! the reference's Strip -/
def xat (a : ByteArray) (i : Nat) : Int := if Lib.indexByte (a.data.toList.drop i) 47 = -1 then -1 else (i : Int) + Lib.indexByte (a.data.toList.drop i) 47
theorem l1_ev (a : ByteArray) (n x5 : Int) (R : ByteArray) (ha : a.size ≤ 1000000) (hfin : Ev (fun k => patchworkref1_Strip.l1 k a n x5 (xat a 0) (-1)) R) : ∀ i : Nat, i ≤ a.size → Ev (fun k => patchworkref1_Strip.l1 k a n x5 (xat a i) ((i : Int) - 1)) R
  | 0, _ => hfin
  | i + 1, h => by
    have ih := l1_ev a n x5 R ha hfin i (by omega)
    obtain ⟨b, hb, hbt⟩ := dat_dropT a i (by omega)
    have e1 : ((i + 1 : Nat) : Int) - 1 = (i : Int) := by omega
    rw [e1]
    refine Ev.step (fun k => by simp only [patchworkref1_Strip.l1]; exact rfl) ?_
    simp only [if_pos (show (i : Int) ≥ 0 by omega), if_pos (show (0 : Int) ≤ (i : Int) by omega), if_pos (show (i : Int) < (a.size : Int) by omega), hbt]
    rw [w64 (x := (i : Int) - 1) (by omega) (by omega)]
    have hge := Lib.indexByte_ge (a.data.toList.drop (i + 1)) 47
    by_cases h47 : b = 47
    · simp only [if_pos ((sl_iff b).2 h47)]
      have hx : xat a i = (i : Int) := by
        unfold xat; rw [hb, h47]; simp [Lib.indexByte]
      rw [hx] at ih
      exact ih
    · simp only [if_neg (fun h => h47 ((sl_iff b).1 h))]
      have hx : xat a i = xat a (i + 1) := by
        unfold xat; rw [hb]
        have hbn : (b == 47) = false := by rw [beq_eq_false_iff_ne]; exact h47
        by_cases hq : Lib.indexByte (a.data.toList.drop (i + 1)) 47 = -1
        · simp [Lib.indexByte, hbn, hq]
        · have hq' : (Lib.indexByte (a.data.toList.drop (i + 1)) 47 == -1) = false := by rw [beq_eq_false_iff_ne]; exact hq
          simp only [Lib.indexByte, hbn, hq', Bool.false_eq_true, if_false]
          rw [if_neg hq, if_neg (by omega)]
          omega
      rw [hx] at ih
      exact ih
theorem l2_ev (a : ByteArray) (n x5 : Int) (R : ByteArray) (ha : a.size ≤ 1000000) (h5 : -9223372036854775808 ≤ x5 + 1) (h6 : x5 + 1 ≤ 9223372036854775807) : ∀ m i : Nat, i + m = a.size → Ev (fun k => patchworkref1_Strip.l0 k (tb (trimL (a.data.toList.drop i))) n (x5 + 1)) R → Ev (fun k => patchworkref1_Strip.l2 k a n x5 (i : Int)) R
  | m, i, h, hc => by
    have hex : a.extract i a.size = tb (a.data.toList.drop i) := by
      rw [← tb_of (a.extract i a.size), Lib.extract_to_end]
    refine Ev.step (fun k => by simp only [patchworkref1_Strip.l2]; exact rfl) ?_
    rw [w64 h5 h6]
    match m, h with
    | 0, h =>
      simp only [if_neg (show ¬ (i : Int) < (a.size : Int) by omega), if_pos (show (0 : Int) ≤ (i : Int) by omega), if_pos (show (i : Int) ≤ (a.size : Int) by omega), Int.toNat_natCast, hex]
      rw [List.drop_of_length_le (by rw [← sz]; omega)] at hc ⊢
      exact hc
    | m + 1, h =>
      obtain ⟨b, hb, hbt⟩ := dat_dropT a i (by omega)
      simp only [if_pos (show (i : Int) < (a.size : Int) by omega), if_pos (show (0 : Int) ≤ (i : Int) by omega), if_pos (show (i : Int) ≤ (a.size : Int) by omega), hbt, Int.toNat_natCast, hex]
      by_cases h47 : b = 47
      · simp only [if_pos ((sl_iff b).2 h47)]
        rw [wn i (by omega)]
        rw [hb, trimL, if_pos h47] at hc
        exact l2_ev a n x5 R ha h5 h6 m (i + 1) (by omega) hc
      · simp only [if_neg (fun h => h47 ((sl_iff b).1 h))]
        rw [hb, trimL, if_neg h47] at hc
        rw [hb]
        exact hc
theorem refStrip_ev : ∀ (m : Nat) (a : ByteArray) (n x5 : Int), a.size ≤ m → m ≤ 1000000 → n ≤ 9223372036854775807 → 0 ≤ x5 → Ev (fun k => patchworkref1_Strip.l0 k a n x5) (tb (strip (n - x5).toNat a.data.toList))
  | m, a, n, x5, hm, hM, hn, h5 => by
    refine Ev.step (fun k => by simp only [patchworkref1_Strip.l0]; exact rfl) ?_
    by_cases h0 : x5 < n
    · simp only [if_pos h0]
      rw [w64 (x := (a.size : Int) - 1) (by omega) (by omega)]
      obtain ⟨n', hn'⟩ : ∃ n', (n - x5).toNat = n' + 1 := ⟨(n - x5).toNat - 1, by omega⟩
      have hx : (-1 : Int) = xat a a.size := by
        unfold xat
        rw [List.drop_of_length_le (by rw [← sz]; exact Nat.le_refl _)]
        rfl
      conv => arg 1; intro k; rw [hx]
      refine l1_ev a n x5 _ (by omega) ?_ a.size (Nat.le_refl _)
      refine Ev.step (fun k => by simp only [patchworkref1_Strip.l1]; exact rfl) ?_
      simp only [if_neg (show ¬ (-1 : Int) ≥ 0 by decide)]
      have hx0 : xat a 0 = if Lib.indexByte a.data.toList 47 = -1 then -1 else Lib.indexByte a.data.toList 47 := by
        unfold xat; rw [List.drop_zero]; split <;> omega
      rw [hx0, hn', strip]
      rcases idx_cut a.data.toList with ⟨h, e⟩ | ⟨i, h, hi, e⟩
      · rw [h, e]
        simp only [if_true, if_pos (show (-1 : Int) < 0 by decide), tb_of]
        exact Ev.now _
      · rw [h, e, if_neg (by omega)]
        simp only [if_neg (show ¬ (i : Int) < 0 by omega)]
        refine l2_ev a n x5 _ (by omega) (by omega) (by omega) (a.size - i) i (by rw [sz] at *; omega) ?_
        have hlt : (tb (trimL (a.data.toList.drop (i + 1)))).size < a.size := by
          have h1 := trim_le (a.data.toList.drop (i + 1))
          have h2 := cut_lt e
          rw [sz, sz, tb_data]; omega
        obtain ⟨b, hb, hbt⟩ := dat_dropT a i (by rw [sz]; exact hi)
        have h47 : b = 47 := by
          have := (Lib.indexByte_some h).1
          rw [← List.head?_drop, hb] at this
          simpa using this
        rw [hb, trimL, if_pos h47]
        match m, hm with
        | 0, hm => omega
        | m + 1, hm =>
          have ih := refStrip_ev m (tb (trimL (a.data.toList.drop (i + 1)))) n (x5 + 1) (by omega) (by omega) hn (by omega)
          rw [tb_data, show (n - (x5 + 1)).toNat = n' by omega] at ih
          exact ih
    · simp only [if_neg h0]
      rw [show (n - x5).toNat = 0 by omega, strip, tb_of]
      exact Ev.now _

/-! the reference's Parts -/
def cts : List UInt8 → List UInt8 → List (List UInt8)
  | cur, [] => [cur]
  | cur, b :: l => if b = 47 then cur :: cts [] l else cts (cur ++ [b]) l
theorem cts_pcs : ∀ (l cur : List UInt8), (cts cur l).filter (fun t => !t.isEmpty) = pcs cur l
  | [], cur => by
    rw [cts, pcs]
    cases cur <;> simp
  | b :: l, cur => by
    rw [cts, pcs]
    by_cases h : b = 47
    · rw [if_pos h, if_pos h]
      have ih := cts_pcs l []
      cases cur with
      | nil => simpa using ih
      | cons c cur => simpa using ih
    · rw [if_neg h, if_neg h]; exact cts_pcs l _
theorem cts_len : ∀ (l cur : List UInt8), (cts cur l).length ≤ l.length + 1
  | [], cur => by simp [cts]
  | b :: l, cur => by
    rw [cts]
    split
    · have := cts_len l []; simp; omega
    · have := cts_len l (cur ++ [b]); simp; omega
theorem cuts_ev (a : ByteArray) (ha : a.size ≤ 1000000) : ∀ (m st i : Nat) (acc : List ByteArray), i + m = a.size → st ≤ i → acc.length ≤ i →
    Ev (fun k => patchworkref1_Cuts.l0 k a 47 acc (st : Int) (i : Int)) (acc ++ (cts ((a.data.toList.drop st).take (i - st)) (a.data.toList.drop i)).map tb)
  | m, st, i, acc, h, hst, hacc => by
    have hex : a.extract st i = tb ((a.data.toList.drop st).take (i - st)) := by
      rw [← tb_of (a.extract st i), Lib.extract_data]
    refine Ev.step (fun k => by simp only [patchworkref1_Cuts.l0]; exact rfl) ?_
    rw [wn i (by omega)]
    simp only [if_pos (show (i : Int) ≤ (a.size : Int) by omega), if_pos (show (0 : Int) ≤ (st : Int) by omega), if_pos (show (st : Int) ≤ (i : Int) by omega), if_pos (show acc.length < 8796093022208 by omega), if_pos (show (0 : Int) ≤ (i : Int) by omega), Int.toNat_natCast, hex]
    match m, h with
    | 0, h =>
      simp only [if_pos (show (i : Int) = (a.size : Int) by omega)]
      rw [List.drop_of_length_le (i := i) (by rw [← sz]; omega), cts]
      refine Ev.step (fun k => by simp only [patchworkref1_Cuts.l0]; exact rfl) ?_
      simp only [if_neg (show ¬ ((i + 1 : Nat) : Int) ≤ (a.size : Int) by omega)]
      exact Ev.now _
    | m + 1, h =>
      obtain ⟨b, hb, hbt⟩ := dat_dropT a i (by omega)
      simp only [if_neg (show ¬ (i : Int) = (a.size : Int) by omega), if_pos (show (i : Int) < (a.size : Int) by omega), hbt]
      rw [hb, cts]
      by_cases h47 : b = 47
      · simp only [if_pos ((sl_iff b).2 h47), if_pos h47]
        have ih := cuts_ev a ha m (i + 1) (i + 1) (acc ++ [tb ((a.data.toList.drop st).take (i - st))]) (by omega) (by omega) (by simp; omega)
        rw [Nat.sub_self, List.take_zero] at ih
        simpa using ih
      · simp only [if_neg (fun h => h47 ((sl_iff b).1 h)), if_neg h47]
        have ih := cuts_ev a ha m st (i + 1) acc (by omega) (by omega) (by omega)
        have hc : (a.data.toList.drop st).take (i + 1 - st) = (a.data.toList.drop st).take (i - st) ++ [b] := by
          rw [show i + 1 - st = (i - st) + 1 by omega, List.take_add, List.drop_drop, show st + (i - st) = i by omega, hb]
          rfl
        rw [hc] at ih
        exact ih
theorem cutsf_ev (a : ByteArray) (ha : a.size ≤ 1000000) : Ev (fun k => patchworkref1_Cuts.f k a 47) ((cts [] a.data.toList).map tb) := by
  have := cuts_ev a ha a.size 0 0 [] (by omega) (by omega) (by simp)
  simp only [List.nil_append, List.drop_zero, Nat.sub_self, List.take_zero] at this
  exact this
theorem filt_ev (l : List ByteArray) (hl : l.length ≤ 1000001) : ∀ (n i : Nat) (acc : List ByteArray), i + n = l.length → acc.length ≤ i →
    Ev (fun k => patchworkref1_Parts.l0 k l acc (i : Int)) (acc ++ (((l.map fun t => t.data.toList).drop i).filter (fun t => !t.isEmpty)).map tb)
  | 0, i, acc, h, hacc => by
    refine Ev.step (fun k => by simp only [patchworkref1_Parts.l0]; exact rfl) ?_
    rw [List.drop_of_length_le (by simp; omega)]
    simp only [if_neg (show ¬ (i : Int) < (l.length : Int) by omega), List.filter_nil, List.map_nil, List.append_nil]
    exact Ev.now _
  | n + 1, i, acc, h, hacc => by
    refine Ev.step (fun k => by simp only [patchworkref1_Parts.l0]; exact rfl) ?_
    rw [at_drop l i (by omega), wn i (by omega)]
    simp only [if_pos (show (i : Int) < (l.length : Int) by omega), if_pos (show (0 : Int) ≤ (i : Int) by omega), if_pos (show acc.length < 8796093022208 by omega), Lib.toList_data]
    by_cases hq : (rdOf ByteArray.empty l (i : Int)).data.toList = []
    · simp only [if_pos hq]
      have ih := filt_ev l hl n (i + 1) acc (by omega) (by omega)
      rw [List.filter_cons, hq]
      exact ih
    · simp only [if_neg hq]
      have ih := filt_ev l hl n (i + 1) (acc ++ [rdOf ByteArray.empty l (i : Int)]) (by omega) (by simp; omega)
      rw [List.filter_cons, if_pos (by simpa using hq), List.map_cons, tb_of]
      simpa using ih
theorem refParts_ev (a : ByteArray) (ha : a.size ≤ 1000000) : Ev (fun k => patchworkref1_Parts.f k a) ((parts a.data.toList).map tb) := by
  refine Ev.congr (fun k => by simp only [patchworkref1_Parts.f]; exact rfl) ?_
  refine Ev.bind (cutsf_ev a ha) ?_
  have hl := cts_len a.data.toList []
  rw [← sz] at hl
  have := filt_ev ((cts [] a.data.toList).map tb) (by rw [List.length_map]; omega) _ 0 [] (Nat.zero_add _) (by simp)
  rw [List.drop_zero, map_data, cts_pcs, List.nil_append] at this
  exact this
theorem refBase_ev (a : ByteArray) (ha : a.size ≤ 1000000) : Ev (fun k => patchworkref1_Base.f k a) (tb (base a.data.toList)) := by
  refine Ev.congr (fun k => by simp only [patchworkref1_Base.f]; exact rfl) ?_
  refine Ev.bind (refParts_ev a ha) ?_
  have hl := pcs_len a.data.toList []
  rw [← sz] at hl
  have := last_base (parts a.data.toList) (by show (pcs [] a.data.toList).length ≤ _; omega)
  exact Ev.congr (fun k => this) (Ev.now _)
theorem PathsTell : patchworklaw3_PathsTell.Pure := by
  intro a0 a1 _ w1
  have hn : a1 ≤ 9223372036854775807 := by
    have := w1
    simp [Lit.wf, IntKind.i64] at this
    omega
  refine Ev.rounds (g := fun k => patchworklaw3_PathsTell.f k a0 a1) ?_
  refine Ev.congr (fun k => by simp only [patchworklaw3_PathsTell.f]; exact rfl) ?_
  refine Ev.bind paths_alive_evT ?_
  simp only [if_true]
  by_cases h0 : (a0.size : Int) > 200
  · rw [decide_eq_true h0]
    refine Ev.step (fun k => by simp only [patchworklaw3_PathsTell.j0]; exact rfl) ?_
    exact Ev.now _
  rw [decide_eq_false h0]
  refine Ev.step (fun k => by simp only [patchworklaw3_PathsTell.j0]; exact rfl) ?_
  simp only [Bool.false_eq_true, if_false]
  refine Ev.bind (strip_ev 1000 a0 a1 (by omega) (by omega) hn) ?_
  refine Ev.bind (refStrip_ev 1000 a0 a1 0 (by omega) (by omega) hn (by omega)) ?_
  rw [Int.sub_zero]
  simp only [if_true]
  refine Ev.bindS (parts_eq a0 (by omega)) ?_
  refine Ev.bind (refParts_ev a0 (by omega)) ?_
  have hl := pcs_len a0.data.toList []
  rw [← sz] at hl
  refine Ev.bind (sameTf_ev _ _ (by rw [List.length_map]; show (pcs [] a0.data.toList).length ≤ _; omega)) ?_
  rw [decide_eq_true rfl]
  simp only [if_true]
  refine Ev.bindS (base_eq a0 (by omega)) ?_
  refine Ev.bind (refBase_ev a0 (by omega)) ?_
  rw [beq_self_eq_true]
  exact Ev.now _
end Go.Proofs.YthngeddaeoeimaaDoor.Pure
