import Derived.Test.YthngeddaeoeimaaDoorLnx2
namespace Go.Proofs.YthngeddaeoeimaaDoor.LinesP
open Go Go.RowKit Go.Proofs.YthngeddaeoeimaaDoor.Ln Go.Proofs.YthngeddaeoeimaaDoorW.PrintWords Go.Proofs.YthngeddaeoeimaaDoorW.PrintLast
set_option linter.unusedVariables false

/-- the lines of a text -/
def lns : List UInt8 → List (List UInt8)
  | [] => []
  | b :: s => if b = 10 then [10] :: lns s else match lns s with | [] => [[b]] | l :: r => (b :: l) :: r
/-- as strings.SplitAfter tells them -/
def spl : List UInt8 → List (List UInt8)
  | [] => [[]]
  | b :: s => if b = 10 then [10] :: spl s else match spl s with | [] => [[b]] | l :: r => (b :: l) :: r

theorem spl_ne (s : List UInt8) : spl s ≠ [] := by
  cases s with
  | nil => simp [spl]
  | cons b s => simp only [spl]; split; · simp
                split <;> simp

theorem lns_nil {s : List UInt8} (h : lns s = []) : s = [] := by
  cases s with
  | nil => rfl
  | cons b s => simp only [lns] at h; split at h; · cases h
                split at h <;> cases h

/-- the end of the lines that SplitAfter tells -/
theorem spl_lns (s : List UInt8) : spl s = lns s ++ [[]] ∨ (spl s = lns s ∧ ∃ l r, lns s = r ++ [l] ∧ l ≠ []) := by
  induction s with
  | nil => exact .inl rfl
  | cons b s ih =>
    by_cases hb : b = 10
    · subst hb
      simp only [spl, lns, if_true]
      rcases ih with h | ⟨h, l, r, e, hl⟩
      · exact .inl (by rw [h]; rfl)
      · exact .inr ⟨by rw [h], l, [10] :: r, by rw [e]; rfl, hl⟩
    · simp only [spl, lns, if_neg hb]
      rcases ih with h | ⟨h, l, r, e, hl⟩
      · cases hs : lns s with
        | nil => rw [h, hs]; exact .inr ⟨rfl, [b], [], rfl, by simp⟩
        | cons l r => rw [h, hs]; exact .inl rfl
      · rw [h]
        refine .inr ⟨rfl, ?_⟩
        rw [e]
        cases r with
        | nil => exact ⟨b :: l, [], rfl, by simp⟩
        | cons x r => exact ⟨l, (b :: x) :: r, rfl, hl⟩

theorem lns_flat (s : List UInt8) : (lns s).flatten = s := by
  induction s with
  | nil => rfl
  | cons b s ih =>
    simp only [lns]
    split
    · rename_i h; subst h; simp [ih]
    · split
      · rename_i h; rw [lns_nil h]; rfl
      · rename_i l r h; rw [h] at ih; simpa using ih
theorem spl_flat (s : List UInt8) : (spl s).flatten = s := by
  rcases spl_lns s with h | ⟨h, _⟩
  · rw [h, List.flatten_append, lns_flat]; simp
  · rw [h, lns_flat]

theorem lns_length_le (s : List UInt8) : (lns s).length ≤ s.length := by
  induction s with
  | nil => exact Nat.le_refl _
  | cons b s ih =>
    simp only [lns]
    split
    · simpa using ih
    · split
      · simp
      · rename_i l r h; rw [h] at ih; simp at ih ⊢; omega

theorem lns_end (a : List UInt8) (s : List UInt8) : lns (a ++ 10 :: s) = lns (a ++ [10]) ++ lns s := by
  induction a with
  | nil => simp [lns]
  | cons b a ih =>
    simp only [List.cons_append, lns]
    split
    · rw [ih]; rfl
    · rw [ih]
      cases h : lns (a ++ [10]) with
      | nil => have := lns_nil h; simp at this
      | cons l r => rfl

/-! the program's splitting -/
theorem idx_of {s : List UInt8} : (Lib.indexByte s 10 = -1 ∧ 10 ∉ s ∧ spl s = [s]) ∨ ∃ p r, s = p ++ 10 :: r ∧ 10 ∉ p ∧ Lib.indexByte s 10 = p.length ∧ spl s = (p ++ [10]) :: spl r := by
  induction s with
  | nil => exact .inl ⟨rfl, by simp, rfl⟩
  | cons b s ih =>
    by_cases hb : b = 10
    · subst hb
      exact .inr ⟨[], s, rfl, by simp, by simp [Lib.indexByte], by simp [spl]⟩
    · rcases ih with ⟨h, hn, hs⟩ | ⟨p, r, e, hn, h, hs⟩
      · refine .inl ⟨?_, by simp [hn]; exact fun h => hb h.symm, by simp only [spl, if_neg hb, hs]⟩
        simp [Lib.indexByte, hb, h]
      · refine .inr ⟨b :: p, r, by rw [e]; rfl, by simp [hn]; exact fun h => hb h.symm, ?_, by simp only [spl, if_neg hb, hs]; rfl⟩
        simp only [Lib.indexByte, h]
        rw [if_neg (by simpa using hb), if_neg (by simp <;> omega)]
        simp

def tb (l : List UInt8) : ByteArray := ⟨l.toArray⟩
theorem tb_data (l : List UInt8) : (tb l).data.toList = l := rfl
theorem tb_of (s : ByteArray) : tb s.data.toList = s := by obtain ⟨⟨l⟩⟩ := s; rfl
theorem tb_toList (l : List UInt8) : (tb l).toList = l := by rw [Lib.toList_data]; rfl
theorem sz (s : ByteArray) : s.size = s.data.toList.length := Lib.size_eq s
theorem map_tb (l : List ByteArray) : (l.map fun t => t.data.toList).map tb = l := by
  rw [List.map_map]
  conv => rhs; rw [← List.map_id l]
  exact List.map_congr_left fun t _ => tb_of t
theorem map_data (l : List (List UInt8)) : (l.map tb).map (fun t => t.data.toList) = l := by
  rw [List.map_map]
  conv => rhs; rw [← List.map_id l]
  exact List.map_congr_left fun t _ => rfl
theorem w64 {x : Int} (h : -9223372036854775808 ≤ x) (h' : x ≤ 9223372036854775807) : wrap64 x = x := by
  unfold wrap64; omega
theorem wn (i : Nat) (h : i ≤ 1000000000000000000) : wrap64 ((i : Int) + 1) = ((i + 1 : Nat) : Int) := by rw [w64 (by omega) (by omega)]; omega
theorem Ev.bindS {α β : Type} {g : Option α} {f : Nat → α → Option β} {a : α} {r : β} (h : g = some a) (k : Ev (fun n => f n a) r) : Ev (fun n => g.bind (f n)) r := by
  subst h; exact k

theorem splitB_spl : ∀ (n : Nat) (s : ByteArray), s.size ≤ n → Lib.splitB ⟨#[10]⟩ 1 (Lib.countB s ⟨#[10]⟩) s = (spl s.data.toList).map tb
  | n, s, hn => by
    rcases idx_of (s := s.data.toList) with ⟨h, _, hs⟩ | ⟨p, r, e, hnp, h, hs⟩
    · have hx : Lib.indexB s ⟨#[10]⟩ = -1 := (Lib.index_one s.data.toList 10).trans h
      rw [Lib.splitB_miss _ _ _ _ hx, hs]
      show [s] = [tb s.data.toList]
      rw [tb_of]
    · have hx : Lib.indexB s ⟨#[10]⟩ = (p.length : Int) := (Lib.index_one s.data.toList 10).trans h
      have hsz : s.size = p.length + (r.length + 1) := by rw [sz, e, List.length_append]; rfl
      match n, hn with
      | 0, hn => omega
      | n + 1, hn =>
        have ht : (s.extract (p.length + 1) s.size).data.toList = r := by
          rw [Lib.extract_to_end, e, List.drop_append]
          simp
        have hts : (s.extract (p.length + 1) s.size).size ≤ n := by rw [sz, ht]; omega
        have hf : s.extract 0 (p.length + 1) = tb (p ++ [10]) := by
          rw [← tb_of (s.extract 0 (p.length + 1)), Lib.extract_data, e]
          congr 1
          rw [List.drop_zero, List.take_append, List.take_of_length_le (by omega)]
          simp
        have ih := splitB_spl n _ hts
        rw [ht] at ih
        rw [Lib.countB_hit s _ p.length (by decide) hx, Nat.add_comm 1, Lib.splitB_hit _ _ _ _ p.length hx, hs, List.map_cons, hf]
        exact congrArg _ ih

theorem last_snoc (r : List ByteArray) (x : ByteArray) (h : r.length ≤ 1000000000000000000) :
    lines_last.f (r ++ [x]) = some (if x.data.toList = [] then [x] else []) := by
  have hl : ((r ++ [x]).length : Int) = (r.length : Int) + 1 := by simp
  have hw : wrap64 ((r.length : Int) + 1 - 1) = (r.length : Int) := by rw [w64 (by omega) (by omega)]; omega
  have hr : rdOf ByteArray.empty (r ++ [x]) (r.length : Int) = x := by simp [rdOf]
  have hd : (r ++ [x]).drop r.length = [x] := by simp
  unfold lines_last.f
  rw [hl, hw, if_pos (by omega), if_pos (by omega), hr, Lib.toList_data]
  by_cases hx : x.data.toList = []
  · rw [if_pos hx, if_pos (by omega), if_pos hx, Int.toNat_natCast, hd]
  · rw [if_neg hx, if_neg hx]

theorem split_of {a0 : ByteArray} {r : List ByteArray} {x : ByteArray} (h : strings_SplitAfter.f a0 ⟨#[10]⟩ = some (r ++ [x])) (hr : r.length ≤ 5000000000) :
    lines_Split.f a0 = some (if x.data.toList = [] then r else r ++ [x]) := by
  have hl : ((r ++ [x]).length : Int) = (r.length : Int) + 1 := by simp
  unfold lines_Split.f
  rw [h, Option.bind_some, last_snoc r x (by omega), Option.bind_some, hl]
  by_cases hx : x.data.toList = []
  · rw [if_pos hx, if_pos hx]
    have hw : wrap64 ((r.length : Int) + 1 - (([x] : List ByteArray).length : Int)) = (r.length : Int) := by rw [w64 (by simp) (by simp; omega)]; simp
    have ht : (r ++ [x]).take r.length = r := by simp
    rw [hw, if_pos (by omega), if_pos (by omega), Option.bind_some, Int.toNat_natCast, ht]
    rw [if_pos (by simp; omega)]
    rfl
  · rw [if_neg hx, if_neg hx]
    have hw : wrap64 ((r.length : Int) + 1 - (([] : List ByteArray).length : Int)) = ((r.length + 1 : Nat) : Int) := by rw [w64 (by simp; omega) (by simp; omega)]; simp
    have ht : (r ++ [x]).take (r.length + 1) = r ++ [x] := List.take_of_length_le (by simp)
    rw [hw, if_pos (by omega), if_pos (by omega), Option.bind_some, Int.toNat_natCast, ht]
    rw [if_pos (by simp; omega)]
    rfl

theorem split_eq (a0 : ByteArray) (h : a0.size < 4294967281) : lines_Split.f a0 = some ((lns a0.data.toList).map tb) := by
  have h1 : strings_SplitAfter.f a0 ⟨#[10]⟩ = some ((spl a0.data.toList).map tb) := by
    unfold strings_SplitAfter.f
    rw [if_pos ⟨h, rfl⟩, splitB_spl _ _ (Nat.le_refl _)]
  have hlen := lns_length_le a0.data.toList
  rw [← sz] at hlen
  rcases spl_lns a0.data.toList with e | ⟨e, l, r, e2, hl⟩
  · rw [e, List.map_append] at h1
    rw [split_of h1 (by rw [List.length_map]; omega)]
    rfl
  · rw [e, e2, List.map_append] at h1
    have hr : r.length + 1 = (lns a0.data.toList).length := by rw [e2]; simp
    rw [split_of h1 (by rw [List.length_map]; omega), if_neg (by rw [tb_data]; exact hl), e2, List.map_append]
    rfl

/-! lines -/
def rightL (s : List UInt8) : Bool := !s.isEmpty && !(s.dropLast.contains 10)
def closedL (s : List UInt8) : Bool := Lib.hasSuffix s [10]
def wholeL : List (List UInt8) → Bool
  | [] => true
  | t :: r => rightL t && ((r.isEmpty || closedL t) && wholeL r)

theorem suf_snoc (d : List UInt8) (x : UInt8) : closedL (d ++ [x]) = (x == 10) := by
  unfold closedL Lib.hasSuffix
  rw [Bool.eq_iff_iff, List.isSuffixOf_iff_suffix, beq_iff_eq]
  constructor
  · rintro ⟨t, ht⟩
    have := List.append_inj_right' ht rfl
    simpa using this.symm
  · rintro rfl
    exact ⟨d, rfl⟩
theorem closed_nil : closedL [] = false := by decide
theorem idx_mem (s : List UInt8) : decide (0 ≤ Lib.indexByte s 10) = s.contains 10 := by
  rcases idx_of (s := s) with ⟨h, hn, _⟩ | ⟨p, r, e, hn, h, _⟩
  · rw [h]; simp [hn]
  · rw [h, e]; simp
theorem right_eq (a0 : ByteArray) (h : a0.size ≤ 9223372036854775807) : lines_Right.f a0 = some (rightL a0.data.toList) := by
  unfold lines_Right.f
  rw [Lib.toList_data]
  rcases List.eq_nil_or_concat a0.data.toList with e | ⟨d, x, e⟩
  · rw [if_pos e, e]; rfl
  · rw [List.concat_eq_append] at e
    rw [if_neg (by rw [e]; simp)]
    unfold strings_TrimSuffix.f
    rw [if_pos h, Option.bind_some]
    unfold strings_Contains.f
    rw [if_pos (by rfl), Option.bind_some]
    have ht : Lib.trimSuffix a0.data.toList [10] = if x = 10 then d else d ++ [x] := by
      unfold Lib.trimSuffix
      rw [e, show Lib.hasSuffix (d ++ [x]) [10] = (x == 10) from suf_snoc d x]
      by_cases hx : x = 10
      · rw [if_pos (by simpa using hx), if_pos hx]; simp
      · rw [if_neg (by simpa using hx), if_neg hx]
    show some (!decide (0 ≤ Lib.indexByte (Lib.trimSuffix a0.data.toList [10]) 10)) = _
    rw [ht, idx_mem, e]
    unfold rightL
    by_cases hx : x = 10
    · rw [if_pos hx]; simp
    · rw [if_neg hx]
      have : ¬ (10 : UInt8) = x := fun h => hx h.symm
      simp [this]
theorem closed_eq (a0 : ByteArray) (h : a0.size ≤ 9223372036854775807) : lines_Closed.f a0 = some (closedL a0.data.toList) := by
  unfold lines_Closed.f strings_HasSuffix.f
  rw [if_pos h]; rfl
theorem join_flat (xs : List (List UInt8)) : Lib.join xs [] = xs.flatten := by
  unfold Lib.join
  induction xs with
  | nil => rfl
  | cons x r ih =>
    cases r with
    | nil => simp [List.intercalate]
    | cons y r => simp only [List.intercalate, List.intersperse_cons_cons, List.flatten_cons, List.nil_append] at ih ⊢; rw [ih]
theorem join_eq (l : List ByteArray) (h : l.length ≤ 140737488355328) (h' : (l.map fun t => t.data.toList).flatten.length ≤ 140737488355328) :
    lines_Join.f l = some (tb (l.map fun t => t.data.toList).flatten) := by
  have e : Lib.join (l.map (·.data.toList)) (⟨#[]⟩ : ByteArray).data.toList = (l.map fun t => t.data.toList).flatten := join_flat _
  unfold lines_Join.f strings_Join.f
  rw [e, if_pos ⟨h, h'⟩]; rfl

theorem at_drop (l : List ByteArray) (i : Nat) (h : i < l.length) : (l.map fun t => t.data.toList).drop i = (rdOf ByteArray.empty l (i : Int)).data.toList :: (l.map fun t => t.data.toList).drop (i + 1) := by
  rw [List.drop_eq_getElem_cons (by simpa using h)]
  simp [rdOf, h]

theorem whole_ev (l : List ByteArray) (hl : l.length ≤ 1000000000000000) (hs : ∀ t ∈ l, t.size ≤ 9223372036854775807) : ∀ (n i : Nat), i + n = l.length → Ev (fun k => lines_Whole.l0 k l l (l.length : Int) (i : Int)) (wholeL ((l.map fun t => t.data.toList).drop i))
  | 0, i, h => by
    refine Ev.step (fun k => by simp only [lines_Whole.l0]; exact rfl) ?_
    rw [List.drop_of_length_le (by simp; omega)]
    simp only [if_neg (show ¬ (i : Int) < (l.length : Int) by omega)]
    exact Ev.now _
  | n + 1, i, h => by
    have hm : (rdOf ByteArray.empty l (i : Int)).size ≤ 9223372036854775807 := by
      refine hs _ ?_
      have : i < l.length := by omega
      simp [rdOf, this]
    have ih := whole_ev l hl hs n (i + 1) (by omega)
    refine Ev.step (fun k => by simp only [lines_Whole.l0]; exact rfl) ?_
    rw [at_drop l i (by omega)]
    simp only [if_pos (show (i : Int) < (l.length : Int) by omega), if_pos (show (0 : Int) ≤ (i : Int) by omega)]
    refine Ev.bindS (right_eq _ hm) ?_
    simp only [wholeL]
    cases hr : rightL (rdOf ByteArray.empty l (i : Int)).data.toList with
    | false => exact Ev.now _
    | true =>
      simp only [if_true]
      rw [w64 (x := (l.length : Int) - 1) (by omega) (by omega)]
      by_cases hi : (i : Int) < (l.length : Int) - 1
      · simp only [if_pos hi]
        refine Ev.bindS (closed_eq _ hm) ?_
        have hne : ((l.map fun t => t.data.toList).drop (i + 1)).isEmpty = false := by
          rw [List.isEmpty_eq_false_iff]; intro h; have := congrArg List.length h; simp at this; omega
        rw [hne]
        cases hc : closedL (rdOf ByteArray.empty l (i : Int)).data.toList with
        | false => exact Ev.now _
        | true => simp only [if_true]; rw [wn i (by omega)]; simpa using ih
      · simp only [if_neg hi]
        have he : (l.map fun t => t.data.toList).drop (i + 1) = [] := List.drop_of_length_le (by simp; omega)
        rw [he] at ih ⊢
        rw [wn i (by omega)]; simpa using ih

theorem wholef_ev (l : List ByteArray) (hl : l.length ≤ 1000000000000000) (hs : ∀ t ∈ l, t.size ≤ 9223372036854775807) : Ev (fun k => lines_Whole.f k l) (wholeL (l.map fun t => t.data.toList)) :=
  whole_ev l hl hs l.length 0 (by omega)

theorem same_ev (a b : List ByteArray) (hl : a.length ≤ 1000000000000000) (he : a.length = b.length) : ∀ (n i : Nat), i + n = a.length →
    Ev (fun k => patchworkref1_SameTexts.l0 k a b (i : Int)) (decide ((a.map fun t => t.data.toList).drop i = (b.map fun t => t.data.toList).drop i))
  | 0, i, h => by
    refine Ev.step (fun k => by simp only [patchworkref1_SameTexts.l0]; exact rfl) ?_
    rw [List.drop_of_length_le (by simp; omega), List.drop_of_length_le (by simp; omega)]
    simp only [if_neg (show ¬ (i : Int) < (a.length : Int) by omega)]
    exact Ev.now _
  | n + 1, i, h => by
    have ih := same_ev a b hl he n (i + 1) (by omega)
    refine Ev.step (fun k => by simp only [patchworkref1_SameTexts.l0]; exact rfl) ?_
    rw [at_drop a i (by omega), at_drop b i (by omega)]
    simp only [if_pos (show (i : Int) < (a.length : Int) by omega), if_pos (show (i : Int) < (b.length : Int) by omega), if_pos (show (0 : Int) ≤ (i : Int) by omega), Lib.toList_data]
    by_cases hq : (rdOf ByteArray.empty a (i : Int)).data.toList = (rdOf ByteArray.empty b (i : Int)).data.toList
    · simp only [if_pos hq]
      rw [wn i (by omega)]
      rw [hq]
      simpa using ih
    · simp only [if_neg hq]
      rw [decide_eq_false (fun h => hq (List.cons.inj h).1)]
      exact Ev.now _
theorem samef_ev (a b : List ByteArray) (hl : a.length ≤ 1000000000000000) : Ev (fun k => patchworkref1_SameTexts.f k a b) (decide ((a.map fun t => t.data.toList) = (b.map fun t => t.data.toList))) := by
  by_cases he : a.length = b.length
  · refine Ev.congr (fun k => by simp only [patchworkref1_SameTexts.f]; rw [if_pos (by omega)]; rfl) (same_ev a b hl he a.length 0 (by omega))
  · refine Ev.congr (fun k => by simp only [patchworkref1_SameTexts.f]; rw [if_neg (by omega)]) ?_
    rw [decide_eq_false (fun h => he (by simpa using congrArg List.length h))]
    exact Ev.now _

/-! the laws -/
theorem right_cons {b : UInt8} {l : List UInt8} (hb : b ≠ 10) (h : rightL l = true) : rightL (b :: l) = true := by
  cases l with
  | nil => cases h
  | cons c l =>
    have : ¬ (10 : UInt8) = b := fun h => hb h.symm
    simp only [rightL, List.isEmpty_cons, Bool.not_false, Bool.true_and, List.dropLast_cons_cons] at h ⊢
    simpa [this] using h
theorem closed_cons {b : UInt8} {l : List UInt8} (h : l ≠ []) : closedL (b :: l) = closedL l := by
  rcases List.eq_nil_or_concat l with e | ⟨d, x, e⟩
  · exact absurd e h
  · rw [e, List.concat_eq_append, ← List.cons_append, suf_snoc, suf_snoc]
theorem right_ne {l : List UInt8} (h : rightL l = true) : l ≠ [] := by rintro rfl; cases h
theorem whole_lns (s : List UInt8) : wholeL (lns s) = true := by
  induction s with
  | nil => rfl
  | cons b s ih =>
    simp only [lns]
    split
    · rename_i hb
      rw [wholeL, ih]
      have h1 : rightL [10] = true := by decide
      have h2 : closedL [10] = true := by decide
      rw [h1, h2]; simp
    · rename_i hb
      split
      · have h1 : rightL [b] = true := by simp [rightL]
        rw [wholeL, h1]; rfl
      · rename_i l r h
        rw [h, wholeL, Bool.and_eq_true, Bool.and_eq_true] at ih
        rw [wholeL, right_cons hb ih.1, closed_cons (right_ne ih.1), ih.2.1, ih.2.2]; rfl
theorem lns_right : ∀ {t : List UInt8}, rightL t = true → lns t = [t]
  | [], h => by cases h
  | [b], _ => by simp only [lns]; split <;> simp_all
  | b :: c :: t, h => by
    simp only [rightL, List.isEmpty_cons, Bool.not_false, Bool.true_and, List.dropLast_cons_cons, List.contains_cons, Bool.not_eq_true', Bool.or_eq_false_iff] at h
    have hb : b ≠ 10 := fun e => by have := h.1; simp [e] at this
    have ih := lns_right (t := c :: t) (by simp only [rightL, List.isEmpty_cons, Bool.not_false, Bool.true_and, h.2])
    rw [lns, if_neg hb, ih]
theorem lns_whole : ∀ {l : List (List UInt8)}, wholeL l = true → lns l.flatten = l
  | [], _ => rfl
  | t :: r, h => by
    rw [wholeL, Bool.and_eq_true, Bool.and_eq_true] at h
    have ih := lns_whole h.2.2
    cases r with
    | nil => simpa using lns_right h.1
    | cons u r =>
      have hc : closedL t = true := by simpa using h.2.1
      rcases List.eq_nil_or_concat t with e | ⟨d, x, e⟩
      · rw [e] at hc; cases hc
      · rw [List.concat_eq_append] at e
        have hx : x = 10 := by rw [e, suf_snoc] at hc; simpa using hc
        subst hx
        have := lns_right h.1
        rw [List.flatten_cons]
        conv => lhs; rw [e]
        rw [List.append_assoc]
        show lns (d ++ 10 :: (u :: r).flatten) = _
        rw [lns_end, ih, ← e, this]; rfl
theorem whole_iff (l : List (List UInt8)) : wholeL l = decide (lns l.flatten = l) := by
  rw [Bool.eq_iff_iff, decide_eq_true_iff]
  exact ⟨lns_whole, fun h => by rw [← h]; exact whole_lns _⟩
theorem lns_count : ∀ (s : List UInt8), (lns s).length = s.count 10 + if s.isEmpty || closedL s then 0 else 1
  | [] => rfl
  | [b] => by
    have : closedL [b] = (b == 10) := suf_snoc [] b
    simp only [lns, this]
    by_cases hb : b = 10
    · subst hb; decide
    · rw [if_neg hb]; simp [hb]
  | b :: c :: s => by
    have ih := lns_count (c :: s)
    rw [closed_cons (by simp)]
    have hne : lns (c :: s) ≠ [] := fun h => by have := lns_nil h; cases this
    rw [lns]
    by_cases hb : b = 10
    · subst hb
      rw [if_pos rfl, List.length_cons, ih]
      simp [List.count_cons]; omega
    · rw [if_neg hb]
      cases h : lns (c :: s) with
      | nil => exact absurd h hne
      | cons l r =>
        rw [h] at ih
        rw [List.count_cons_of_ne (by simpa using hb)]
        simpa using ih
end Go.Proofs.YthngeddaeoeimaaDoor.LinesP
