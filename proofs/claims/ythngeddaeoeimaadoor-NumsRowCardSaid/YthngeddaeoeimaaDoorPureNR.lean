/- The law NumsRow about the functions as they are told; no program in sight. -/
import Derived.Test.YthngeddaeoeimaaDoorPureNB
namespace Go.Proofs.YthngeddaeoeimaaDoorTE
open Go Go.Proofs.YthngeddaeoeimaaDoorVE
set_option linter.unusedVariables false
set_option linter.unusedSimpArgs false
/-- What Read makes of digits within a text. -/
theorem read_at {pre ds rest : List UInt8} (hn : ds ≠ []) (hd : ∀ b ∈ ds, isDig b) (hv : valF 0 ds ≤ 2147483648) (hl : (pre ++ (ds ++ rest)).length < 4611686018427387904) (hr : ∀ b r, rest = b :: r → ¬ isDig b) :
    nums_Read (pre ++ (ds ++ rest), ((pre.length : Nat) : Int), ()) = some (((valF 0 ds : Nat) : Int), ((pre.length + ds.length : Nat) : Int), 0, ()) := by
  have hlen : (pre ++ (ds ++ rest)).length = pre.length + (ds.length + rest.length) := by simp
  have hm : pre.length + ds.length ≤ (pre ++ (ds ++ rest)).length := by omega
  have hget : ∀ i, (pre ++ (ds ++ rest))[pre.length + i]? = (ds ++ rest)[i]? := fun i => by
    rw [List.getElem?_append_right (by omega), show pre.length + i - pre.length = i by omega]
  have hpos : 0 < ds.length := by cases ds with | nil => exact absurd rfl hn | cons _ _ => simp
  have key : ∀ (d i k : Nat), i + d = pre.length + ds.length → pre.length ≤ i → d < k → fixN (nums_Read_l2 (pre ++ (ds ++ rest), ((pre.length : Nat) : Int), ())) k ((i : Int), ()) = nums_Read_j1 (pre ++ (ds ++ rest), ((pre.length : Nat) : Int), ()) (((pre.length + ds.length : Nat) : Int), ()) := by
    intro d
    generalize ht : pre ++ (ds ++ rest) = t at *
    induction d with
    | zero =>
      intro i k hi hge hk
      obtain ⟨k, rfl⟩ : ∃ q, k = q + 1 := ⟨k - 1, by omega⟩
      have him : i = pre.length + ds.length := by omega
      subst him
      show nums_Read_l2 (t, _, ()) (fixN (nums_Read_l2 (t, _, ())) k) (((pre.length + ds.length : Nat) : Int), ()) = _
      unfold nums_Read_l2
      by_cases hlt : pre.length + ds.length < t.length
      · have hg : t[pre.length + ds.length]? = some t[pre.length + ds.length] := by simp [hlt]
        have hb : ¬ isDig t[pre.length + ds.length] := by
          have h2 := hget ds.length
          rw [hg, List.getElem?_append_right (Nat.le_refl _), Nat.sub_self] at h2
          cases rest with
          | nil => simp at h2
          | cons c r =>
            simp only [List.getElem?_cons_zero, Option.some.injEq] at h2
            rw [h2]; exact hr c r rfl
        have h1 : decide (((pre.length + ds.length : Nat) : Int) < len t) = true := by
          have : ((pre.length + ds.length : Nat) : Int) < ((t.length : Nat) : Int) := by omega
          exact decide_eq_true this
        simp only [h1, bK, idx_nat, hg, oK]
        by_cases h48 : ((t[pre.length + ds.length].toNat : Nat) : Int) < 48
        · simp only [h48, decide_true, Bool.not_true]; rfl
        · have h57 : (57 : Int) < ((t[pre.length + ds.length].toNat : Nat) : Int) := by unfold isDig at hb; omega
          simp only [h48, decide_false, Bool.not_false, h57, decide_true, Bool.not_true]; rfl
      · have h1 : decide (((pre.length + ds.length : Nat) : Int) < len t) = false := by
          have : ¬ ((pre.length + ds.length : Nat) : Int) < ((t.length : Nat) : Int) := by omega
          exact decide_eq_false this
        simp only [h1, bK]; rfl
    | succ d ih =>
      intro i k hi hge hk
      obtain ⟨k, rfl⟩ : ∃ q, k = q + 1 := ⟨k - 1, by omega⟩
      show nums_Read_l2 (t, _, ()) (fixN (nums_Read_l2 (t, _, ())) k) ((i : Int), ()) = _
      unfold nums_Read_l2
      have hlt : i < t.length := by omega
      have hg : t[i]? = some t[i] := by simp [hlt]
      have hdig : isDig t[i] := by
        have h2 := hget (i - pre.length)
        rw [show pre.length + (i - pre.length) = i by omega, hg, List.getElem?_append_left (by omega)] at h2
        exact hd _ (List.mem_of_getElem? h2.symm)
      obtain ⟨b1, b2⟩ := hdig
      have h1 : decide ((i : Int) < len t) = true := by
        have : (i : Int) < ((t.length : Nat) : Int) := by omega
        exact decide_eq_true this
      have h48 : ¬ ((t[i].toNat : Nat) : Int) < 48 := by omega
      have h57 : ¬ (57 : Int) < ((t[i].toNat : Nat) : Int) := by omega
      simp only [h1, bK, idx_nat, hg, oK, h48, decide_false, Bool.not_false, h57]
      rw [i64_ok (by omega) (by omega)]
      have := ih (i + 1) k (by omega) (by omega) (by omega)
      rw [← this]
      rfl
  have hrun := key ds.length pre.length kBig rfl (Nat.le_refl _) (by
    have hk : kBig = 18446744073709551616 := rfl
    omega)
  have e1 : nums_Read (pre ++ (ds ++ rest), ((pre.length : Nat) : Int), ()) = fixN (nums_Read_l2 (pre ++ (ds ++ rest), ((pre.length : Nat) : Int), ())) kBig (((pre.length : Nat) : Int), ()) := by
    unfold nums_Read nums_Read_k
    have h0 : decide (((pre.length : Nat) : Int) < 0) = false := decide_eq_false (by omega)
    have h1 : decide (len (pre ++ (ds ++ rest)) < ((pre.length : Nat) : Int)) = false := by
      have : ¬ (((pre ++ (ds ++ rest)).length : Nat) : Int) < ((pre.length : Nat) : Int) := by omega
      exact decide_eq_false this
    simp only [h0, h1, bK, join, nums_Read_j3]
  rw [e1, hrun]
  unfold nums_Read_j1
  have h2 : decide (((pre.length + ds.length : Nat) : Int) = ((pre.length : Nat) : Int)) = false := decide_eq_false (by omega)
  have h3 : okSl ((pre.length : Nat) : Int) ((pre.length + ds.length : Nat) : Int) (len (pre ++ (ds ++ rest))) = true := by
    have : ((pre.length + ds.length : Nat) : Int) ≤ (((pre ++ (ds ++ rest)).length : Nat) : Int) := by omega
    simp only [okSl, Bool.and_eq_true, decide_eq_true_eq]
    exact ⟨⟨by omega, by omega⟩, this⟩
  have h4 : slc (pre ++ (ds ++ rest)) ((pre.length : Nat) : Int) ((pre.length + ds.length : Nat) : Int) = ds := by
    simp only [slc, Int.toNat_natCast]
    rw [List.drop_left, show pre.length + ds.length - pre.length = ds.length by omega, List.take_left]
  have h5 : tAtoiAll (ds, ()) = some (((valF 0 ds : Nat) : Int), true, ()) := by
    unfold tAtoiAll
    have hle : decide (ds.length ≤ 9223372036854775806) = true := by simp only [decide_eq_true_eq]; omega
    simp only [hle, atoi_dig hn hd (by omega)]
  simp only [h2, h3, h4, h5, bK, oK, join, nums_Read_j0]
  have hb : ¬ (2147483648 : Int) < ((valF 0 ds : Nat) : Int) := by omega
  simp only [hb, decide_false, beq_self_eq_true, Bool.not_true]
def okN (x : Int) : Prop := 0 ≤ x ∧ x ≤ 2147483648
theorem put_ok' {x : Int} (h : okN x) : nums_Put (x, ()) = some (digs 20 x.toNat, ()) := by
  obtain ⟨h0, h1⟩ := h
  unfold nums_Put tItoa
  have e1 : (decide (-9223372036854775808 ≤ x) && decide (x ≤ 9223372036854775807)) = true := by simp only [Bool.and_eq_true, decide_eq_true_eq]; omega
  have e2 : decide (x < 0) = false := decide_eq_false (by omega)
  simp only [e1, e2, oK]
theorem digs_x {x : Int} (h : okN x) : (∀ b ∈ digs 20 x.toNat, isDig b) ∧ digs 20 x.toNat ≠ [] ∧ (digs 20 x.toNat).length ≤ 21 ∧ valF 0 (digs 20 x.toNat) = x.toNat :=
  digs_ok 20 x.toNat (by
    have : (10 : Nat) ^ 21 = 1000000000000000000000 := by decide
    obtain ⟨h0, h1⟩ := h
    omega)
section row
variable {xs : List Int} {sep : Int}
def encR (sep : Int) (x : Int) : List UInt8 := digs 20 x.toNat ++ [UInt8.ofNat sep.toNat]
def TR (sep : Int) (l : List Int) : List UInt8 := (l.map (encR sep)).flatten
theorem TR_snoc {i : Nat} {x : Int} (h : xs[i]? = some x) : TR sep (xs.take (i + 1)) = TR sep (xs.take i) ++ encR sep x := by
  rw [List.take_add_one, h]
  simp [TR]
theorem TR_split {i : Nat} {x : Int} (h : xs[i]? = some x) : TR sep xs = TR sep (xs.take i) ++ (digs 20 x.toNat ++ (UInt8.ofNat sep.toNat :: TR sep (xs.drop (i + 1)))) := by
  have hi := (List.getElem?_eq_some_iff.1 h).1
  have e : xs = xs.take i ++ x :: xs.drop (i + 1) := by
    conv => lhs; rw [← List.take_append_drop i xs]
    congr 1
    rw [List.drop_eq_getElem_cons hi, (List.getElem?_eq_some_iff.1 h).2]
  conv => lhs; rw [e]
  simp [TR, encR]
theorem TR_len (l : List Int) (h : ∀ x ∈ l, okN x) : (TR sep l).length ≤ 22 * l.length := by
  induction l with
  | nil => simp [TR]
  | cons x l ih =>
    have h1 := (digs_x (h x (List.mem_cons_self ..))).2.2.1
    have h2 := ih fun y hy => h y (List.mem_cons_of_mem _ hy)
    have : TR sep (x :: l) = encR sep x ++ TR sep l := by simp [TR]
    rw [this, List.length_append]
    have : (encR sep x).length = (digs 20 x.toNat).length + 1 := by simp [encR]
    rw [this, List.length_cons]
    omega
theorem read_loop (hs0 : 0 ≤ sep) (hs1 : sep ≤ 255) (hnd : sep < 48 ∨ 57 < sep) (hl : xs.length ≤ 20) (hok : ∀ x ∈ xs, okN x) : ∀ (d i k : Nat), i + d = xs.length → d < k →
    fixN (law2_NumsRow_l0 (xs, sep, ()) (TR sep xs, ((xs.length : Nat) : Int), ())) k ((((TR sep (xs.take i)).length : Nat) : Int), ((i : Nat) : Int), ()) = some (true, ()) := by
  have hT := TR_len (sep := sep) xs hok
  have hb : (UInt8.ofNat sep.toNat).toNat = sep.toNat := by
    simp [UInt8.toNat_ofNat']
    omega
  intro d
  induction d with
  | zero =>
    intro i k hi hk
    obtain ⟨k, rfl⟩ : ∃ q, k = q + 1 := ⟨k - 1, by omega⟩
    have him : i = xs.length := by omega
    subst him
    show law2_NumsRow_l0 _ _ (fixN _ k) _ = _
    unfold law2_NumsRow_l0
    have h1 : decide (((xs.length : Nat) : Int) < len xs) = false := decide_eq_false (Int.lt_irrefl _)
    have h2 : decide ((((TR sep (xs.take xs.length)).length : Nat) : Int) = len (TR sep xs)) = true := by
      rw [List.take_length]
      exact decide_eq_true rfl
    simp only [h1, bK, h2]
  | succ d ih =>
    intro i k hi hk
    obtain ⟨k, rfl⟩ : ∃ q, k = q + 1 := ⟨k - 1, by omega⟩
    show law2_NumsRow_l0 _ _ (fixN _ k) _ = _
    unfold law2_NumsRow_l0
    have hlt : i < xs.length := by omega
    have hg : xs[i]? = some xs[i] := by simp [hlt]
    have hx : okN xs[i] := hok _ (List.getElem_mem hlt)
    obtain ⟨d1, d2, d3, d4⟩ := digs_x hx
    have hsp := TR_split (sep := sep) hg
    have hread := read_at (pre := TR sep (xs.take i)) (ds := digs 20 (xs[i]).toNat) (rest := UInt8.ofNat sep.toNat :: TR sep (xs.drop (i + 1))) d2 d1 (by rw [d4]; have := hx.2; omega) (by rw [← hsp]; omega) (fun b r h => by
      simp only [List.cons.injEq] at h
      rw [← h.1]
      unfold isDig
      rw [hb]
      omega)
    rw [← hsp, d4] at hread
    have h1 : decide ((i : Int) < len xs) = true := by
      have : (i : Int) < ((xs.length : Nat) : Int) := by omega
      exact decide_eq_true this
    have hxe : (((xs[i]).toNat : Nat) : Int) = xs[i] := Int.toNat_of_nonneg hx.1
    have hlen : (TR sep xs).length = (TR sep (xs.take i)).length + ((digs 20 (xs[i]).toNat).length + ((TR sep (xs.drop (i + 1))).length + 1)) := by
      conv => lhs; rw [hsp]
      simp
    have h2 : decide ((((TR sep (xs.take i)).length + (digs 20 (xs[i]).toNat).length : Nat) : Int) < len (TR sep xs)) = true := by
      have : (((TR sep (xs.take i)).length + (digs 20 (xs[i]).toNat).length : Nat) : Int) < (((TR sep xs).length : Nat) : Int) := by omega
      exact decide_eq_true this
    have h3 : (TR sep xs)[(TR sep (xs.take i)).length + (digs 20 (xs[i]).toNat).length]? = some (UInt8.ofNat sep.toNat) := by
      rw [hsp, List.getElem?_append_right (by omega), show (TR sep (xs.take i)).length + (digs 20 (xs[i]).toNat).length - (TR sep (xs.take i)).length = (digs 20 (xs[i]).toNat).length by omega, List.getElem?_append_right (Nat.le_refl _), Nat.sub_self]
      rfl
    have h4 : decide ((((UInt8.ofNat sep.toNat).toNat : Nat) : Int) = sep) = true := by
      rw [hb]
      exact decide_eq_true (Int.toNat_of_nonneg hs0)
    simp only [h1, bK, hread, oK, law2_num, idx_nat, hg, hxe, h2, h3, h4, decide_true, Bool.not_true]
    have hsn := TR_snoc (sep := sep) hg
    have hle : (TR sep (xs.take (i + 1))).length = (TR sep (xs.take i)).length + (digs 20 (xs[i]).toNat).length + 1 := by
      rw [hsn]; simp [encR]; omega
    rw [i64_ok (by omega) (by omega), i64_ok (by omega) (by omega)]
    have := ih (i + 1) k (by omega) (by omega)
    rw [hle] at this
    exact this
theorem build_loop (hl : xs.length ≤ 20) (H : (∀ x ∈ xs, okN x) → fixN (law2_NumsRow_l0 (xs, sep, ()) (TR sep xs, ((xs.length : Nat) : Int), ())) kBig (0, 0, ()) = some (true, ())) : ∀ (d i k : Nat), i + d = xs.length → d < k → (∀ x ∈ xs.take i, okN x) →
    fixN (law2_NumsRow_l1 (xs, sep, ()) kBig) k (TR sep (xs.take i), ((i : Nat) : Int), ()) = some (true, ()) := by
  intro d
  induction d with
  | zero =>
    intro i k hi hk hok
    obtain ⟨k, rfl⟩ : ∃ q, k = q + 1 := ⟨k - 1, by omega⟩
    have him : i = xs.length := by omega
    subst him
    rw [List.take_length] at hok ⊢
    show law2_NumsRow_l1 _ _ (fixN _ k) _ = _
    unfold law2_NumsRow_l1
    have h1 : decide (((xs.length : Nat) : Int) < len xs) = false := decide_eq_false (Int.lt_irrefl _)
    simp only [h1, bK]
    exact H hok
  | succ d ih =>
    intro i k hi hk hok
    obtain ⟨k, rfl⟩ : ∃ q, k = q + 1 := ⟨k - 1, by omega⟩
    show law2_NumsRow_l1 _ _ (fixN _ k) _ = _
    unfold law2_NumsRow_l1
    have hlt : i < xs.length := by omega
    have hg : xs[i]? = some xs[i] := by simp [hlt]
    have h1 : decide ((i : Int) < len xs) = true := by
      have : (i : Int) < ((xs.length : Nat) : Int) := by omega
      exact decide_eq_true this
    simp only [h1, bK, idx_nat, hg, oK]
    by_cases c1 : xs[i] < 0
    · simp only [c1, decide_true]
    · by_cases c2 : (2147483648 : Int) < xs[i]
      · simp only [c1, c2, decide_true, decide_false]
      · have hx : okN xs[i] := ⟨by omega, by omega⟩
        have hT := TR_len (sep := sep) _ hok
        have hTl : (xs.take i).length ≤ 20 := by simp; omega
        have d3 := (digs_x hx).2.2.1
        have hir : intRow lay 5 ([sep] : List Int) = some [sep] := rfl
        have f1 : fits 1 ((TR sep (xs.take i)).length + (digs 20 (xs[i]).toNat).length) = true := by simp only [fits, Bool.and_eq_true, decide_eq_true_eq]; omega
        have f2 : fits 1 ((TR sep (xs.take i) ++ digs 20 (xs[i]).toNat).length + (toBytes [sep]).length) = true := by
          have : (toBytes [sep]).length = 1 := rfl
          simp only [fits, Bool.and_eq_true, decide_eq_true_eq, List.length_append, this]; omega
        simp only [c1, c2, decide_false, put_ok' hx, f1, hir, f2]
        have := ih (i + 1) k (by omega) (by omega) (fun x hx' => by
          rw [List.take_add_one, hg] at hx'
          rcases List.mem_append.1 hx' with h | h
          · exact hok x h
          · simp at h; rw [h]; exact hx)
        rw [TR_snoc hg] at this
        rw [i64_ok (by omega) (by omega)]
        have e : TR sep (xs.take i) ++ digs 20 (xs[i]).toNat ++ toBytes [sep] = TR sep (xs.take i) ++ encR sep xs[i] := by
          rw [List.append_assoc]; rfl
        rw [e]
        exact this
theorem numsRow_pure (xs : List Int) (sep : Int) (hs0 : 0 ≤ sep) (hs1 : sep ≤ 255) : law2_NumsRow (xs, sep, ()) = some (true, ()) := by
  have easy : law2_NumsRow_j2 (xs, sep, ()) (true, ()) kBig (true, ()) = some (true, ()) := rfl
  unfold law2_NumsRow law2_NumsRow_k
  rw [alive_eq]
  simp only [oK, Bool.not_true, bK, join]
  by_cases c1 : len xs < 1
  · simp only [c1, decide_true]; exact easy
  by_cases c2 : 20 < len xs
  · simp only [c1, c2, decide_true, decide_false]; exact easy
  have hl : xs.length ≤ 20 := by
    have : ¬ (20 : Int) < ((xs.length : Nat) : Int) := c2
    omega
  have main : (sep < 48 ∨ 57 < sep) → law2_NumsRow_j2 (xs, sep, ()) (true, ()) kBig (false, ()) = some (true, ()) := fun hnd => by
    unfold law2_NumsRow_j2
    simp only [bK]
    have hk : kBig = 18446744073709551616 := rfl
    have := build_loop (xs := xs) (sep := sep) hl (fun hok => by
      have := read_loop hs0 hs1 hnd hl hok xs.length 0 kBig (by omega) (by omega)
      exact this) xs.length 0 kBig (by omega) (by omega) (fun x hx => by simp at hx)
    exact this
  simp only [c1, c2, decide_false]
  by_cases c3 : sep < 48
  · simp only [c3, decide_true, Bool.not_true]
    exact main (.inl c3)
  · by_cases c4 : 57 < sep
    · simp only [c3, c4, decide_true, decide_false, Bool.not_true, Bool.not_false]
      exact main (.inr c4)
    · simp only [c3, c4, decide_false, Bool.not_false]
      exact easy
end row
end Go.Proofs.YthngeddaeoeimaaDoorTE
