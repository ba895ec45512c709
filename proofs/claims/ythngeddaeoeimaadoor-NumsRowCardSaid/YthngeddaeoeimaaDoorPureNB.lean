/- The law NumsBack about the functions as they are told; no program in sight. -/
import Derived.Test.YthngeddaeoeimaaDoorNcOk
import Derived.IntWalk
namespace Go.Proofs.YthngeddaeoeimaaDoorTE
open Go Go.Proofs.YthngeddaeoeimaaDoorVE
set_option linter.unusedVariables false
set_option linter.unusedSimpArgs false
set_option maxRecDepth 100000 in
theorem alive_eq : law2_alive () = some (true, ()) := by kernel_rfl
def isDig (b : UInt8) : Prop := 48 ≤ b.toNat ∧ b.toNat ≤ 57
def valF (acc : Nat) : List UInt8 → Nat
  | [] => acc
  | c :: r => valF (acc * 10 + (c.toNat - 48)) r
theorem valF_ge : ∀ (l : List UInt8) (acc : Nat), acc ≤ valF acc l
  | [], acc => Nat.le_refl _
  | c :: r, acc => Nat.le_trans (by omega) (valF_ge r (acc * 10 + (c.toNat - 48)))
theorem valF_app : ∀ (l r : List UInt8) (acc : Nat), valF acc (l ++ r) = valF (valF acc l) r
  | [], r, acc => rfl
  | c :: l, r, acc => valF_app l r _
theorem parse_dig : ∀ (l : List UInt8) (acc : Nat), (∀ b ∈ l, isDig b) → valF acc l < 9223372036854775808 → Lib.parseUint10 acc l = .ok (valF acc l)
  | [], acc, _, _ => rfl
  | c :: r, acc, hd, hv => by
    have h1 : 48 ≤ c.toNat ∧ c.toNat ≤ 57 := hd c (List.mem_cons_self ..)
    have h2 := valF_ge r (acc * 10 + (c.toNat - 48))
    have hv : valF (acc * 10 + (c.toNat - 48)) r < 9223372036854775808 := hv
    unfold Lib.parseUint10
    rw [if_pos h1, if_neg (by omega), if_neg (by omega), parse_dig r _ (fun b hb => hd b (List.mem_cons_of_mem _ hb)) hv]
    rfl
theorem atoi_dig {l : List UInt8} (hn : l ≠ []) (hd : ∀ b ∈ l, isDig b) (hv : valF 0 l < 9223372036854775808) : Lib.atoiAll l = .ok (valF 0 l : Int) := by
  cases l with
  | nil => exact absurd rfl hn
  | cons c r =>
    obtain ⟨h1, h2⟩ := hd c (List.mem_cons_self ..)
    have e1 : ¬ (c.toNat = 43 ∨ c.toNat = 45) := by omega
    have e2 : ¬ c.toNat = 45 := by omega
    have e3 : Lib.parseMag (c :: r) = .ok (valF 0 (c :: r)) := by
      unfold Lib.parseMag
      rw [if_neg (by simp)]
      exact parse_dig (c :: r) 0 hd hv
    unfold Lib.atoiAll
    dsimp only
    rw [if_neg e1, e3]
    dsimp only
    rw [if_neg (by omega), if_neg (by omega), if_neg e2]
theorem dig_toNat {d : Nat} (h : d < 10) : (UInt8.ofNat (48 + d)).toNat = 48 + d := by
  simp [UInt8.toNat_ofNat']
  omega
theorem digs_ok : ∀ (k u : Nat), u < 10 ^ (k + 1) → (∀ b ∈ digs k u, isDig b) ∧ digs k u ≠ [] ∧ (digs k u).length ≤ k + 1 ∧ valF 0 (digs k u) = u
  | 0, u, h => by
    have hu : u < 10 := by rw [Nat.zero_add, Nat.pow_one] at h; exact h
    refine ⟨fun b hb => ?_, by simp [digs], by simp [digs], ?_⟩
    · simp only [digs, List.mem_singleton] at hb
      subst hb
      unfold isDig
      rw [dig_toNat hu]
      omega
    · show 0 * 10 + ((UInt8.ofNat (48 + u)).toNat - 48) = u
      rw [dig_toNat hu]
      omega
  | k + 1, u, h => by
    unfold digs
    by_cases hu : u < 10
    · simp only [hu, decide_true]
      refine ⟨fun b hb => ?_, by simp, by simp, ?_⟩
      · simp only [List.mem_singleton] at hb
        subst hb
        unfold isDig
        rw [dig_toNat hu]
        omega
      · show 0 * 10 + ((UInt8.ofNat (48 + u)).toNat - 48) = u
        rw [dig_toNat hu]
        omega
    · simp only [hu, decide_false]
      obtain ⟨h1, h2, h3, h4⟩ := digs_ok k (u / 10) (by rw [Nat.pow_succ] at h; omega)
      have hm : u % 10 < 10 := Nat.mod_lt _ (by decide)
      refine ⟨fun b hb => ?_, by simp, by simp; omega, ?_⟩
      · rcases List.mem_append.1 hb with hb | hb
        · exact h1 b hb
        · simp only [List.mem_singleton] at hb
          subst hb
          unfold isDig
          rw [dig_toNat hm]
          omega
      · rw [valF_app, h4]
        show u / 10 * 10 + ((UInt8.ofNat (48 + u % 10)).toNat - 48) = u
        rw [dig_toNat hm]
        omega
theorem len_nonneg {β : Type} (l : List β) : 0 ≤ len l := Int.natCast_nonneg _
theorem len_pos {β : Type} (b : β) (l : List β) : 0 < len (b :: l) := by show (0 : Int) < ((l.length + 1 : Nat) : Int); omega
theorem idx_nat {β : Type} (l : List β) (i : Nat) : idx l (i : Int) = l[i]? := rfl
theorem i64_ok {n : Int} (h0 : -9223372036854775808 ≤ n) (h1 : n ≤ 9223372036854775807) : IntKind.i64.wrap n = n := IntWalk.i64_in n ⟨h0, h1⟩
/-- The run of digits. -/
theorem run_digits {t : List UInt8} {m : Nat} (hm : m ≤ t.length) (hl : t.length < 4611686018427387904) (hd : ∀ (i : Nat) b, i < m → t[i]? = some b → isDig b) (he : ∀ b, t[m]? = some b → ¬ isDig b) :
    ∀ (d i k : Nat), i + d = m → d < k → fixN (nums_Read_l2 (t, 0, ())) k ((i : Int), ()) = nums_Read_j1 (t, 0, ()) ((m : Int), ()) := by
  intro d
  induction d with
  | zero =>
    intro i k hi hk
    obtain ⟨k, rfl⟩ : ∃ q, k = q + 1 := ⟨k - 1, by omega⟩
    have him : i = m := by omega
    subst him
    show nums_Read_l2 (t, 0, ()) (fixN (nums_Read_l2 (t, 0, ())) k) ((i : Int), ()) = _
    unfold nums_Read_l2
    by_cases hlt : i < t.length
    · have hg : t[i]? = some t[i] := by simp [hlt]
      have hb := he _ hg
      have h1 : decide ((i : Int) < len t) = true := by simp [len, hlt]
      simp only [h1, bK, idx_nat, hg, oK]
      by_cases h48 : ((t[i].toNat : Nat) : Int) < 48
      · simp only [h48, decide_true, Bool.not_true]; rfl
      · have h57 : (57 : Int) < ((t[i].toNat : Nat) : Int) := by unfold isDig at hb; omega
        simp only [h48, decide_false, Bool.not_false, h57, decide_true, Bool.not_true]; rfl
    · have h1 : decide ((i : Int) < len t) = false := by simp [len]; omega
      simp only [h1, bK]; rfl
  | succ d ih =>
    intro i k hi hk
    obtain ⟨k, rfl⟩ : ∃ q, k = q + 1 := ⟨k - 1, by omega⟩
    show nums_Read_l2 (t, 0, ()) (fixN (nums_Read_l2 (t, 0, ())) k) ((i : Int), ()) = _
    unfold nums_Read_l2
    have hlt : i < t.length := by omega
    have hg : t[i]? = some t[i] := by simp [hlt]
    obtain ⟨b1, b2⟩ := hd i _ (by omega) hg
    have h1 : decide ((i : Int) < len t) = true := by simp [len, hlt]
    have h48 : ¬ ((t[i].toNat : Nat) : Int) < 48 := by omega
    have h57 : ¬ (57 : Int) < ((t[i].toNat : Nat) : Int) := by omega
    simp only [h1, bK, idx_nat, hg, oK, h48, decide_false, Bool.not_false, h57]
    rw [i64_ok (by omega) (by omega)]
    have := ih (i + 1) k (by omega) (by omega)
    rw [← this]
    rfl
/-- What Read makes of digits ahead of a text that does not begin with one. -/
theorem read_digits {ds rest : List UInt8} (hn : ds ≠ []) (hd : ∀ b ∈ ds, isDig b) (hv : valF 0 ds < 9223372036854775808) (hl : (ds ++ rest).length < 4611686018427387904) (hr : ∀ b r, rest = b :: r → ¬ isDig b) :
    nums_Read (ds ++ rest, 0, ()) = some (if (2147483648 : Int) < (valF 0 ds : Nat) then (0, 0, 4, ()) else (((valF 0 ds : Nat) : Int), ((ds.length : Nat) : Int), 0, ())) := by
  have hm : ds.length ≤ (ds ++ rest).length := by simp
  have hrun := run_digits (t := ds ++ rest) (m := ds.length) hm hl (fun i b hi hb => hd b (by rw [List.getElem?_append_left hi] at hb; exact List.mem_of_getElem? hb)) (fun b hb => by
    rw [List.getElem?_append_right (Nat.le_refl _), Nat.sub_self] at hb
    cases rest with
    | nil => simp at hb
    | cons c r => simp at hb; subst hb; exact hr _ _ rfl) ds.length 0 kBig (by omega) (by
      have : (ds ++ rest).length = ds.length + rest.length := by simp
      have hk : kBig = 18446744073709551616 := rfl
      omega)
  have hpos : 0 < ds.length := by cases ds with | nil => exact absurd rfl hn | cons _ _ => simp
  have e1 : nums_Read (ds ++ rest, 0, ()) = fixN (nums_Read_l2 (ds ++ rest, 0, ())) kBig (((0 : Nat) : Int), ()) := by
    unfold nums_Read nums_Read_k
    have h0 : decide ((0 : Int) < 0) = false := by decide
    have h1 : decide (len (ds ++ rest) < 0) = false := decide_eq_false (Int.not_lt.2 (len_nonneg _))
    simp only [h0, h1, bK, join, nums_Read_j3]
    rfl
  rw [e1, hrun]
  unfold nums_Read_j1
  have h2 : decide (((ds.length : Nat) : Int) = 0) = false := by simp only [decide_eq_false_iff_not]; omega
  have h3 : okSl 0 ((ds.length : Nat) : Int) (len (ds ++ rest)) = true := by simp [okSl, len]; omega
  have h4 : slc (ds ++ rest) 0 ((ds.length : Nat) : Int) = ds := by simp [slc]
  have h5 : tAtoiAll (ds, ()) = some (((valF 0 ds : Nat) : Int), true, ()) := by
    unfold tAtoiAll
    have : (ds ++ rest).length = ds.length + rest.length := by simp
    have hle : decide (ds.length ≤ 9223372036854775806) = true := by simp only [decide_eq_true_eq]; omega
    simp only [hle, atoi_dig hn hd hv]
  simp only [h2, h3, h4, h5, bK, oK, join, nums_Read_j0]
  by_cases hb : (2147483648 : Int) < ((valF 0 ds : Nat) : Int)
  · simp only [hb, decide_true, beq_self_eq_true, Bool.not_true, if_true]
  · simp only [hb, decide_false, beq_self_eq_true, Bool.not_true, if_false]
def zeros20 : List UInt8 := [48, 48, 48, 48, 48, 48, 48, 48, 48, 48, 48, 48, 48, 48, 48, 48, 48, 48, 48, 48]
theorem zeros_dig (p : Nat) : ∀ b ∈ zeros20.take p, isDig b := fun b hb => by
  have := List.mem_of_mem_take hb
  simp only [zeros20, List.mem_cons, List.mem_nil_iff, or_false, or_self] at this
  subst this
  unfold isDig
  decide
theorem zeros_val (p : Nat) : valF 0 (zeros20.take p) = 0 := by
  have key : ∀ l : List UInt8, (∀ b ∈ l, b = 48) → valF 0 l = 0 := by
    intro l
    induction l with
    | nil => intro _; rfl
    | cons c r ih =>
      intro h
      have hc := h c (List.mem_cons_self ..)
      subst hc
      exact ih fun b hb => h b (List.mem_cons_of_mem _ hb)
  refine key _ fun b hb => ?_
  have := List.mem_of_mem_take hb
  simpa [zeros20] using this
theorem numsBack_pure (n pad : Int) (rest : List UInt8) : law2_NumsBack (n, pad, rest, ()) = some (true, ()) := by
  have easy : law2_NumsBack_j0 (n, pad, rest, ()) (true, ()) (true, ()) = some (true, ()) := rfl
  have main : 0 ≤ n → n ≤ 1099511627776 → 0 ≤ pad → pad ≤ 20 → rest.length ≤ 20 → (∀ b r, rest = b :: r → ¬ isDig b) → law2_NumsBack_j0 (n, pad, rest, ()) (true, ()) (false, ()) = some (true, ()) := fun h0 h1 h2 h3 h4 h5 => by
    obtain ⟨d1, d2, d3, d4⟩ := digs_ok 20 n.toNat (by have : (10 : Nat) ^ 21 = 1000000000000000000000 := by decide
                                                      omega)
    have hput : nums_Put (n, ()) = some (digs 20 n.toNat, ()) := by
      unfold nums_Put tItoa
      have e1 : (decide (-9223372036854775808 ≤ n) && decide (n ≤ 9223372036854775807)) = true := by simp only [Bool.and_eq_true, decide_eq_true_eq]; omega
      have e2 : decide (n < 0) = false := by simp only [decide_eq_false_iff_not]; omega
      simp only [e1, e2, oK]
    have hz : slc ([48, 48, 48, 48, 48, 48, 48, 48, 48, 48, 48, 48, 48, 48, 48, 48, 48, 48, 48, 48] : List UInt8) 0 pad = zeros20.take pad.toNat := by simp [slc, zeros20]
    have hzl : (zeros20.take pad.toNat).length ≤ 20 := by simp [zeros20]; omega
    have hval : valF 0 (zeros20.take pad.toNat ++ digs 20 n.toNat) = n.toNat := by rw [valF_app, zeros_val, d4]
    have hread := read_digits (ds := zeros20.take pad.toNat ++ digs 20 n.toNat) (rest := rest) (by simp [d2]) (fun b hb => by
      rcases List.mem_append.1 hb with hb | hb
      · exact zeros_dig _ b hb
      · exact d1 b hb) (by rw [hval]; omega) (by simp only [List.length_append]; omega) h5
    rw [hval] at hread
    have hok : okSl 0 pad 20 = true := by simp only [okSl, Bool.and_eq_true, decide_eq_true_eq]; omega
    have f1 : fits 1 ((zeros20.take pad.toNat).length + (digs 20 n.toNat).length) = true := by simp only [fits, Bool.and_eq_true, decide_eq_true_eq]; omega
    have f2 : fits 1 ((zeros20.take pad.toNat ++ digs 20 n.toNat).length + rest.length) = true := by simp only [fits, Bool.and_eq_true, decide_eq_true_eq, List.length_append]; omega
    have hn : ((n.toNat : Nat) : Int) = n := Int.toNat_of_nonneg h0
    rw [hn] at hread
    unfold law2_NumsBack_j0
    simp only [bK, hok, hput, oK, hz, f1, f2, hread]
    by_cases hb : (2147483648 : Int) < n
    · simp only [hb, decide_true, if_true, law2_num]
    · simp only [hb, decide_false, if_false, decide_true, law2_num, len]
  unfold law2_NumsBack
  rw [alive_eq]
  simp only [oK, Bool.not_true, bK, join]
  by_cases c1 : n < 0
  · simp only [c1, decide_true]; exact easy
  by_cases c2 : 1099511627776 < n
  · simp only [c1, c2, decide_true, decide_false]; exact easy
  by_cases c3 : pad < 0
  · simp only [c1, c2, c3, decide_true, decide_false]; exact easy
  by_cases c4 : 20 < pad
  · simp only [c1, c2, c3, c4, decide_true, decide_false]; exact easy
  by_cases c5 : 20 < len rest
  · simp only [c1, c2, c3, c4, c5, decide_true, decide_false]; exact easy
  simp only [c1, c2, c3, c4, c5, decide_false]
  have hlen : rest.length ≤ 20 := by simp only [len] at c5; omega
  cases rest with
  | nil =>
    have : decide (0 < len ([] : List UInt8)) = false := by decide
    simp only [this]
    exact main (by omega) (by omega) (by omega) (by omega) hlen (fun b r h => by cases h)
  | cons b r =>
    have h0 : decide (0 < len (b :: r)) = true := decide_eq_true (len_pos b r)
    have hi : idx (b :: r) 0 = some b := rfl
    simp only [h0, hi]
    by_cases e1 : ((b.toNat : Nat) : Int) < 48
    · have hnd : ¬ isDig b := by unfold isDig; omega
      simp only [e1, decide_true, Bool.not_true]
      exact main (by omega) (by omega) (by omega) (by omega) hlen (fun b' r' h => by cases h; exact hnd)
    · simp only [e1, decide_false, Bool.not_false]
      by_cases e2 : (57 : Int) < ((b.toNat : Nat) : Int)
      · have hnd : ¬ isDig b := by unfold isDig; omega
        simp only [e2, decide_true, Bool.not_true]
        exact main (by omega) (by omega) (by omega) (by omega) hlen (fun b' r' h => by cases h; exact hnd)
      · simp only [e2, decide_false, Bool.not_false]
        exact easy
end Go.Proofs.YthngeddaeoeimaaDoorTE
