/- The law EreTimes about the functions as they are told; no program in sight. -/
import Derived.Test.YtlkaoiceehlkmaaErLEreTimes
import Derived.Test.YtlkaoiceehlkmaaErP
namespace Go.Proofs.YtlkaoiceehlkmaaTE
open Go Go.Proofs.YtlkaoiceehlkmaaVE
set_option linter.unusedVariables false
set_option linter.unusedSimpArgs false
/-! a letter x -/
def nX : Node := Node.mk 2 0 72057594037927936 0 0 [] 0 0
set_option maxRecDepth 100000 in
theorem single_x : ere_single (120, ()) = some (nX, ()) := by kernel_rfl
theorem atom_x (n : Nat) (r : List UInt8) (w : Int) : fT (n + 1) ((), (120 :: r, 0, none, ()), w, ()) = some ((), (120 :: r, 1, none, ()), nX, ()) := by
  rw [fT_s]
  unfold ere_parser_atom_b
  have h0 : idx (120 :: r) 0 = some (120 : UInt8) := rfl
  have hi : ∀ sg, ere_parser_is ((), (120 :: r, 0, none, ()), sg, ()) = some ((), (120 :: r, 0, none, ()), sg.contains 120, ()) := fun sg => is_at (s := 120 :: r) (i := 0) rfl sg
  simp only [h0, oK_s, hi]
  rw [show ([42, 43, 63, 123] : List UInt8).contains 120 = false from rfl, show ([91] : List UInt8).contains 120 = false from rfl, show ([40] : List UInt8).contains 120 = false from rfl]
  simp only [bK_f]
  rw [show (((120 : UInt8).toNat : Nat) : Int) = 120 from rfl]
  rw [d_f (show ¬ (120 : Int) = 46 by decide), d_f (show ¬ (120 : Int) = 94 by decide), d_f (show ¬ (120 : Int) = 36 by decide), d_f (show ¬ (120 : Int) = 92 by decide)]
  simp only [bK_f, single_x, oK_s, nd_eta]
  rfl
def fields (n : Node) : Int × Int × Int × Int × Int × (List Node) × Int × Int × Unit := (n.kind, n.set0, n.set1, n.set2, n.set3, n.kids, n.min, n.max, ())
/-- What x and what follows it is, out of the rounds behind x. -/
theorem expr_x (r : List UInt8) (at_ : Int) (bad : Option EreWrong) (x : Node) (hr : r.length < 1000)
    (hp : fixN ere_parser_piece_l1 kBig (fields nX, (120 :: r, 1, none, ()), ()) = some ((), (120 :: r, at_, bad, ()), x, ()))
    (he : (∃ w, bad = some w) ∨ (bad = none ∧ at_ = ((r.length + 1 : Nat) : Int))) (n : Nat) (w : Int) : fE (n + 4) ((), (120 :: r, 0, none, ()), w, ()) = some ((), (120 :: r, at_, bad, ()), x, ()) := by
  have isE : ∀ sg, ere_parser_is ((), (120 :: r, at_, bad, ()), sg, ()) = some ((), (120 :: r, at_, bad, ()), false, ()) := fun sg => by
    rcases he with ⟨w, rfl⟩ | ⟨rfl, rfl⟩
    · exact is_bad _ _ _
    · exact is_end (s := 120 :: r) (i := r.length + 1) (by simp) sg
  have hP : ∀ n w, fP (n + 2) ((), (120 :: r, 0, none, ()), w, ()) = some ((), (120 :: r, at_, bad, ()), x, ()) := fun n w => by
    rw [fP_s]
    unfold ere_parser_piece_b
    simp only [atom_x, oK_s]
    exact hp
  have hof : ∀ k, ere_of (k, [x], ()) = some (x, ()) := fun k => by
    unfold ere_of
    rw [d_f (show ¬ len ([x] : List Node) = 0 by rw [len_e]; simp), d_t (show len ([x] : List Node) = 1 by rw [len_e]; rfl)]
    simp only [bK_f, bK_t, idx_z, List.getElem?_cons_zero, oK_s, nd_eta]
  have hfit : fits 80 (([] : List Node).length + 1) = true := by decide
  have hB : ∀ n w, fB (n + 3) ((), (120 :: r, 0, none, ()), w, ()) = some ((), (120 :: r, at_, bad, ()), x, ()) := fun n w => by
    rw [fB_s]
    unfold ere_parser_branch_b
    rw [show kBig = (kBig - 2) + 1 + 1 from rfl, fix_s]
    have h2 : fixN (ere_parser_branch_l1 (fP (n + 2)) ((), (120 :: r, 0, none, ()), w, ())) (kBig - 2 + 1) ([x], (120 :: r, at_, bad, ()), ()) = some ((), (120 :: r, at_, bad, ()), x, ()) := by
      rw [fix_s]
      unfold ere_parser_branch_l1 ere_parser_branch_j0
      rcases he with ⟨w, rfl⟩ | ⟨rfl, rfl⟩
      · simp only [Option.isNone_some]
        rw [show (false == true) = false from rfl]
        simp only [bK_f, join_e, hof, oK_s, nd_eta]
      · simp only [Option.isNone_none, beq_self_eq_true, bK_t]
        rw [d_f (show ¬ ((r.length + 1 : Nat) : Int) < len (120 :: r) by rw [len_e]; simp)]
        simp only [bK_f, join_e, hof, oK_s, nd_eta]
    generalize fixN (ere_parser_branch_l1 (fP (n + 2)) ((), (120 :: r, 0, none, ()), w, ())) (kBig - 2 + 1) = rec at h2
    unfold ere_parser_branch_l1
    have hi := is_at (s := 120 :: r) (i := 0) (c := 120) rfl [124, 41]
    simp only [Option.isNone_none, beq_self_eq_true, bK_t]
    rw [d_t (show (0 : Int) < len (120 :: r) by rw [len_e]; simp)]
    simp only [bK_t]
    rw [show (((0 : Nat) : Int)) = 0 from rfl] at hi
    rw [hi]
    rw [show ([124, 41] : List UInt8).contains 120 = false from rfl]
    simp only [oK_s, Bool.not_false, bK_t, hP, hfit, List.nil_append, nd_eta]
    exact h2
  rw [fE_s]
  unfold ere_parser_expression_b
  simp only [hB, oK_s, nd_eta]
  rw [show kBig = (kBig - 1) + 1 from rfl, fix_s]
  unfold ere_parser_expression_l0
  simp only [isE, oK_s, bK_f, hof, nd_eta]
/-! the signs behind -/
def nT (lo hi : Int) (x : Node) : Node := Node.mk 5 0 0 0 0 [x] lo hi
theorem pl_end (s : List UInt8) (at_ : Int) (bad : Option EreWrong) (x : Node) (h : ∀ sg, ere_parser_is ((), (s, at_, bad, ()), sg, ()) = some ((), (s, at_, bad, ()), false, ())) (k : Nat) :
    fixN ere_parser_piece_l1 (k + 1) (fields x, (s, at_, bad, ()), ()) = some ((), (s, at_, bad, ()), x, ()) := by
  rw [fix_s]
  unfold ere_parser_piece_l1
  simp only [h, oK_s, bK_f, fields, nd_eta]
theorem pl_j0 (rec) (x : Node) (s : List UInt8) (i : Nat) (hi : i < 1000000) (p0 : PSt) (lo hi_ : Int) (at_ : Int) (h0 : -1000000 ≤ at_) (h1 : at_ ≤ 1000000) (bad : Option EreWrong) :
    ere_parser_piece_j0 rec (fields x, p0, ()) (lo, hi_, (s, at_, bad, ()), ()) = rec (fields (nT lo hi_ x), (s, at_ + 1, bad, ()), ()) := by
  unfold ere_parser_piece_j0
  have e : IntKind.wrap .i64 (at_ + 1) = at_ + 1 := i64_in (by omega) (by omega)
  simp only [e, fields, nd_eta, nT]
/-- One sign alone. -/
theorem pl_sign (c : UInt8) (lo hi_ : Int) (hc : (c = 42 ∧ lo = 0 ∧ hi_ = -1) ∨ (c = 43 ∧ lo = 1 ∧ hi_ = -1) ∨ (c = 63 ∧ lo = 0 ∧ hi_ = 1)) :
    fixN ere_parser_piece_l1 kBig (fields nX, ([120, c], 1, none, ()), ()) = some ((), ([120, c], 2, none, ()), nT lo hi_ nX, ()) := by
  rw [show kBig = (kBig - 2) + 1 + 1 from rfl, fix_s]
  have h2 := pl_end [120, c] 2 none (nT lo hi_ nX) (fun sg => is_end (s := [120, c]) (i := 2) (by simp) sg) (kBig - 2)
  generalize fixN ere_parser_piece_l1 (kBig - 2 + 1) = rec at h2
  unfold ere_parser_piece_l1
  have hi := is_at (s := [120, c]) (i := 1) (c := c) rfl [42, 43, 63, 123]
  rw [show (((1 : Nat) : Int)) = 1 from rfl] at hi
  have hx : idx ([120, c] : List UInt8) 1 = some c := rfl
  simp only [hi, oK_s, hx]
  rcases hc with ⟨rfl, rfl, rfl⟩ | ⟨rfl, rfl, rfl⟩ | ⟨rfl, rfl, rfl⟩
  all_goals
    simp only [show ([42, 43, 63, 123] : List UInt8).contains 42 = true from rfl, show ([42, 43, 63, 123] : List UInt8).contains 43 = true from rfl, show ([42, 43, 63, 123] : List UInt8).contains 63 = true from rfl, bK_t, show decide ((((42 : UInt8).toNat : Nat) : Int) = 43) = false from rfl, show decide ((((42 : UInt8).toNat : Nat) : Int) = 63) = false from rfl, show decide ((((42 : UInt8).toNat : Nat) : Int) = 123) = false from rfl,
      show decide ((((43 : UInt8).toNat : Nat) : Int) = 43) = true from rfl, show decide ((((63 : UInt8).toNat : Nat) : Int) = 43) = false from rfl, show decide ((((63 : UInt8).toNat : Nat) : Int) = 63) = true from rfl, bK_f, join_e]
    rw [pl_j0 rec nX _ 1 (by omega) _ _ _ 1 (by omega) (by omega)]
    exact h2
/-! numbers -/
def isDig (b : UInt8) : Prop := 48 ≤ b.toNat ∧ b.toNat ≤ 57
def valF (acc : Nat) : List UInt8 → Nat
  | [] => acc
  | c :: r => valF (acc * 10 + (c.toNat - 48)) r
theorem valF_app : ∀ (l r : List UInt8) (acc : Nat), valF acc (l ++ r) = valF (valF acc l) r
  | [], r, acc => rfl
  | c :: l, r, acc => valF_app l r _
theorem valF_le : ∀ (l : List UInt8) (acc : Nat), (∀ b ∈ l, isDig b) → valF acc l < (acc + 1) * 10 ^ l.length
  | [], acc, _ => by
    show acc < (acc + 1) * 1
    omega
  | c :: l, acc, h => by
    have h1 := valF_le l (acc * 10 + (c.toNat - 48)) (fun b hb => h b (List.mem_cons_of_mem _ hb))
    obtain ⟨h2, h3⟩ := h c (List.mem_cons_self ..)
    have h4 : (acc * 10 + (c.toNat - 48) + 1) * 10 ^ l.length ≤ ((acc + 1) * 10) * 10 ^ l.length := Nat.mul_le_mul_right _ (by omega)
    refine Nat.lt_of_lt_of_le (show valF acc (c :: l) < _ from h1) ?_
    rw [List.length_cons, Nat.pow_succ, Nat.mul_comm (10 ^ l.length) 10, ← Nat.mul_assoc]
    exact h4
theorem u8_dig {b : UInt8} (h : isDig b) : IntKind.wrap .i64 (IntKind.wrap .u8 (((b.toNat : Nat) : Int) - 48)) = ((b.toNat - 48 : Nat) : Int) := by
  obtain ⟨h1, h2⟩ := h
  have : IntKind.wrap .u8 (((b.toNat : Nat) : Int) - 48) = ((b.toNat - 48 : Nat) : Int) := by
    rw [IntKind.wrap_u8]
    omega
  rw [this, i64_nat (by omega)]
theorem number_ok {pre ds rest : List UInt8} (hd : ∀ b ∈ ds, isDig b) (hl : ds.length ≤ 3) (hr : ∀ b r, rest = b :: r → ¬ isDig b) (hs : (pre ++ (ds ++ rest)).length ≤ 1000000) (p : Int) (bad : Option EreWrong) :
    ere_parser_number ((), (pre ++ (ds ++ rest), p, bad, ()), ((pre.length : Nat) : Int), ()) = some ((), (pre ++ (ds ++ rest), p, bad, ()), ((valF 0 ds : Nat) : Int), ((pre.length + ds.length : Nat) : Int), (decide (0 < ds.length) && decide (valF 0 ds ≤ 200)), ()) := by
  have hlen : (pre ++ (ds ++ rest)).length = pre.length + (ds.length + rest.length) := by simp
  have hget : ∀ i, (pre ++ (ds ++ rest))[pre.length + i]? = (ds ++ rest)[i]? := fun i => by
    rw [List.getElem?_append_right (by omega), show pre.length + i - pre.length = i by omega]
  have hfin : ere_parser_number_j0 ((), (pre ++ (ds ++ rest), p, bad, ()), ((pre.length : Nat) : Int), ()) (((valF 0 ds : Nat) : Int), ((pre.length + ds.length : Nat) : Int), ()) = some ((), (pre ++ (ds ++ rest), p, bad, ()), ((valF 0 ds : Nat) : Int), ((pre.length + ds.length : Nat) : Int), (decide (0 < ds.length) && decide (valF 0 ds ≤ 200)), ()) := by
    unfold ere_parser_number_j0
    by_cases h0 : 0 < ds.length
    · simp only [d_t (show ((pre.length : Nat) : Int) < ((pre.length + ds.length : Nat) : Int) by omega), bK_t, d_t h0, Bool.true_and]
      rw [i64_in (by omega) (by omega)]
      simp only [d_f (show ¬ ((pre.length : Nat) : Int) + 3 < ((pre.length + ds.length : Nat) : Int) by omega), Bool.not_false, bK_t]
      by_cases hv : valF 0 ds ≤ 200
      · rw [d_t hv, d_f (show ¬ (200 : Int) < ((valF 0 ds : Nat) : Int) by omega)]; rfl
      · rw [d_f hv, d_t (show (200 : Int) < ((valF 0 ds : Nat) : Int) by omega)]; rfl
    · simp only [d_f (show ¬ ((pre.length : Nat) : Int) < ((pre.length + ds.length : Nat) : Int) by omega), bK_f, d_f h0, Bool.false_and]
  have key : ∀ (d j k : Nat), j + d = ds.length → d < k → fixN (ere_parser_number_l1 ((), (pre ++ (ds ++ rest), p, bad, ()), ((pre.length : Nat) : Int), ())) k (((valF 0 (ds.take j) : Nat) : Int), ((pre.length + j : Nat) : Int), ()) = ere_parser_number_j0 ((), (pre ++ (ds ++ rest), p, bad, ()), ((pre.length : Nat) : Int), ()) (((valF 0 ds : Nat) : Int), ((pre.length + ds.length : Nat) : Int), ()) := by
    intro d
    generalize ht : pre ++ (ds ++ rest) = t at *
    induction d with
    | zero =>
      intro j k hj hk
      obtain ⟨k, rfl⟩ : ∃ q, k = q + 1 := ⟨k - 1, by omega⟩
      have hjd : j = ds.length := by omega
      subst hjd
      rw [fix_s, List.take_length]
      unfold ere_parser_number_l1
      by_cases hlt : pre.length + ds.length < t.length
      · simp only [d_t (show ((pre.length + ds.length : Nat) : Int) < len t by rw [len_e]; omega), bK_t]
        have hg : t[pre.length + ds.length]? = some t[pre.length + ds.length] := by simp [hlt]
        have hb : ¬ isDig t[pre.length + ds.length] := by
          have h2 := hget ds.length
          rw [hg, List.getElem?_append_right (Nat.le_refl _), Nat.sub_self] at h2
          cases rest with
          | nil => simp at h2
          | cons c r =>
            simp only [List.getElem?_cons_zero, Option.some.injEq] at h2
            rw [h2]; exact hr c r rfl
        rw [idx_n, hg]
        simp only [oK_s]
        by_cases h48 : ((t[pre.length + ds.length].toNat : Nat) : Int) < 48
        · simp only [d_t h48, Bool.not_true, bK_f, join_e]
        · have h57 : (57 : Int) < ((t[pre.length + ds.length].toNat : Nat) : Int) := by unfold isDig at hb; omega
          simp only [d_f h48, Bool.not_false, bK_t, d_t h57, Bool.not_true, bK_f, join_e]
      · simp only [d_f (show ¬ ((pre.length + ds.length : Nat) : Int) < len t by rw [len_e]; omega), bK_f, join_e]
    | succ d ih =>
      intro j k hj hk
      obtain ⟨k, rfl⟩ : ∃ q, k = q + 1 := ⟨k - 1, by omega⟩
      rw [fix_s]
      have ih := ih (j + 1) k (by omega) (by omega)
      generalize fixN (ere_parser_number_l1 ((), (t, p, bad, ()), ((pre.length : Nat) : Int), ())) k = rec at ih
      unfold ere_parser_number_l1
      have hlt : pre.length + j < t.length := by omega
      have hg : t[pre.length + j]? = some t[pre.length + j] := by simp [hlt]
      have hj2 : ds[j]? = some t[pre.length + j] := by
        have h2 := hget j
        rw [hg, List.getElem?_append_left (by omega)] at h2
        exact h2.symm
      have hdig : isDig t[pre.length + j] := hd _ (List.mem_of_getElem? hj2)
      have hdig' := hdig
      obtain ⟨b1, b2⟩ := hdig'
      simp only [d_t (show ((pre.length + j : Nat) : Int) < len t by rw [len_e]; omega), bK_t]
      rw [idx_n, hg]
      simp only [oK_s, d_f (show ¬ ((t[pre.length + j].toNat : Nat) : Int) < 48 by omega), Bool.not_false, bK_t, d_f (show ¬ (57 : Int) < ((t[pre.length + j].toNat : Nat) : Int) by omega)]
      rw [i64_in (n := ((pre.length : Nat) : Int) + 3) (by omega) (by omega), i64_in (n := ((pre.length : Nat) : Int) + 3 + 1) (by omega) (by omega)]
      simp only [d_t (show ((pre.length + j : Nat) : Int) < ((pre.length : Nat) : Int) + 3 + 1 by omega), bK_t]
      rw [u8_dig hdig]
      have hvl : valF 0 (ds.take j) < 1000 := by
        have := valF_le (ds.take j) 0 (fun b hb => hd b (List.mem_of_mem_take hb))
        have h10 : (10 : Nat) ^ (ds.take j).length ≤ 10 ^ 3 := Nat.pow_le_pow_right (by decide) (by rw [List.length_take]; omega)
        have : (10 : Nat) ^ 3 = 1000 := by decide
        omega
      rw [i64_in (n := ((valF 0 (ds.take j) : Nat) : Int) * 10) (by omega) (by omega), i64_in (by omega) (by omega), i64_succ (by omega)]
      have hv : valF 0 (ds.take (j + 1)) = valF 0 (ds.take j) * 10 + (t[pre.length + j].toNat - 48) := by
        rw [List.take_add_one, hj2, Option.toList_some, valF_app]
        rfl
      rw [hv] at ih
      rw [← ih]
      refine congrArg rec ?_
      refine Prod.ext ?_ rfl
      show ((valF 0 (ds.take j) : Nat) : Int) * 10 + ((t[pre.length + j].toNat - 48 : Nat) : Int) = ((valF 0 (ds.take j) * 10 + (t[pre.length + j].toNat - 48) : Nat) : Int)
      omega
  have h := key ds.length 0 kBig (by omega) (kBig_gt (by omega))
  rw [hfin] at h
  unfold ere_parser_number ere_parser_number_k
  exact h
/-! numbers in brackets -/
theorem slc_at {s : List UInt8} {pre rest : List UInt8} (h : s = pre ++ rest) : slc s ((pre.length : Nat) : Int) (len s) = rest := by
  rw [slc_from, h, List.drop_left]
theorem okSl_at {s pre rest : List UInt8} (h : s = pre ++ rest) : okSl ((pre.length : Nat) : Int) (len s) (len s) = true := by
  have : s.length = pre.length + rest.length := by rw [h, List.length_append]
  exact okSl_t (by omega) (by rw [len_e]; omega) (Int.le_refl _)
theorem comma_no {B : List UInt8} : ∀ b r, (44 :: B : List UInt8) = b :: r → ¬ isDig b := fun b r h => by
  cases h
  unfold isDig
  decide
theorem brace_no {B : List UInt8} : ∀ b r, (125 :: B : List UInt8) = b :: r → ¬ isDig b := fun b r h => by
  cases h
  unfold isDig
  decide
theorem len_pos' {A : List UInt8} (hA0 : A ≠ []) : decide (0 < A.length) = true := d_t (by cases A with | nil => exact absurd rfl hA0 | cons _ _ => simp)
section times
variable {A B : List UInt8} (hA : ∀ b ∈ A, isDig b) (hA0 : A ≠ []) (hA3 : A.length ≤ 3)
include hA hA0 hA3
theorem times_a : ere_parser_times ((), ([120, 123] ++ (A ++ [125]), 1, none, ()), ()) = if valF 0 A ≤ 200 then some ((), ([120, 123] ++ (A ++ [125]), ((2 + A.length : Nat) : Int), none, ()), ((valF 0 A : Nat) : Int), ((valF 0 A : Nat) : Int), ()) else some ((), ([120, 123] ++ (A ++ [125]), 1, some ⟨1, 2⟩, ()), 0, 0, ()) := by
  obtain ⟨s, hs⟩ : ∃ s, s = [120, 123] ++ (A ++ [125]) := ⟨_, rfl⟩
  have hn := number_ok (pre := [120, 123]) (rest := [125]) hA hA3 brace_no (by simp; omega) 1 none
  rw [← hs] at hn ⊢
  rw [show ((([120, 123] : List UInt8).length : Nat) : Int) = 2 from rfl] at hn
  have hsp : s = ([120, 123] ++ A) ++ [125] := by rw [hs, List.append_assoc]
  have hpl : ((([120, 123] : List UInt8).length + A.length : Nat) : Int) = (((([120, 123] : List UInt8) ++ A).length : Nat) : Int) := by rw [List.length_append]
  rw [len_pos' hA0, Bool.true_and, hpl] at hn
  have hok := okSl_at hsp
  have hsl := slc_at hsp
  unfold ere_parser_times
  rw [show IntKind.wrap .i64 (1 + 1) = 2 from rfl]
  simp only [hn, oK_s]
  have hlast : ((2 + A.length : Nat) : Int) = (((([120, 123] : List UInt8) ++ A).length : Nat) : Int) := by rw [List.length_append]; rfl
  by_cases hv : valF 0 A ≤ 200
  · rw [if_pos hv, hlast]
    simp only [d_t hv, bK_t, hok, hsl, pre_one, oK_s]
    rw [show (([125] : List UInt8).head? == some 44) = false from rfl]
    unfold ere_parser_times_j2 ere_parser_times_j1 ere_parser_times_j0
    simp only [join_e, bK_f, Bool.not_true, hok, bK_t, hsl, pre_one, oK_s]
    rw [show (([125] : List UInt8).head? == some 125) = true from rfl]
    rfl
  · rw [if_neg hv]
    simp only [d_f hv, bK_f]
    unfold ere_parser_times_j2 ere_parser_times_j1 ere_parser_times_j0
    simp only [join_e, bK_f, Bool.not_false, bK_t, fail_ok, oK_s]
theorem times_b : ere_parser_times ((), ([120, 123] ++ (A ++ [44, 125]), 1, none, ()), ()) = if valF 0 A ≤ 200 then some ((), ([120, 123] ++ (A ++ [44, 125]), ((2 + A.length + 1 : Nat) : Int), none, ()), ((valF 0 A : Nat) : Int), -1, ()) else some ((), ([120, 123] ++ (A ++ [44, 125]), 1, some ⟨1, 2⟩, ()), 0, 0, ()) := by
  obtain ⟨s, hs⟩ : ∃ s, s = [120, 123] ++ (A ++ [44, 125]) := ⟨_, rfl⟩
  have hn := number_ok (pre := [120, 123]) (rest := [44, 125]) hA hA3 comma_no (by simp; omega) 1 none
  rw [← hs] at hn ⊢
  rw [show ((([120, 123] : List UInt8).length : Nat) : Int) = 2 from rfl] at hn
  have hsp : s = ([120, 123] ++ A) ++ [44, 125] := by rw [hs, List.append_assoc]
  have hsp2 : s = ([120, 123] ++ (A ++ [44])) ++ [125] := by rw [hs]; simp
  have hpl : ((([120, 123] : List UInt8).length + A.length : Nat) : Int) = (((([120, 123] : List UInt8) ++ A).length : Nat) : Int) := by rw [List.length_append]
  rw [len_pos' hA0, Bool.true_and, hpl] at hn
  have hok := okSl_at hsp
  have hsl := slc_at hsp
  have hok2 := okSl_at hsp2
  have hsl2 := slc_at hsp2
  have hw : IntKind.wrap .i64 ((((([120, 123] : List UInt8) ++ A).length : Nat) : Int) + 1) = (((([120, 123] : List UInt8) ++ (A ++ [44])).length : Nat) : Int) := by
    rw [i64_succ (by simp; omega)]; simp
  unfold ere_parser_times
  rw [show IntKind.wrap .i64 (1 + 1) = 2 from rfl]
  simp only [hn, oK_s]
  have hlast : ((2 + A.length + 1 : Nat) : Int) = (((([120, 123] : List UInt8) ++ (A ++ [44])).length : Nat) : Int) := by simp; omega
  by_cases hv : valF 0 A ≤ 200
  · rw [if_pos hv, hlast]
    simp only [d_t hv, bK_t, hok, hsl, pre_one, oK_s]
    rw [show (([44, 125] : List UInt8).head? == some 44) = true from rfl]
    unfold ere_parser_times_j2 ere_parser_times_j1 ere_parser_times_j0
    simp only [join_e, hw, bK_f, Bool.not_true, hok2, bK_t, hsl2, pre_one, oK_s]
    rw [show (([125] : List UInt8).head? == some 125) = true from rfl]
    simp only [bK_t, bK_f, Bool.not_true]
  · rw [if_neg hv]
    simp only [d_f hv, bK_f]
    unfold ere_parser_times_j2 ere_parser_times_j1 ere_parser_times_j0
    simp only [join_e, bK_f, Bool.not_false, bK_t, fail_ok, oK_s]
theorem times_c (hB : ∀ b ∈ B, isDig b) (hB0 : B ≠ []) (hB3 : B.length ≤ 3) : ere_parser_times ((), ([120, 123] ++ (A ++ (44 :: (B ++ [125]))), 1, none, ()), ()) = if valF 0 A ≤ 200 ∧ valF 0 B ≤ 200 ∧ valF 0 A ≤ valF 0 B then some ((), ([120, 123] ++ (A ++ (44 :: (B ++ [125]))), ((2 + A.length + 1 + B.length : Nat) : Int), none, ()), ((valF 0 A : Nat) : Int), ((valF 0 B : Nat) : Int), ()) else some ((), ([120, 123] ++ (A ++ (44 :: (B ++ [125]))), 1, some ⟨1, 2⟩, ()), 0, 0, ()) := by
  obtain ⟨s, hs⟩ : ∃ s, s = [120, 123] ++ (A ++ (44 :: (B ++ [125]))) := ⟨_, rfl⟩
  have hn := number_ok (pre := [120, 123]) (rest := 44 :: (B ++ [125])) hA hA3 comma_no (by simp; omega) 1 none
  rw [← hs] at hn ⊢
  rw [show ((([120, 123] : List UInt8).length : Nat) : Int) = 2 from rfl] at hn
  have hsp : s = ([120, 123] ++ A) ++ (44 :: (B ++ [125])) := by rw [hs, List.append_assoc]
  have hsp2 : s = ([120, 123] ++ (A ++ [44])) ++ (B ++ [125]) := by rw [hs]; simp
  have hsp3 : s = ([120, 123] ++ (A ++ [44]) ++ B) ++ [125] := by rw [hs]; simp
  have hn2 := number_ok (pre := [120, 123] ++ (A ++ [44])) (rest := [125]) hB hB3 brace_no (by simp; omega) 1 none
  rw [← hsp2] at hn2
  have hpl : ((([120, 123] : List UInt8).length + A.length : Nat) : Int) = (((([120, 123] : List UInt8) ++ A).length : Nat) : Int) := by rw [List.length_append]
  have hpl2 : ((([120, 123] ++ (A ++ [44]) : List UInt8).length + B.length : Nat) : Int) = (((([120, 123] : List UInt8) ++ (A ++ [44]) ++ B).length : Nat) : Int) := by simp only [List.length_append]
  rw [len_pos' hA0, Bool.true_and, hpl] at hn
  rw [len_pos' hB0, Bool.true_and, hpl2] at hn2
  have hok := okSl_at hsp
  have hsl := slc_at hsp
  have hok2 := okSl_at hsp2
  have hsl2 := slc_at hsp2
  have hok3 := okSl_at hsp3
  have hsl3 := slc_at hsp3
  have hw : IntKind.wrap .i64 ((((([120, 123] : List UInt8) ++ A).length : Nat) : Int) + 1) = (((([120, 123] : List UInt8) ++ (A ++ [44])).length : Nat) : Int) := by
    rw [i64_succ (by simp; omega)]; simp
  have hB125 : ((B ++ [125]).head? == some 125) = false := by
    cases B with
    | nil => exact absurd rfl hB0
    | cons b B =>
      have := hB b (List.mem_cons_self ..)
      have hb : b ≠ 125 := by rintro rfl; unfold isDig at this; revert this; decide
      simpa using hb
  unfold ere_parser_times
  rw [show IntKind.wrap .i64 (1 + 1) = 2 from rfl]
  simp only [hn, oK_s]
  have hlast : ((2 + A.length + 1 + B.length : Nat) : Int) = (((([120, 123] : List UInt8) ++ (A ++ [44]) ++ B).length : Nat) : Int) := by simp; omega
  by_cases hv : valF 0 A ≤ 200
  · simp only [d_t hv, bK_t, hok, hsl, pre_one, oK_s]
    rw [show ((44 :: (B ++ [125]) : List UInt8).head? == some 44) = true from by simp]
    unfold ere_parser_times_j2 ere_parser_times_j1 ere_parser_times_j0
    simp only [join_e, hw, bK_t, hok2, hsl2, pre_one, oK_s, hB125, bK_f, hn2]
    by_cases hv2 : valF 0 B ≤ 200
    · simp only [d_t hv2, bK_t]
      by_cases hv3 : valF 0 A ≤ valF 0 B
      · rw [if_pos ⟨hv, hv2, hv3⟩, hlast]
        simp only [d_f (show ¬ ((valF 0 B : Nat) : Int) < ((valF 0 A : Nat) : Int) by omega), Bool.not_false, Bool.not_true, bK_f, hok3, bK_t, hsl3, pre_one, oK_s]
        rw [show (([125] : List UInt8).head? == some 125) = true from rfl]
        simp only [Bool.not_true, bK_f]
      · rw [if_neg (fun h => hv3 h.2.2)]
        simp only [d_t (show ((valF 0 B : Nat) : Int) < ((valF 0 A : Nat) : Int) by omega), Bool.not_true, Bool.not_false, bK_t, fail_ok, oK_s]
    · rw [if_neg (fun h => hv2 h.2.1)]
      simp only [d_f hv2, bK_f, Bool.not_false, bK_t, fail_ok, oK_s]
  · rw [if_neg (fun h => hv h.1)]
    simp only [d_f hv, bK_f]
    unfold ere_parser_times_j2 ere_parser_times_j1 ere_parser_times_j0
    simp only [join_e, bK_f, Bool.not_false, bK_t, fail_ok, oK_s]
end times
/-! the rounds -/
/-- One bracket alone. -/
theorem pl_brace (rest : List UInt8) (hr : rest.length < 100) (at_ : Nat) (ha : at_ < 1000) (bad : Option EreWrong) (lo hi_ : Int)
    (ht : ere_parser_times ((), ([120, 123] ++ rest, 1, none, ()), ()) = some ((), ([120, 123] ++ rest, ((at_ : Nat) : Int), bad, ()), lo, hi_, ()))
    (he : (∃ w, bad = some w) ∨ (bad = none ∧ at_ + 1 = ([120, 123] ++ rest).length)) :
    fixN ere_parser_piece_l1 kBig (fields nX, ([120, 123] ++ rest, 1, none, ()), ()) = some ((), ([120, 123] ++ rest, ((at_ + 1 : Nat) : Int), bad, ()), nT lo hi_ nX, ()) := by
  obtain ⟨s, hs⟩ : ∃ s, s = [120, 123] ++ rest := ⟨_, rfl⟩
  have h1 : s[1]? = some 123 := by rw [hs]; rfl
  rw [← hs] at ht he ⊢
  rw [show kBig = (kBig - 2) + 1 + 1 from rfl, fix_s]
  have h2 := pl_end s ((at_ + 1 : Nat) : Int) bad (nT lo hi_ nX) (fun sg => by
    rcases he with ⟨w, rfl⟩ | ⟨rfl, he⟩
    · exact is_bad _ _ _
    · exact is_end (by omega) sg) (kBig - 2)
  generalize fixN ere_parser_piece_l1 (kBig - 2 + 1) = rec at h2
  unfold ere_parser_piece_l1
  have hi := is_at (s := s) (i := 1) h1 [42, 43, 63, 123]
  rw [show (((1 : Nat) : Int)) = 1 from rfl] at hi
  have hx : idx s 1 = some (123 : UInt8) := h1
  simp only [hi, oK_s, hx, show ([42, 43, 63, 123] : List UInt8).contains 123 = true from rfl, bK_t, show decide ((((123 : UInt8).toNat : Nat) : Int) = 43) = false from rfl, show decide ((((123 : UInt8).toNat : Nat) : Int) = 63) = false from rfl, show decide ((((123 : UInt8).toNat : Nat) : Int) = 123) = true from rfl, bK_f, join_e, ht]
  rw [pl_j0 rec nX _ 1 (by omega) _ _ _ _ (by omega) (by omega)]
  rw [← h2]
  refine congrArg rec ?_
  rw [show ((at_ : Nat) : Int) + 1 = ((at_ + 1 : Nat) : Int) by omega]
/-! what may be -/
theorem form_nT (lo hi_ : Int) : ere_form (nT lo hi_ nX, ()) = bK (!(decide (lo < 0))) (bK (!(decide (200 < lo))) (bK (decide (hi_ = (-1))) (some (true, ())) (bK (!(decide (hi_ < lo))) (some (!(decide (200 < hi_)), ())) (some (false, ())))) (some (false, ()))) (some (false, ())) := by kernel_rfl
theorem right_T (lo hi_ : Int) (h0 : 0 ≤ lo) (h1 : lo ≤ 200) (h2 : hi_ = -1 ∨ (lo ≤ hi_ ∧ hi_ ≤ 200)) : ere_Right (nT lo hi_ nX, ()) = some (true, ()) := by
  have form_T : ere_form (nT lo hi_ nX, ()) = some (true, ()) := by
    rw [form_nT]
    rw [d_f (show ¬ lo < 0 by omega), d_f (show ¬ 200 < lo by omega)]
    simp only [Bool.not_false, bK_t]
    rcases h2 with rfl | ⟨h2, h3⟩
    · rfl
    · rw [d_f (show ¬ hi_ = -1 by omega), d_f (show ¬ hi_ < lo by omega), d_f (show ¬ 200 < hi_ by omega)]
      rfl
  have rX : ∀ n l, (ere_right_all kBig (n + 1)) (nX, l, ()) = some (true, ()) := fun n l => by
    show ere_right_b (ere_right_all kBig n) kBig (nX, l, ()) = _
    have fX : ere_form (nX, ()) = some (true, ()) := by kernel_rfl
    unfold ere_right_b
    rw [nd_eta]
    simp only [fX, oK_s, Bool.not_true, bK_f]
    rw [d_f (show ¬ 0 < len nX.kids by rw [len_e]; decide)]
    simp only [bK_f, join_e]
    unfold ere_right_j1
    rw [show kBig = (kBig - 1) + 1 from rfl, fix_s]
    unfold ere_right_l0
    simp only [d_f (show ¬ 0 < len nX.kids by rw [len_e]; decide), bK_f]
  have rT : ere_right (nT lo hi_ nX, 200, ()) = some (true, ()) := by
    unfold ere_right
    rw [show ere_right_all kBig kBig = ere_right_b (ere_right_all kBig (kBig - 1)) kBig from rfl]
    have hX := rX (kBig - 2)
    rw [show kBig - 2 + 1 = kBig - 1 from rfl] at hX
    generalize ere_right_all kBig (kBig - 1) = R at hX
    unfold ere_right_b
    rw [nd_eta]
    have hk : (nT lo hi_ nX).kids = [nX] := rfl
    simp only [form_T, oK_s, Bool.not_true, bK_f, hk]
    rw [d_t (show 0 < len ([nX] : List Node) by rw [len_e]; decide), d_f (show ¬ (200 : Int) < 1 by decide)]
    simp only [bK_t, bK_f, join_e]
    unfold ere_right_j1
    rw [show kBig = (kBig - 2) + 1 + 1 from rfl, fix_s]
    have hend : fixN (ere_right_l0 R (nT lo hi_ nX, 200, ())) (kBig - 2 + 1) (1, ()) = some (true, ()) := by
      rw [fix_s]
      unfold ere_right_l0
      simp only [hk]
      rw [d_f (show ¬ 1 < len ([nX] : List Node) by rw [len_e]; decide)]
      rfl
    generalize fixN (ere_right_l0 R (nT lo hi_ nX, 200, ())) (kBig - 2 + 1) = rec at hend
    unfold ere_right_l0
    simp only [hk]
    rw [d_t (show 0 < len ([nX] : List Node) by rw [len_e]; decide)]
    simp only [bK_t, idx_z, List.getElem?_cons_zero, oK_s, nd_eta, hX, Bool.not_true, bK_f]
    exact hend
  have tT : ∃ t : Int, ere_times (nT lo hi_ nX, ()) = some (t, ()) ∧ 1 ≤ t ∧ t ≤ 200 := by
    unfold ere_times
    simp only [nT, d_t (show (5 : Int) = 5 by decide), Bool.not_true, bK_f]
    refine ⟨_, rfl, ?_, ?_⟩
    all_goals
      unfold iMax
      by_cases e1 : lo < hi_
      · simp only [d_t e1, cond_true]
        by_cases e2 : hi_ < 1
        · simp only [d_t e2, cond_true]; omega
        · simp only [d_f e2, cond_false]; omega
      · simp only [d_f e1, cond_false]
        by_cases e2 : lo < 1
        · simp only [d_t e2, cond_true]; omega
        · simp only [d_f e2, cond_false]; omega
  have sX : ∀ n, (ere_Size_all kBig (n + 1)) (nX, ()) = some (1, ()) := fun n => by
    show ere_Size_b (ere_Size_all kBig n) kBig (nX, ()) = _
    unfold ere_Size_b
    rw [show kBig = (kBig - 1) + 1 from rfl, fix_s]
    unfold ere_Size_l1
    simp only [d_f (show ¬ 0 < len nX.kids by rw [len_e]; decide), bK_f]
  have sT : ∃ z : Int, ere_Size (nT lo hi_ nX, ()) = some (z, ()) ∧ z ≤ 20000 := by
    obtain ⟨t, ht, t1, t2⟩ := tT
    unfold ere_Size
    rw [show ere_Size_all kBig kBig = ere_Size_b (ere_Size_all kBig (kBig - 1)) kBig from rfl]
    have hX := sX (kBig - 2)
    rw [show kBig - 2 + 1 = kBig - 1 from rfl] at hX
    generalize ere_Size_all kBig (kBig - 1) = R at hX
    unfold ere_Size_b
    have hk : (nT lo hi_ nX).kids = [nX] := rfl
    rw [show kBig = (kBig - 2) + 1 + 1 from rfl, fix_s]
    have hend : ∀ z, fixN (ere_Size_l1 R (nT lo hi_ nX, ())) (kBig - 2 + 1) (z, 1, ()) = some (z, ()) := fun z => by
      rw [fix_s]
      unfold ere_Size_l1
      simp only [hk]
      rw [d_f (show ¬ 1 < len ([nX] : List Node) by rw [len_e]; decide)]
      rfl
    generalize fixN (ere_Size_l1 R (nT lo hi_ nX, ())) (kBig - 2 + 1) = rec at hend
    unfold ere_Size_l1
    simp only [nd_eta]
    simp only [hk]
    rw [d_t (show 0 < len ([nX] : List Node) by rw [len_e]; decide)]
    simp only [bK_t, idx_z, List.getElem?_cons_zero, oK_s, nd_eta, hX, ht]
    rw [d_f (show ¬ t = 0 by omega)]
    have hq : 1 ≤ Int.tdiv 1073741824 t := by
      rw [Int.tdiv_eq_ediv_of_nonneg (by decide)]
      exact (Int.le_ediv_iff_mul_le (by omega)).2 (by omega)
    have hq2 : Int.tdiv 1073741824 t ≤ 1073741824 := by
      rw [Int.tdiv_eq_ediv_of_nonneg (by decide)]
      exact Int.ediv_le_self _ (by decide)
    have hlt : ¬ IntKind.wrap .i64 (Int.tdiv 1073741824 t) < 1 := by rw [i64_in (by omega) (by omega)]; omega
    simp only [bK_f, d_f hlt, join_e]
    unfold ere_Size_j0
    have e1 : IntKind.wrap .i64 (1 * t) = t := by rw [Int.one_mul]; exact i64_in (by omega) (by omega)
    have e2 : IntKind.wrap .i64 (1 + t) = 1 + t := i64_in (by omega) (by omega)
    have e3 : iMin 1073741824 (1 + t) = 1 + t := by unfold iMin; simp only [d_t (show 1 + t < 1073741824 by omega), cond_true]
    simp only [e1, e2, e3]
    exact ⟨1 + t, hend (1 + t), by omega⟩
  obtain ⟨z, hz, hz2⟩ := sT
  unfold ere_Right
  rw [nd_eta]
  simp only [rT, oK_s, bK_t, hz]
  rw [d_f (show ¬ 20000 < z by omega)]
  rfl
/-! the law -/
theorem parse_x (r : List UInt8) (at_ : Int) (bad : Option EreWrong) (x : Node) (hr : r.length < 999)
    (hp : fixN ere_parser_piece_l1 kBig (fields nX, (120 :: r, 1, none, ()), ()) = some ((), (120 :: r, at_, bad, ()), x, ()))
    (he : (∃ w, bad = some w) ∨ (bad = none ∧ at_ = ((r.length + 1 : Nat) : Int))) (hR : bad = none → ere_Right (x, ()) = some (true, ())) :
    ere_Parse (120 :: r, ()) = match bad with
      | some w => some (Node.mk 0 0 0 0 0 [] 0 0, w.at_, w.e, ())
      | none => some (x, -1, 0, ()) := by
  have hE := expr_x r at_ bad x (by omega) hp he (kBig - 4) 0
  rw [show kBig - 4 + 4 = kBig from rfl, ← expr_e] at hE
  unfold ere_Parse
  simp only [d_f (show ¬ 1000 < len (120 :: r) by rw [len_e, List.length_cons]; omega), bK_f, hE, oK_s]
  rcases he with ⟨w, rfl⟩ | ⟨rfl, rfl⟩
  · simp only [Option.isNone_some]
    rw [show (false == true) = false from rfl]
    simp only [bK_f, join_e, ere_Parse_j1, ere_Parse_j0, Option.isNone_some]
    rw [show (false == true) = false from rfl]
    simp only [Bool.not_false, bK_t, oK_s]
  · simp only [Option.isNone_none, beq_self_eq_true, bK_t, d_f (show ¬ ((r.length + 1 : Nat) : Int) < len (120 :: r) by rw [len_e]; simp), join_e, ere_Parse_j1, bK_f, ere_Parse_j0, Bool.not_true, nd_eta, hR rfl, oK_s]
set_option maxRecDepth 100000 in
theorem put_all : ((List.range 221).all fun n => decide (ref1_PutNum (((n : Nat) : Int), ()) = some (digs 2 n, ()))) = true := by kernel_rfl
theorem put_small {n : Nat} (h : n ≤ 220) : ref1_PutNum (((n : Nat) : Int), ()) = some (digs 2 n, ()) := by
  have := List.all_eq_true.1 put_all n (List.mem_range.2 (by omega))
  simpa using this
theorem dig_toNat {d : Nat} (h : d < 10) : (UInt8.ofNat (48 + d)).toNat = 48 + d := by
  simp [UInt8.toNat_ofNat']
  omega
theorem digs_ok : ∀ (k u : Nat), u < 10 ^ (k + 1) → (∀ b ∈ digs k u, isDig b) ∧ digs k u ≠ [] ∧ (digs k u).length ≤ k + 1 ∧ valF 0 (digs k u) = u
  | 0, u, h => by
    have hu : u < 10 := by rw [Nat.zero_add, Nat.pow_one] at h; exact h
    refine ⟨fun b hb => ?_, by simp [digs], by simp [digs], ?_⟩
    · simp only [digs, List.mem_singleton] at hb
      subst hb
      unfold isDig
      rw [dig_toNat hu]
      omega
    · show 0 * 10 + ((UInt8.ofNat (48 + u)).toNat - 48) = u
      rw [dig_toNat hu]
      omega
  | k + 1, u, h => by
    unfold digs
    by_cases hu : u < 10
    · simp only [hu, decide_true]
      refine ⟨fun b hb => ?_, by simp, by simp, ?_⟩
      · simp only [List.mem_singleton] at hb
        subst hb
        unfold isDig
        rw [dig_toNat hu]
        omega
      · show 0 * 10 + ((UInt8.ofNat (48 + u)).toNat - 48) = u
        rw [dig_toNat hu]
        omega
    · simp only [hu, decide_false]
      obtain ⟨h1, h2, h3, h4⟩ := digs_ok k (u / 10) (by rw [Nat.pow_succ] at h; omega)
      have hm : u % 10 < 10 := Nat.mod_lt _ (by decide)
      refine ⟨fun b hb => ?_, by simp, by simp; omega, ?_⟩
      · rcases List.mem_append.1 hb with hb | hb
        · exact h1 b hb
        · simp only [List.mem_singleton] at hb
          subst hb
          unfold isDig
          rw [dig_toNat hm]
          omega
      · rw [valF_app, h4]
        show u / 10 * 10 + ((UInt8.ofNat (48 + u % 10)).toNat - 48) = u
        rw [dig_toNat hm]
        omega
/-- What the law asks of one text. -/
def Asks (r : List UInt8) (wrong : Bool) (lo hi_ : Int) : Prop := ∃ x a e, ere_Parse (120 :: r, ()) = some (x, a, e, ()) ∧ if wrong then e = 2 ∧ a = 1 else e = 0 ∧ x.kind = 5 ∧ x.min = lo ∧ x.max = hi_
theorem asks_sign (c : UInt8) (lo hi_ : Int) (hc : (c = 42 ∧ lo = 0 ∧ hi_ = -1) ∨ (c = 43 ∧ lo = 1 ∧ hi_ = -1) ∨ (c = 63 ∧ lo = 0 ∧ hi_ = 1)) : Asks [c] false lo hi_ := by
  have := parse_x [c] 2 none (nT lo hi_ nX) (by simp) (pl_sign c lo hi_ hc) (.inr ⟨rfl, rfl⟩) (fun _ => right_T lo hi_ (by omega) (by omega) (by omega))
  exact ⟨_, _, _, this, rfl, rfl, rfl, rfl⟩
theorem asks_brace (rest : List UInt8) (hr : rest.length < 100) (ok : Bool) (at_ : Nat) (ha : at_ < 1000) (lo hi_ : Int) (hl : ok = true → 0 ≤ lo ∧ lo ≤ 200 ∧ (hi_ = -1 ∨ (lo ≤ hi_ ∧ hi_ ≤ 200)))
    (ht : ere_parser_times ((), ([120, 123] ++ rest, 1, none, ()), ()) = if ok = true then some ((), ([120, 123] ++ rest, ((at_ : Nat) : Int), none, ()), lo, hi_, ()) else some ((), ([120, 123] ++ rest, 1, some ⟨1, 2⟩, ()), 0, 0, ()))
    (he : at_ + 1 = ([120, 123] ++ rest).length) : Asks (123 :: rest) (!ok) lo hi_ := by
  cases ok with
  | true =>
    rw [if_pos rfl] at ht
    have h1 := pl_brace rest hr at_ ha none lo hi_ ht (.inr ⟨rfl, he⟩)
    obtain ⟨a1, a2, a3⟩ := hl rfl
    have := parse_x (123 :: rest) ((at_ + 1 : Nat) : Int) none (nT lo hi_ nX) (by simp; omega) h1 (.inr ⟨rfl, by simp at he ⊢; omega⟩) (fun _ => right_T lo hi_ a1 a2 a3)
    exact ⟨_, _, _, this, rfl, rfl, rfl, rfl⟩
  | false =>
    rw [if_neg (by simp)] at ht
    have h1 := pl_brace rest hr 1 (by omega) (some ⟨1, 2⟩) 0 0 ht (.inl ⟨_, rfl⟩)
    have := parse_x (123 :: rest) ((1 + 1 : Nat) : Int) (some ⟨1, 2⟩) (nT 0 0 nX) (by simp; omega) h1 (.inl ⟨_, rfl⟩) (fun h => by cases h)
    exact ⟨_, _, _, this, rfl, rfl⟩
theorem j0_ok {r : List UInt8} {wrong : Bool} {lo hi_ : Int} (h : Asks r wrong lo hi_) : (oK (ere_Parse (120 :: r, ())) fun r7 => law6_EreTimes_j0 lo hi_ r7 (wrong, ())) = some (true, ()) := by
  obtain ⟨x, a, e, hp, hw⟩ := h
  rw [hp, oK_s]
  unfold law6_EreTimes_j0 law6_num
  cases wrong with
  | true =>
    obtain ⟨rfl, rfl⟩ := hw
    rfl
  | false =>
    obtain ⟨rfl, h1, h2, h3⟩ := hw
    rw [bK_f, oK_s, d_t (show (0 : Int) = 0 from rfl), bK_t, d_t h1, bK_t, d_t h2, bK_t, d_t h3]
section ix
variable {β : Type} (a b c d e f : β) (l : List β)
theorem ix0 : idx (a :: l) 0 = some a := rfl
theorem ix1 : idx (a :: b :: l) 1 = some b := rfl
theorem ix2 : idx (a :: b :: c :: l) 2 = some c := rfl
theorem ix3 : idx (a :: b :: c :: d :: l) 3 = some d := rfl
theorem ix4 : idx (a :: b :: c :: d :: e :: l) 4 = some e := rfl
theorem ix5 : idx (a :: b :: c :: d :: e :: f :: l) 5 = some f := rfl
end ix
theorem ereTimes_pure (mn mx w : Int) : law6_EreTimes (mn, mx, w, ()) = some (true, ()) := by
  unfold law6_EreTimes
  simp only [er_alive, oK_s, Bool.not_true, bK_f]
  have out : law6_EreTimes_j1 (mn, mx, w, ()) (true, ()) (true, ()) = some (true, ()) := by
    unfold law6_EreTimes_j1
    simp only [bK_t]
  by_cases h1 : mn < 0
  · simp only [d_t h1, bK_t, join_e, out]
  by_cases h2 : 220 < mn
  · simp only [d_f h1, bK_f, d_t h2, bK_t, join_e, out]
  by_cases h3 : mx < 0
  · simp only [d_f h1, bK_f, d_f h2, d_t h3, bK_t, join_e, out]
  by_cases h4 : 220 < mx
  · simp only [d_f h1, bK_f, d_f h2, d_f h3, d_t h4, bK_t, join_e, out]
  by_cases h5 : w < 0
  · simp only [d_f h1, bK_f, d_f h2, d_f h3, d_f h4, d_t h5, bK_t, join_e, out]
  by_cases h6 : 5 < w
  · simp only [d_f h1, bK_f, d_f h2, d_f h3, d_f h4, d_f h5, d_t h6, join_e, out]
  simp only [d_f h1, bK_f, d_f h2, d_f h3, d_f h4, d_f h5, d_f h6, join_e]
  obtain ⟨n, rfl⟩ : ∃ n : Nat, mn = ((n : Nat) : Int) := ⟨mn.toNat, by omega⟩
  obtain ⟨m, rfl⟩ : ∃ m : Nat, mx = ((m : Nat) : Int) := ⟨mx.toNat, by omega⟩
  obtain ⟨A, hA⟩ : ∃ A, A = digs 2 n := ⟨_, rfl⟩
  obtain ⟨B, hB⟩ : ∃ B, B = digs 2 m := ⟨_, rfl⟩
  obtain ⟨a1, a2, a3, a4⟩ := digs_ok 2 n (by have : (10 : Nat) ^ (2 + 1) = 1000 := by decide
                                             omega)
  obtain ⟨b1, b2, b3, b4⟩ := digs_ok 2 m (by have : (10 : Nat) ^ (2 + 1) = 1000 := by decide
                                             omega)
  rw [← hA] at a1 a2 a3 a4
  rw [← hB] at b1 b2 b3 b4
  unfold law6_EreTimes_j1
  simp only [bK_f, put_small (show n ≤ 220 by omega), put_small (show m ≤ 220 by omega), oK_s, ← hA, ← hB]
  have f1 : fits 1 (1 + A.length) = true := fits1 (by omega)
  have f2 : fits 1 ((([123] : List UInt8) ++ A).length + 1) = true := fits1 (by simp; omega)
  have f3 : fits 1 ((([123] : List UInt8) ++ A).length + 2) = true := fits1 (by simp; omega)
  have f4 : fits 1 (((([123] : List UInt8) ++ A) ++ ([44] : List UInt8)).length + B.length) = true := fits1 (by simp; omega)
  have f5 : fits 1 ((((([123] : List UInt8) ++ A) ++ ([44] : List UInt8)) ++ B).length + 1) = true := fits1 (by simp; omega)
  simp only [f1, f2, f3, f4, f5, bK_t]
  have hw : w = 0 ∨ w = 1 ∨ w = 2 ∨ w = 3 ∨ w = 4 ∨ w = 5 := by omega
  have e3 : (([123] ++ A) ++ [125] : List UInt8) = 123 :: (A ++ [125]) := by simp
  have e4 : (([123] ++ A) ++ [44, 125] : List UInt8) = 123 :: (A ++ [44, 125]) := by simp
  have e5 : (((([123] : List UInt8) ++ A) ++ [44]) ++ B) ++ [125] = 123 :: (A ++ (44 :: (B ++ [125]))) := by simp
  rw [e3, e4, e5]
  have go : ∀ (x4 : List UInt8) (x5 x6 : Int) (wrong : Bool), x4.length < 1000 → Asks x4 wrong x5 x6 → bK (fits 1 (1 + x4.length)) (oK (ere_Parse (([120] : List UInt8) ++ x4, ())) fun r7 => law6_EreTimes_j0 x5 x6 r7 (wrong, ())) none = some (true, ()) := fun x4 x5 x6 wrong hl hA => by
    rw [fits1 (by omega), bK_t]
    exact j0_ok hA
  have small : ∀ (x4 : List UInt8) (x5 x6 : Int) (u : Int), u ≤ 2 → x4.length < 1000 → Asks x4 false x5 x6 → bK (fits 1 (1 + x4.length)) (oK (ere_Parse (([120] : List UInt8) ++ x4, ())) fun r7 => bK (decide (2 < u)) (bK (decide (200 < ((n : Nat) : Int))) (join (law6_EreTimes_j0 x5 x6 r7) (true, ())) (bK (decide (u = 5)) (bK (decide (200 < ((m : Nat) : Int))) (join (law6_EreTimes_j0 x5 x6 r7) (true, ())) (join (law6_EreTimes_j0 x5 x6 r7) (decide (((m : Nat) : Int) < ((n : Nat) : Int)), ()))) (join (law6_EreTimes_j0 x5 x6 r7) (false, ())))) (bK (decide (u = 5)) (bK (decide (200 < ((m : Nat) : Int))) (join (law6_EreTimes_j0 x5 x6 r7) (true, ())) (join (law6_EreTimes_j0 x5 x6 r7) (decide (((m : Nat) : Int) < ((n : Nat) : Int)), ()))) (join (law6_EreTimes_j0 x5 x6 r7) (false, ())))) none = some (true, ()) := fun x4 x5 x6 u hu hl hA => by
    rw [d_f (show ¬ 2 < u by omega), d_f (show ¬ u = 5 by omega)]
    exact go x4 x5 x6 false hl hA
  have mid : ∀ (x4 : List UInt8) (x5 x6 : Int) (u : Int), u = 3 ∨ u = 4 → x4.length < 1000 → Asks x4 (decide (200 < n)) x5 x6 → bK (fits 1 (1 + x4.length)) (oK (ere_Parse (([120] : List UInt8) ++ x4, ())) fun r7 => bK (decide (2 < u)) (bK (decide (200 < ((n : Nat) : Int))) (join (law6_EreTimes_j0 x5 x6 r7) (true, ())) (bK (decide (u = 5)) (bK (decide (200 < ((m : Nat) : Int))) (join (law6_EreTimes_j0 x5 x6 r7) (true, ())) (join (law6_EreTimes_j0 x5 x6 r7) (decide (((m : Nat) : Int) < ((n : Nat) : Int)), ()))) (join (law6_EreTimes_j0 x5 x6 r7) (false, ())))) (bK (decide (u = 5)) (bK (decide (200 < ((m : Nat) : Int))) (join (law6_EreTimes_j0 x5 x6 r7) (true, ())) (join (law6_EreTimes_j0 x5 x6 r7) (decide (((m : Nat) : Int) < ((n : Nat) : Int)), ()))) (join (law6_EreTimes_j0 x5 x6 r7) (false, ())))) none = some (true, ()) := fun x4 x5 x6 u hu hl hA => by
    rw [d_t (show 2 < u by omega), d_f (show ¬ u = 5 by omega)]
    by_cases hn : 200 < n
    · rw [d_t (show 200 < ((n : Nat) : Int) by omega)]
      rw [d_t hn] at hA
      exact go x4 x5 x6 true hl hA
    · rw [d_f (show ¬ 200 < ((n : Nat) : Int) by omega)]
      rw [d_f hn] at hA
      exact go x4 x5 x6 false hl hA
  rcases hw with rfl | rfl | rfl | rfl | rfl | rfl
  · simp only [ix0, oK_s]
    exact small [42] 0 (-1) 0 (by omega) (by simp) (asks_sign 42 0 (-1) (.inl ⟨rfl, rfl, rfl⟩))
  · simp only [ix1, oK_s]
    exact small [43] 1 (-1) 1 (by omega) (by simp) (asks_sign 43 1 (-1) (.inr (.inl ⟨rfl, rfl, rfl⟩)))
  · simp only [ix2, oK_s]
    exact small [63] 0 1 2 (by omega) (by simp) (asks_sign 63 0 1 (.inr (.inr ⟨rfl, rfl, rfl⟩)))
  · have hq := asks_brace (A ++ [125]) (by simp; omega) (decide (n ≤ 200)) (2 + A.length) (by omega) ((n : Nat) : Int) ((n : Nat) : Int) (fun h => by simp at h; omega) (by
      rw [times_a a1 a2 a3, a4]
      simp only [decide_eq_true_eq]) (by simp; omega)
    have e : (!decide (n ≤ 200)) = decide (200 < n) := by
      by_cases h : n ≤ 200
      · rw [d_t h, d_f (by omega)]; rfl
      · rw [d_f h, d_t (by omega)]; rfl
    rw [e] at hq
    simp only [ix3, oK_s]
    exact mid _ _ _ 3 (.inl rfl) (by simp; omega) hq
  · have hq := asks_brace (A ++ [44, 125]) (by simp; omega) (decide (n ≤ 200)) (2 + A.length + 1) (by omega) ((n : Nat) : Int) (-1) (fun h => by simp at h; omega) (by
      rw [times_b a1 a2 a3, a4]
      simp only [decide_eq_true_eq]) (by simp; omega)
    have e : (!decide (n ≤ 200)) = decide (200 < n) := by
      by_cases h : n ≤ 200
      · rw [d_t h, d_f (by omega)]; rfl
      · rw [d_f h, d_t (by omega)]; rfl
    rw [e] at hq
    simp only [ix4, oK_s]
    exact mid _ _ _ 4 (.inr rfl) (by simp; omega) hq
  · have hq := asks_brace (A ++ (44 :: (B ++ [125]))) (by simp; omega) (decide (n ≤ 200 ∧ m ≤ 200 ∧ n ≤ m)) (2 + A.length + 1 + B.length) (by omega) ((n : Nat) : Int) ((m : Nat) : Int) (fun h => by simp only [decide_eq_true_eq] at h; omega) (by
      rw [times_c a1 a2 a3 b1 b2 b3, a4, b4]
      simp only [decide_eq_true_eq]) (by simp; omega)
    have hl5 : (123 :: (A ++ (44 :: (B ++ [125])))).length < 1000 := by simp; omega
    simp only [ix5, oK_s]
    rw [d_t (show (2 : Int) < 5 by decide)]
    simp only [bK_t, decide_true]
    by_cases hn : 200 < n
    · rw [d_t (show 200 < ((n : Nat) : Int) by omega)]
      rw [d_f (show ¬ (n ≤ 200 ∧ m ≤ 200 ∧ n ≤ m) by omega)] at hq
      exact go _ _ _ true hl5 hq
    · rw [d_f (show ¬ 200 < ((n : Nat) : Int) by omega)]
      by_cases hm : 200 < m
      · rw [d_t (show 200 < ((m : Nat) : Int) by omega)]
        rw [d_f (show ¬ (n ≤ 200 ∧ m ≤ 200 ∧ n ≤ m) by omega)] at hq
        exact go _ _ _ true hl5 hq
      · rw [d_f (show ¬ 200 < ((m : Nat) : Int) by omega)]
        by_cases hmn : m < n
        · rw [d_t (show ((m : Nat) : Int) < ((n : Nat) : Int) by omega)]
          rw [d_f (show ¬ (n ≤ 200 ∧ m ≤ 200 ∧ n ≤ m) by omega)] at hq
          exact go _ _ _ true hl5 hq
        · rw [d_f (show ¬ ((m : Nat) : Int) < ((n : Nat) : Int) by omega)]
          rw [d_t (show (n ≤ 200 ∧ m ≤ 200 ∧ n ≤ m) by omega)] at hq
          exact go _ _ _ false hl5 hq
end Go.Proofs.YtlkaoiceehlkmaaTE
