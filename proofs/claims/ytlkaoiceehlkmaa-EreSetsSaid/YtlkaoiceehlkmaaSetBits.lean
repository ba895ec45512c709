/- Sets of bytes in four words of 64 bits; no program in sight. -/
import Derived.Test.YtlkaoiceehlkmaaTeZ1
namespace Go.Proofs.YtlkaoiceehlkmaaTE
open Go Go.Proofs.YtlkaoiceehlkmaaVE
set_option linter.unusedVariables false
set_option linter.unusedSectionVars false
set_option linter.unusedSimpArgs false
theorem w64_in {n : Nat} (h : n < 2 ^ 64) : IntKind.wrap .u64 ((n : Nat) : Int) = ((n : Nat) : Int) := by
  have : IntKind.wrap .u64 ((n : Nat) : Int) = ((n : Nat) : Int) % 18446744073709551616 := by simp [IntKind.wrap, IntKind.bits, IntKind.signed]
  rw [this]; omega
abbrev orW (w y : Int) : Int := IntKind.wrap .u64 ((BitVec.ofInt (IntKind.bits .u64) w) ||| (BitVec.ofInt (IntKind.bits .u64) y)).toNat
abbrev xorW (w : Int) : Int := IntKind.wrap .u64 ((BitVec.ofInt (IntKind.bits .u64) 18446744073709551615) ^^^ (BitVec.ofInt (IntKind.bits .u64) w)).toNat
theorem ofI {n : Nat} (h : n < 2 ^ 64) : (BitVec.ofInt (IntKind.bits .u64) ((n : Nat) : Int)).toNat = n := by
  show (BitVec.ofInt 64 ((n : Nat) : Int)).toNat = n
  rw [BitVec.ofInt_natCast, BitVec.toNat_ofNat, Nat.mod_eq_of_lt h]
theorem or_word {n m : Nat} (hn : n < 2 ^ 64) (hm : m < 2 ^ 64) : orW ((n : Nat) : Int) ((m : Nat) : Int) = ((n ||| m : Nat) : Int) := by
  unfold orW
  rw [BitVec.toNat_or, ofI hn, ofI hm, w64_in (Nat.or_lt_two_pow hn hm)]
theorem xor_word {n : Nat} (hn : n < 2 ^ 64) : xorW ((n : Nat) : Int) = (((2 ^ 64 - 1) ^^^ n : Nat) : Int) := by
  unfold xorW
  rw [BitVec.toNat_xor, ofI hn, show (18446744073709551615 : Int) = ((2 ^ 64 - 1 : Nat) : Int) from rfl, ofI (by decide), w64_in (Nat.xor_lt_two_pow (by decide) hn)]
theorem has_word {n r : Nat} (hn : n < 2 ^ 64) (hr : r < 64) : decide (IntKind.wrap .u64 ((BitVec.ofInt (IntKind.bits .u64) (Int.fdiv ((n : Nat) : Int) (2 ^ (min r (IntKind.bits .u64))))) &&& (BitVec.ofInt (IntKind.bits .u64) 1)).toNat = 1) = n.testBit r := by
  have e1 : min r (IntKind.bits .u64) = r := by
    show min r 64 = r
    omega
  have e2 : Int.fdiv ((n : Nat) : Int) (2 ^ r) = ((n / 2 ^ r : Nat) : Int) := by
    rw [Int.fdiv_eq_ediv_of_nonneg _ (Int.pow_nonneg (by decide))]
    push_cast
    rfl
  have h3 : n / 2 ^ r < 2 ^ 64 := Nat.lt_of_le_of_lt (Nat.div_le_self _ _) hn
  rw [e1, e2, BitVec.toNat_and, ofI h3, show (1 : Int) = ((1 : Nat) : Int) from rfl, ofI (by decide), Nat.and_one_is_mod, w64_in (by omega), Nat.testBit_eq_decide_div_mod_eq]
  exact decide_eq_decide.2 (by omega)
/-- The bytes of four words. -/
def IsSet (w0 w1 w2 w3 : Int) (S : Nat → Bool) : Prop := ∃ n0 n1 n2 n3 : Nat, w0 = n0 ∧ w1 = n1 ∧ w2 = n2 ∧ w3 = n3 ∧ n0 < 2 ^ 64 ∧ n1 < 2 ^ 64 ∧ n2 < 2 ^ 64 ∧ n3 < 2 ^ 64 ∧
  ∀ j, j < 64 → n0.testBit j = S j ∧ n1.testBit j = S (64 + j) ∧ n2.testBit j = S (128 + j) ∧ n3.testBit j = S (192 + j)
theorem IsSet.empty : IsSet 0 0 0 0 fun _ => false := ⟨0, 0, 0, 0, rfl, rfl, rfl, rfl, by decide, by decide, by decide, by decide, fun j _ => by simp⟩
theorem IsSet.congr {w0 w1 w2 w3 : Int} {S T : Nat → Bool} (h : IsSet w0 w1 w2 w3 S) (he : ∀ c, c < 256 → S c = T c) : IsSet w0 w1 w2 w3 T := by
  obtain ⟨n0, n1, n2, n3, a0, a1, a2, a3, b0, b1, b2, b3, h⟩ := h
  refine ⟨n0, n1, n2, n3, a0, a1, a2, a3, b0, b1, b2, b3, fun j hj => ?_⟩
  rw [← he j (by omega), ← he (64 + j) (by omega), ← he (128 + j) (by omega), ← he (192 + j) (by omega)]
  exact h j hj
abbrev addO (w0 w1 w2 w3 x : Int) : Int := orW (nth [w0, w1, w2, w3] (IntKind.wrap .u8 (Int.tdiv x 64))) (IntKind.wrap .u64 (1 * 2 ^ (min (Int.tmod x 64).toNat (IntKind.bits .u64))))
abbrev addS (w0 w1 w2 w3 x j : Int) : Int := nth (setN [w0, w1, w2, w3] (IntKind.wrap .u8 (Int.tdiv x 64)) (addO w0 w1 w2 w3 x)) j
theorem pow_word {r : Nat} (hr : r < 64) : IntKind.wrap .u64 (1 * 2 ^ (min r (IntKind.bits .u64))) = ((2 ^ r : Nat) : Int) := by
  have e1 : min r (IntKind.bits .u64) = r := by
    show min r 64 = r
    omega
  rw [e1, Int.one_mul, show (2 : Int) ^ r = ((2 ^ r : Nat) : Int) by push_cast; rfl, w64_in (Nat.pow_lt_pow_right (by decide) hr)]
theorem IsSet.add {w0 w1 w2 w3 : Int} {S : Nat → Bool} (h : IsSet w0 w1 w2 w3 S) {x : Nat} (hx : x < 256) :
    IsSet (addS w0 w1 w2 w3 x 0) (addS w0 w1 w2 w3 x 1) (addS w0 w1 w2 w3 x 2) (addS w0 w1 w2 w3 x 3) fun c => S c || decide (c = x) := by
  obtain ⟨n0, n1, n2, n3, rfl, rfl, rfl, rfl, b0, b1, b2, b3, h⟩ := h
  have hr : x % 64 < 64 := Nat.mod_lt _ (by decide)
  have e1 : (Int.tmod ((x : Nat) : Int) 64).toNat = x % 64 := by
    rw [Int.tmod_eq_emod_of_nonneg (by omega)]
    omega
  have e2 : IntKind.wrap .u8 (Int.tdiv ((x : Nat) : Int) 64) = ((x / 64 : Nat) : Int) := by
    rw [Int.tdiv_eq_ediv_of_nonneg (by omega), u8_in (by omega) (by omega)]
    push_cast
    rfl
  have p2 : 2 ^ (x % 64) < 2 ^ 64 := Nat.pow_lt_pow_right (by decide) hr
  unfold addS addO
  rw [e1, e2, pow_word hr]
  have hq : x / 64 = 0 ∨ x / 64 = 1 ∨ x / 64 = 2 ∨ x / 64 = 3 := by omega
  rcases hq with hq | hq | hq | hq
  · rw [hq]
    refine ⟨n0 ||| 2 ^ (x % 64), n1, n2, n3, or_word b0 p2, rfl, rfl, rfl, Nat.or_lt_two_pow b0 p2, b1, b2, b3, fun j hj => ?_⟩
    obtain ⟨h0, h1, h2, h3⟩ := h j hj
    dsimp only
    rw [Nat.testBit_or, Nat.testBit_two_pow, h0, h1, h2, h3, d_f (show ¬ 64 + j = x by omega), d_f (show ¬ 128 + j = x by omega), d_f (show ¬ 192 + j = x by omega), Bool.or_false, Bool.or_false, Bool.or_false]
    exact ⟨by rw [show decide (x % 64 = j) = decide (j = x) from decide_eq_decide.2 (by omega)], rfl, rfl, rfl⟩
  · rw [hq]
    refine ⟨n0, n1 ||| 2 ^ (x % 64), n2, n3, rfl, or_word b1 p2, rfl, rfl, b0, Nat.or_lt_two_pow b1 p2, b2, b3, fun j hj => ?_⟩
    obtain ⟨h0, h1, h2, h3⟩ := h j hj
    dsimp only
    rw [Nat.testBit_or, Nat.testBit_two_pow, h0, h1, h2, h3, d_f (show ¬ j = x by omega), d_f (show ¬ 128 + j = x by omega), d_f (show ¬ 192 + j = x by omega), Bool.or_false, Bool.or_false, Bool.or_false]
    exact ⟨rfl, by rw [show decide (x % 64 = j) = decide (64 + j = x) from decide_eq_decide.2 (by omega)], rfl, rfl⟩
  · rw [hq]
    refine ⟨n0, n1, n2 ||| 2 ^ (x % 64), n3, rfl, rfl, or_word b2 p2, rfl, b0, b1, Nat.or_lt_two_pow b2 p2, b3, fun j hj => ?_⟩
    obtain ⟨h0, h1, h2, h3⟩ := h j hj
    dsimp only
    rw [Nat.testBit_or, Nat.testBit_two_pow, h0, h1, h2, h3, d_f (show ¬ j = x by omega), d_f (show ¬ 64 + j = x by omega), d_f (show ¬ 192 + j = x by omega), Bool.or_false, Bool.or_false, Bool.or_false]
    exact ⟨rfl, rfl, by rw [show decide (x % 64 = j) = decide (128 + j = x) from decide_eq_decide.2 (by omega)], rfl⟩
  · rw [hq]
    refine ⟨n0, n1, n2, n3 ||| 2 ^ (x % 64), rfl, rfl, rfl, or_word b3 p2, b0, b1, b2, Nat.or_lt_two_pow b3 p2, fun j hj => ?_⟩
    obtain ⟨h0, h1, h2, h3⟩ := h j hj
    dsimp only
    rw [Nat.testBit_or, Nat.testBit_two_pow, h0, h1, h2, h3, d_f (show ¬ j = x by omega), d_f (show ¬ 64 + j = x by omega), d_f (show ¬ 128 + j = x by omega), Bool.or_false, Bool.or_false, Bool.or_false]
    exact ⟨rfl, rfl, rfl, by rw [show decide (x % 64 = j) = decide (192 + j = x) from decide_eq_decide.2 (by omega)]⟩
theorem xor_spec {n : Nat} (hn : n < 2 ^ 64) : ∃ m : Nat, xorW ((n : Nat) : Int) = ((m : Nat) : Int) ∧ m < 2 ^ 64 ∧ ∀ j, j < 64 → m.testBit j = !n.testBit j :=
  ⟨_, xor_word hn, Nat.xor_lt_two_pow (by decide) hn, fun j hj => by
    rw [Nat.testBit_xor, Nat.testBit_two_pow_sub_one, d_t hj, Bool.true_xor]⟩
theorem or_spec {n : Nat} (hn : n < 2 ^ 64) : ∃ m : Nat, orW ((n : Nat) : Int) 1024 = ((m : Nat) : Int) ∧ m < 2 ^ 64 ∧ ∀ j, m.testBit j = (n.testBit j || decide (j = 10)) := by
  have h := or_word (m := 2 ^ 10) hn (by decide)
  have e : (((2 ^ 10 : Nat) : Nat) : Int) = 1024 := by decide
  rw [e] at h
  refine ⟨_, h, Nat.or_lt_two_pow hn (by decide), fun j => ?_⟩
  rw [Nat.testBit_or, Nat.testBit_two_pow, show decide (10 = j) = decide (j = 10) from decide_eq_decide.2 (by omega)]
/-- All but those, and but a byte 10. -/
theorem IsSet.others {w0 w1 w2 w3 : Int} {S : Nat → Bool} (h : IsSet w0 w1 w2 w3 S) : IsSet (xorW (orW w0 1024)) (xorW w1) (xorW w2) (xorW w3) fun c => !(S c || decide (c = 10)) := by
  obtain ⟨n0, n1, n2, n3, rfl, rfl, rfl, rfl, b0, b1, b2, b3, h⟩ := h
  obtain ⟨k, e, b4, hk⟩ := or_spec b0
  obtain ⟨m0, e0, c0, h0⟩ := xor_spec b4
  obtain ⟨m1, e1, c1, h1⟩ := xor_spec b1
  obtain ⟨m2, e2, c2, h2⟩ := xor_spec b2
  obtain ⟨m3, e3, c3, h3⟩ := xor_spec b3
  rw [e, e0, e1, e2, e3]
  refine ⟨m0, m1, m2, m3, rfl, rfl, rfl, rfl, c0, c1, c2, c3, fun j hj => ?_⟩
  obtain ⟨g0, g1, g2, g3⟩ := h j hj
  dsimp only
  rw [h0 j hj, h1 j hj, h2 j hj, h3 j hj, hk, g0, g1, g2, g3, d_f (show ¬ 64 + j = 10 by omega), d_f (show ¬ 128 + j = 10 by omega), d_f (show ¬ 192 + j = 10 by omega), Bool.or_false, Bool.or_false, Bool.or_false]
  exact ⟨rfl, rfl, rfl, rfl⟩
/-- Whether a byte is in it. -/
theorem IsSet.has {w0 w1 w2 w3 : Int} {S : Nat → Bool} (h : IsSet w0 w1 w2 w3 S) {x : Nat} (hx : x < 256) :
    decide (IntKind.wrap .u64 ((BitVec.ofInt (IntKind.bits .u64) (Int.fdiv (nth [w0, w1, w2, w3] (IntKind.wrap .u8 (Int.tdiv ((x : Nat) : Int) 64))) (2 ^ (min (Int.tmod ((x : Nat) : Int) 64).toNat (IntKind.bits .u64))))) &&& (BitVec.ofInt (IntKind.bits .u64) 1)).toNat = 1) = S x := by
  obtain ⟨n0, n1, n2, n3, rfl, rfl, rfl, rfl, b0, b1, b2, b3, h⟩ := h
  have hr : x % 64 < 64 := Nat.mod_lt _ (by decide)
  have e1 : (Int.tmod ((x : Nat) : Int) 64).toNat = x % 64 := by
    rw [Int.tmod_eq_emod_of_nonneg (by omega)]
    omega
  have e2 : IntKind.wrap .u8 (Int.tdiv ((x : Nat) : Int) 64) = ((x / 64 : Nat) : Int) := by
    rw [Int.tdiv_eq_ediv_of_nonneg (by omega), u8_in (by omega) (by omega)]
    push_cast
    rfl
  obtain ⟨h0, h1, h2, h3⟩ := h (x % 64) hr
  rw [e1, e2]
  have hq : x / 64 = 0 ∨ x / 64 = 1 ∨ x / 64 = 2 ∨ x / 64 = 3 := by omega
  rcases hq with hq | hq | hq | hq
  · rw [hq]
    refine (has_word b0 hr).trans (h0.trans ?_)
    congr 1; omega
  · rw [hq]
    refine (has_word b1 hr).trans (h1.trans ?_)
    congr 1; omega
  · rw [hq]
    refine (has_word b2 hr).trans (h2.trans ?_)
    congr 1; omega
  · rw [hq]
    refine (has_word b3 hr).trans (h3.trans ?_)
    congr 1; omega
end Go.Proofs.YtlkaoiceehlkmaaTE
