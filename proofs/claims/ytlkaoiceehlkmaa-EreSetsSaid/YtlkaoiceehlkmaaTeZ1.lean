import Derived.Test.YtlkaoiceehlkmaaTeP
import Derived.IntWalk
/- Words for the plain laws: how the printed functions' steps are reckoned; no program in sight. -/
namespace Go.Proofs.YtlkaoiceehlkmaaTE
open Go Go.Proofs.YtlkaoiceehlkmaaVE
set_option linter.unusedVariables false
section steps
variable {α β V : Type}
theorem bK_t (x y : Option α) : bK true x y = x := rfl
theorem bK_f (x y : Option α) : bK false x y = y := rfl
theorem oK_s (b : β) (f : β → Option α) : oK (some b) f = f b := rfl
theorem oK_n (f : β → Option α) : oK none f = none := rfl
theorem join_e (f : V → Option α) (v : V) : join f v = f v := rfl
theorem joinB_e (f : V → Option α) (v : V) : joinB (box f) v = f v := rfl
theorem fix_s (step : (V → Option α) → V → Option α) (n : Nat) (v : V) : fixN step (n + 1) v = step (fixN step n) v := rfl
theorem len_e (l : List β) : len l = ((l.length : Nat) : Int) := rfl
theorem len_nil : len ([] : List β) = 0 := rfl
theorem idx_n (l : List β) (i : Nat) : idx l (i : Int) = l[i]? := rfl
theorem idx_z (l : List β) : idx l 0 = l[0]? := rfl
theorem idx_g {l : List β} {i : Nat} (h : i < l.length) : idx l (i : Int) = some l[i] := by rw [idx_n, List.getElem?_eq_getElem h]
theorem idx_i {l : List β} {i : Int} (h0 : 0 ≤ i) (h : i.toNat < l.length) : idx l i = some l[i.toNat] := by
  cases i with
  | ofNat n => exact idx_g h
  | negSucc n => exact absurd h0 (by simp)
theorem idx_app {l r : List β} {b : β} : idx (l ++ b :: r) ((l.length : Nat) : Int) = some b := by rw [idx_n]; simp
theorem idx_neg {l : List β} {i : Int} (h : i < 0) : idx l i = none := by
  cases i with
  | ofNat n => exact absurd h (by simp)
  | negSucc n => rfl
theorem okSl_t {lo hi n : Int} (h0 : 0 ≤ lo) (h1 : lo ≤ hi) (h2 : hi ≤ n) : okSl lo hi n = true := by simp [okSl, h0, h1, h2]
theorem slc_n (l : List β) (a b : Nat) : slc l (a : Int) (b : Int) = (l.drop a).take (b - a) := rfl
theorem slc_z (l : List β) (b : Nat) : slc l 0 (b : Int) = l.take b := by show (l.drop 0).take (b - 0) = _; simp
theorem slc_from (l : List β) (a : Nat) : slc l (a : Int) (len l) = l.drop a := by
  show (l.drop a).take (l.length - a) = _
  rw [List.take_of_length_le]; simp
theorem slc_one (l : List β) : slc l 1 (len l) = l.drop 1 := slc_from l 1
theorem slc_all (l : List β) : slc l 0 (len l) = l := slc_from l 0
theorem i64_in {n : Int} (h0 : -9223372036854775808 ≤ n) (h1 : n ≤ 9223372036854775807) : IntKind.wrap .i64 n = n := IntWalk.i64_in n ⟨h0, h1⟩
theorem i64_nat {n : Nat} (h1 : n ≤ 9223372036854775807) : IntKind.wrap .i64 ((n : Nat) : Int) = ((n : Nat) : Int) := i64_in (by omega) (by omega)
theorem i64_succ {n : Nat} (h1 : n < 9223372036854775807) : IntKind.wrap .i64 (((n : Nat) : Int) + 1) = ((n + 1 : Nat) : Int) := by rw [i64_in (by omega) (by omega)]; omega
theorem fits_t {b n : Nat} (h : n * b ≤ 140737488355328) (hb : 0 < b) : fits b n = true := by
  have : n ≤ n * b := Nat.le_mul_of_pos_right n hb
  simp only [fits, Bool.and_eq_true, decide_eq_true_eq]
  omega
theorem fits1 {n : Nat} (h : n ≤ 140737488355328) : fits 1 n = true := fits_t (by omega) (by decide)
theorem d_t {p : Prop} [Decidable p] (h : p) : decide p = true := decide_eq_true h
theorem d_f {p : Prop} [Decidable p] (h : ¬ p) : decide p = false := decide_eq_false h
/-- A loop that comes nearer to its end in each round. -/
theorem fix_loop {step : (V → Option α) → V → Option α} {P : Nat → V → Prop} {r : V → Option α}
    (h : ∀ d v rec, P d v → (∀ d' v', d' < d → P d' v' → rec v' = r v') → step rec v = r v) : ∀ d v k, P d v → d < k → fixN step k v = r v
  | d, v, 0, hP, hk => absurd hk (Nat.not_lt_zero _)
  | d, v, k + 1, hP, hk => by
    rw [fix_s]
    exact h d v _ hP fun d' v' hd hP' => fix_loop h d' v' k hP' (by omega)
end steps
theorem kBig_gt {n : Nat} (h : n < 18446744073709551616) : n < kBig := h
end Go.Proofs.YtlkaoiceehlkmaaTE

/- That a reckoning comes to an end, and what holds of what it answers; no program in sight. -/
namespace Go.Proofs.YtlkaoiceehlkmaaTE
open Go Go.Proofs.YtlkaoiceehlkmaaVE
set_option linter.unusedVariables false
def Tot {α : Type} (P : α → Prop) (x : Option α) : Prop := ∃ r, x = some r ∧ P r
section
variable {α β V : Type} {P : α → Prop} {x y : Option α}
theorem Tot.ret {r : α} (h : P r) : Tot P (some r) := ⟨r, rfl, h⟩
theorem Tot.ifB {b : Bool} (h1 : b = true → Tot P x) (h0 : b = false → Tot P y) : Tot P (bK b x y) := by
  cases b
  · exact h0 rfl
  · exact h1 rfl
theorem Tot.ifB' {b : Bool} (h1 : Tot P x) (h0 : Tot P y) : Tot P (YtlkaoiceehlkmaaTE.bK b x y) := Tot.ifB (fun _ => h1) fun _ => h0
theorem Tot.thn {Q : β → Prop} {z : Option β} {f : β → Option α} (h : Tot Q z) (hf : ∀ r, Q r → Tot P (f r)) : Tot P (oK z f) := by
  obtain ⟨r, rfl, h⟩ := h
  exact hf r h
theorem Tot.mono {Q : α → Prop} (h : Tot P x) (hf : ∀ r, P r → Q r) : Tot Q x := by
  obtain ⟨r, h1, h2⟩ := h
  exact ⟨r, h1, hf r h2⟩
theorem Tot.el {l : List α} {i : Nat} (h : i < l.length) : Tot (fun b => l[i]? = some b) (idx l ((i : Nat) : Int)) := ⟨l[i], idx_g h, List.getElem?_eq_getElem h⟩
theorem Tot.elI {l : List α} {i : Int} (h0 : 0 ≤ i) (h : i < len l) : Tot (fun b => b ∈ l) (YtlkaoiceehlkmaaTE.idx l i) := by
  rw [len_e] at h
  exact ⟨l[i.toNat]'(by omega), idx_i h0 (by omega), List.getElem_mem _⟩
theorem Tot.fix {step : (V → Option α) → V → Option α} {I : Nat → V → Prop}
    (h : ∀ d v rec, I d v → (∀ d' v', d' < d → I d' v' → Tot P (rec v')) → Tot P (step rec v)) : ∀ d v k, I d v → d < k → Tot P (fixN step k v)
  | d, v, 0, hP, hk => absurd hk (Nat.not_lt_zero _)
  | d, v, k + 1, hP, hk => by
    rw [fix_s]
    exact h d v _ hP fun d' v' hd hP' => Tot.fix h d' v' k hP' (by omega)
end
theorem u8_rng (n : Int) : 0 ≤ IntKind.wrap .u8 n ∧ IntKind.wrap .u8 n < 256 := by
  have : IntKind.wrap .u8 n = n % 256 := by simp [IntKind.wrap, IntKind.bits, IntKind.signed]
  rw [this]; omega
theorem u8_in {n : Int} (h0 : 0 ≤ n) (h1 : n < 256) : IntKind.wrap .u8 n = n := by
  have : IntKind.wrap .u8 n = n % 256 := by simp [IntKind.wrap, IntKind.bits, IntKind.signed]
  rw [this]; omega
theorem d64 {m : Int} (h0 : 0 ≤ m) (h1 : m < 256) : inR (IntKind.wrap .u8 (Int.tdiv m 64)) 4 = true ∧ decide (Int.tmod m 64 < 0) = false := by
  rw [Int.tdiv_eq_ediv_of_nonneg h0, Int.tmod_eq_emod_of_nonneg h0]
  rw [u8_in (by omega) (by omega)]
  refine ⟨?_, d_f (by omega)⟩
  simp only [inR, Bool.and_eq_true, decide_eq_true_eq]
  omega
end Go.Proofs.YtlkaoiceehlkmaaTE
