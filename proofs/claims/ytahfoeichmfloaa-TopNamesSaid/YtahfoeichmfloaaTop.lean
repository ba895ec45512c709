/- The walks of package patchworktop's functions that hold api's numbers against the document's. -/
import Derived.Test.YtahfoeichmfloaaGlx0
import Derived.Lib.Hide
namespace Go.Proofs.Ytahfoeichmfloaa.Top
set_option linter.unusedVariables false
open Go.RowKit Go.Proofs.YtahfoeichmfloaaW.PrintWords

set_option maxHeartbeats 1000000 in
theorem are_any (b n : Nat) (v : Nat → Int) (w : World) (hn : n ≤ 1000) (hc : ∀ i, i < n → w.cell? ⟨b, i * 2, none⟩ = some (.int .i64 (v i)) ∧ w.cell? ⟨b, i * 2 + 1, none⟩ = some (.int .i64 (v i))) :
    Calls Try.prog 40 #[.slice (some ⟨b, 0, none⟩) n n] w fun e w' => e = .returned (.bool true) ∧ ∃ k, w' = w.drewN k := by
  have HC := Lib.hid hc
  clear hc
  go_enter Try.func40, Try.ntmps40
  go_wp2
  go_loopw [3] (fun i wr => ∃ k m : Nat, k ≤ n ∧ i = .int .i64 k ∧ wr = w.drewN m) (fun i _ => n - (intOf i).toNat)
  case atStart => exact ⟨0, 0, Nat.zero_le _, rfl, rfl⟩
  case round =>
    obtain ⟨k, m, hk, rfl, rfl⟩ := hrel
    by_cases hlt : k < n
    · obtain ⟨h1, h2⟩ := HC.out k hlt
      have p0 : (0 : Int) ≤ (k : Int) := by omega
      have p1 : (k : Int) < (n : Int) := by omega
      go_wp2
      go_quiet (fail)
      go_wp2
      refine ⟨⟨k + 1, _, by omega, by go_num, rfl⟩, by simp [intOf]; omega⟩
    · go_wp2
      go_ret
      exact ⟨rfl, _, rfl⟩

/-- seven rows of two in new memory -/
theorem seven (w : World) (a0 a1 a2 a3 a4 a5 a6 : Int) : ∀ i, i < 7 →
    (w.alloc (.cells #[.int .i64 a0, .int .i64 a0, .int .i64 a1, .int .i64 a1, .int .i64 a2, .int .i64 a2, .int .i64 a3, .int .i64 a3, .int .i64 a4, .int .i64 a4, .int .i64 a5, .int .i64 a5, .int .i64 a6, .int .i64 a6] 57)).cell? ⟨w.heap.size, i * 2, none⟩ = some (.int .i64 ([a0, a1, a2, a3, a4, a5, a6].getD i 0)) ∧
    (w.alloc (.cells #[.int .i64 a0, .int .i64 a0, .int .i64 a1, .int .i64 a1, .int .i64 a2, .int .i64 a2, .int .i64 a3, .int .i64 a3, .int .i64 a4, .int .i64 a4, .int .i64 a5, .int .i64 a5, .int .i64 a6, .int .i64 a6] 57)).cell? ⟨w.heap.size, i * 2 + 1, none⟩ = some (.int .i64 ([a0, a1, a2, a3, a4, a5, a6].getD i 0)) := by
  intro i hi
  obtain rfl | rfl | rfl | rfl | rfl | rfl | rfl : i = 0 ∨ i = 1 ∨ i = 2 ∨ i = 3 ∨ i = 4 ∨ i = 5 ∨ i = 6 := by omega
  all_goals exact ⟨by go_simp, by go_simp⟩

set_option maxHeartbeats 1000000 in
theorem first_any (w : World) : Calls Try.prog 26 #[] w fun e w' => e = .returned (.bool true) ∧ Below w.heap.size w w' := by
  go_enter Try.func26, Try.ntmps26
  go_wp2_with fail
  refine (are_any w.heap.size 7 _ _ (by omega) (seven w 0 1 2 3 4 5 6)).mono ?_
  rintro e w' ⟨rfl, k, rfl⟩
  go_wp2
  go_ret
  exact ⟨rfl, pw_below_drewN ((Below.refl _ _).alloc (Nat.le_refl _) _) k⟩
set_option maxHeartbeats 1000000 in
theorem second_any (w : World) : Calls Try.prog 27 #[] w fun e w' => e = .returned (.bool true) ∧ Below w.heap.size w w' := by
  go_enter Try.func27, Try.ntmps27
  go_wp2_with fail
  refine (are_any w.heap.size 7 _ _ (by omega) (seven w 7 8 2147483648 200000 5000 30 200)).mono ?_
  rintro e w' ⟨rfl, k, rfl⟩
  go_wp2
  go_ret
  exact ⟨rfl, pw_below_drewN ((Below.refl _ _).alloc (Nat.le_refl _) _) k⟩
set_option maxHeartbeats 1000000 in
theorem third_any (w : World) : Calls Try.prog 28 #[] w fun e w' => e = .returned (.bool true) ∧ Below w.heap.size w w' := by
  go_enter Try.func28, Try.ntmps28
  go_wp2_with fail
  refine (are_any w.heap.size 7 _ _ (by omega) (seven w 200 1 2 3 4 1 2)).mono ?_
  rintro e w' ⟨rfl, k, rfl⟩
  go_wp2
  go_ret
  exact ⟨rfl, pw_below_drewN ((Below.refl _ _).alloc (Nat.le_refl _) _) k⟩
set_option maxHeartbeats 1000000 in
theorem fourth_any (w : World) : Calls Try.prog 29 #[] w fun e w' => e = .returned (.bool true) ∧ Below w.heap.size w w' := by
  go_enter Try.func29, Try.ntmps29
  go_wp2_with fail
  refine (are_any w.heap.size 7 _ _ (by omega) (seven w 1 2 3 4 5 6 7)).mono ?_
  rintro e w' ⟨rfl, k, rfl⟩
  go_wp2
  go_ret
  exact ⟨rfl, pw_below_drewN ((Below.refl _ _).alloc (Nat.le_refl _) _) k⟩

set_option maxHeartbeats 1000000 in
theorem top_any (w : World) : Calls Try.prog 12 #[] w fun e w' => e = .returned (.bool true) ∧ Below w.heap.size w w' := by
  go_enter Try.func12, Try.ntmps12
  go_wp2_with fail
  refine (first_any w).mono ?_
  rintro e w1 ⟨rfl, h1⟩
  go_wp2_with fail
  refine (second_any w1).mono ?_
  rintro e w2 ⟨rfl, h2⟩
  go_wp2_with fail
  refine (third_any w2).mono ?_
  rintro e w3 ⟨rfl, h3⟩
  go_wp2_with fail
  refine (fourth_any w3).mono ?_
  rintro e w4 ⟨rfl, h4⟩
  go_wp2
  go_ret
  have s1 := h1.size
  have s2 := h2.size
  have s3 := h3.size
  exact ⟨rfl, below_then (below_then (below_then h1 s1 h2) (Nat.le_trans s1 s2) h3) (Nat.le_trans (Nat.le_trans s1 s2) s3) h4⟩

end Go.Proofs.Ytahfoeichmfloaa.Top
