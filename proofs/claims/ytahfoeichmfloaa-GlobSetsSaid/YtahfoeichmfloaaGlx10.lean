/- Functions of the given program in plain Lean, each with the proof that its call answers so; no condition. Written by a program of this session's own (a turned copy of the kit's printing program). -/
import Derived.Test.YtahfoeichmfloaaGlx0
import Derived.Test.YtahfoeichmfloaaGlx3
namespace Go.Proofs.Ytahfoeichmfloaa.Gl
open Go.RowKit Go.Proofs.YtahfoeichmfloaaW.PrintWords Go.Proofs.YtahfoeichmfloaaW.PrintLast Go.Proofs.YtahfoeichmfloaaW.PrintMore
attribute [local go_sem] max2_int min2_int max_two min_two max_three min_three max_four min_four   -- for this text's walks alone
set_option linter.unusedVariables false
set_option linter.unusedSimpArgs false

/-! ### patchworklaw5_GlobSets: function 9 -/
mutual
def patchworklaw5_GlobSets.j0 : Nat → ByteArray → Int → Int → Bool → Int → Bool → Bool → Option (Bool)
  | 0, _, _, _, _, _, _, _ => none
  | k + 1, x0, x1, x2, x3, x4, x11, x61 => if x61 = true then (some x11) else (if x4 ≥ x1 then (patchworklaw5_GlobSets.j1 k x0 x1 x2 x3 x4 (⟨#[]⟩ : ByteArray) (decide (x4 ≤ x2))) else (patchworklaw5_GlobSets.j1 k x0 x1 x2 x3 x4 (⟨#[]⟩ : ByteArray) false))
def patchworklaw5_GlobSets.j1 : Nat → ByteArray → Int → Int → Bool → Int → ByteArray → Bool → Option (Bool)
  | 0, _, _, _, _, _, _, _ => none
  | k + 1, x0, x1, x2, x3, x4, x12, x13 => patchworklaw5_GlobSets.l0 k x0 x1 x2 x3 x4 x12 x13 0
def patchworklaw5_GlobSets.l0 : Nat → ByteArray → Int → Int → Bool → Int → ByteArray → Bool → Int → Option (Bool)
  | 0, _, _, _, _, _, _, _, _ => none
  | k + 1, x0, x1, x2, x3, x4, x12, x13, x14 => if x14 < (x0.size : Int) then (if x12.size + 1 ≤ 9223372036854775807 then (if 0 ≤ x14 then (if x14 ≤ (wrap64 (x14 + 1)) then (if (wrap64 (x14 + 1)) ≤ (x0.size : Int) then (if (x12 ++ (⟨#[92]⟩ : ByteArray)).size + (x0.extract (x14 : Int).toNat ((wrap64 (x14 + 1)) : Int).toNat).size ≤ 9223372036854775807 then (if x13 = true then (patchworklaw5_GlobSets.l0 k x0 x1 x2 x3 x4 ((x12 ++ (⟨#[92]⟩ : ByteArray)) ++ (x0.extract (x14 : Int).toNat ((wrap64 (x14 + 1)) : Int).toNat)) true (wrap64 (x14 + 1))) else (patchworklaw5_GlobSets.l0 k x0 x1 x2 x3 x4 ((x12 ++ (⟨#[92]⟩ : ByteArray)) ++ (x0.extract (x14 : Int).toNat ((wrap64 (x14 + 1)) : Int).toNat)) ((bt x0 x14) == x4) (wrap64 (x14 + 1)))) else (none)) else (none)) else (none)) else (none)) else (none)) else (if x3 = true then ((some (([x1, 45, x2] : List Int) : List Int)).bind fun y198 => (if 2 + (strOfNums y198).size ≤ 9223372036854775807 then (if ((⟨#[91, 33]⟩ : ByteArray) ++ (strOfNums y198)).size + x12.size ≤ 9223372036854775807 then (if (((⟨#[91, 33]⟩ : ByteArray) ++ (strOfNums y198)) ++ x12).size + 1 ≤ 9223372036854775807 then ((some (([x4] : List Int) : List Int)).bind fun y201 => ((glob_Match.f k ((((⟨#[91, 33]⟩ : ByteArray) ++ (strOfNums y198)) ++ x12) ++ (⟨#[93]⟩ : ByteArray)) (strOfNums y201)).bind fun t204 => (if (x13 != x3) = true then (if (t204 == (x4 != 47)) = true then ((glob_Match.f k ((((⟨#[91, 33]⟩ : ByteArray) ++ (strOfNums y198)) ++ x12) ++ (⟨#[93]⟩ : ByteArray)) (⟨#[]⟩ : ByteArray)).bind fun t205 => (if t205 = true then (some false) else (if (strOfNums y201).size + (strOfNums y201).size ≤ 9223372036854775807 then ((glob_Match.f k ((((⟨#[91, 33]⟩ : ByteArray) ++ (strOfNums y198)) ++ x12) ++ (⟨#[93]⟩ : ByteArray)) ((strOfNums y201) ++ (strOfNums y201))).bind fun t206 => (some (!t206))) else (none)))) else (some false)) else (if (t204 == false) = true then ((glob_Match.f k ((((⟨#[91, 33]⟩ : ByteArray) ++ (strOfNums y198)) ++ x12) ++ (⟨#[93]⟩ : ByteArray)) (⟨#[]⟩ : ByteArray)).bind fun t207 => (if t207 = true then (some false) else (if (strOfNums y201).size + (strOfNums y201).size ≤ 9223372036854775807 then ((glob_Match.f k ((((⟨#[91, 33]⟩ : ByteArray) ++ (strOfNums y198)) ++ x12) ++ (⟨#[93]⟩ : ByteArray)) ((strOfNums y201) ++ (strOfNums y201))).bind fun t208 => (some (!t208))) else (none)))) else (some false))))) else (none)) else (none)) else (none))) else ((some (([x1, 45, x2] : List Int) : List Int)).bind fun y209 => (if 1 + (strOfNums y209).size ≤ 9223372036854775807 then (if ((⟨#[91]⟩ : ByteArray) ++ (strOfNums y209)).size + x12.size ≤ 9223372036854775807 then (if (((⟨#[91]⟩ : ByteArray) ++ (strOfNums y209)) ++ x12).size + 1 ≤ 9223372036854775807 then ((some (([x4] : List Int) : List Int)).bind fun y212 => ((glob_Match.f k ((((⟨#[91]⟩ : ByteArray) ++ (strOfNums y209)) ++ x12) ++ (⟨#[93]⟩ : ByteArray)) (strOfNums y212)).bind fun t215 => (if (x13 != x3) = true then (if (t215 == (x4 != 47)) = true then ((glob_Match.f k ((((⟨#[91]⟩ : ByteArray) ++ (strOfNums y209)) ++ x12) ++ (⟨#[93]⟩ : ByteArray)) (⟨#[]⟩ : ByteArray)).bind fun t216 => (if t216 = true then (some false) else (if (strOfNums y212).size + (strOfNums y212).size ≤ 9223372036854775807 then ((glob_Match.f k ((((⟨#[91]⟩ : ByteArray) ++ (strOfNums y209)) ++ x12) ++ (⟨#[93]⟩ : ByteArray)) ((strOfNums y212) ++ (strOfNums y212))).bind fun t217 => (some (!t217))) else (none)))) else (some false)) else (if (t215 == false) = true then ((glob_Match.f k ((((⟨#[91]⟩ : ByteArray) ++ (strOfNums y209)) ++ x12) ++ (⟨#[93]⟩ : ByteArray)) (⟨#[]⟩ : ByteArray)).bind fun t218 => (if t218 = true then (some false) else (if (strOfNums y212).size + (strOfNums y212).size ≤ 9223372036854775807 then ((glob_Match.f k ((((⟨#[91]⟩ : ByteArray) ++ (strOfNums y209)) ++ x12) ++ (⟨#[93]⟩ : ByteArray)) ((strOfNums y212) ++ (strOfNums y212))).bind fun t219 => (some (!t219))) else (none)))) else (some false))))) else (none)) else (none)) else (none))))
end
def patchworklaw5_GlobSets.f (k : Nat) (a0 : ByteArray) (a1 : Int) (a2 : Int) (a3 : Bool) (a4 : Int) : Option (Bool) := (patchworklaw5_alive.f k).bind fun t197 => (if t197 = true then (if (a0.size : Int) > 10 then (patchworklaw5_GlobSets.j0 k a0 a1 a2 a3 a4 t197 true) else (if a1 = 93 then (patchworklaw5_GlobSets.j0 k a0 a1 a2 a3 a4 t197 true) else (if a1 = 91 then (patchworklaw5_GlobSets.j0 k a0 a1 a2 a3 a4 t197 true) else (if a1 = 92 then (patchworklaw5_GlobSets.j0 k a0 a1 a2 a3 a4 t197 true) else (if a1 = 45 then (patchworklaw5_GlobSets.j0 k a0 a1 a2 a3 a4 t197 true) else (if a1 = 33 then (patchworklaw5_GlobSets.j0 k a0 a1 a2 a3 a4 t197 true) else (if a1 = 94 then (patchworklaw5_GlobSets.j0 k a0 a1 a2 a3 a4 t197 true) else (if a2 = 93 then (patchworklaw5_GlobSets.j0 k a0 a1 a2 a3 a4 t197 true) else (if a2 = 92 then (patchworklaw5_GlobSets.j0 k a0 a1 a2 a3 a4 t197 true) else (patchworklaw5_GlobSets.j0 k a0 a1 a2 a3 a4 t197 (a2 == 91))))))))))) else (patchworklaw5_GlobSets.j0 k a0 a1 a2 a3 a4 t197 true))
theorem patchworklaw5_GlobSets.mono_l : ∀ k, (∀ y0 y1 y2 y3 y4 y5 y6, LeO (patchworklaw5_GlobSets.j0 k y0 y1 y2 y3 y4 y5 y6) (patchworklaw5_GlobSets.j0 (k + 1) y0 y1 y2 y3 y4 y5 y6)) ∧ (∀ y0 y1 y2 y3 y4 y5 y6, LeO (patchworklaw5_GlobSets.j1 k y0 y1 y2 y3 y4 y5 y6) (patchworklaw5_GlobSets.j1 (k + 1) y0 y1 y2 y3 y4 y5 y6)) ∧ (∀ y0 y1 y2 y3 y4 y5 y6 y7, LeO (patchworklaw5_GlobSets.l0 k y0 y1 y2 y3 y4 y5 y6 y7) (patchworklaw5_GlobSets.l0 (k + 1) y0 y1 y2 y3 y4 y5 y6 y7))
  | 0 => ⟨fun _ _ _ _ _ _ _ r h => by simp [patchworklaw5_GlobSets.j0] at h, fun _ _ _ _ _ _ _ r h => by simp [patchworklaw5_GlobSets.j1] at h, fun _ _ _ _ _ _ _ _ r h => by simp [patchworklaw5_GlobSets.l0] at h⟩
  | k + 1 => by
    obtain ⟨ih0, ih1, ih2⟩ := patchworklaw5_GlobSets.mono_l k
    refine ⟨?_, ?_, ?_⟩
    · intro y0 y1 y2 y3 y4 y5 y6
      unfold patchworklaw5_GlobSets.j0
      repeat' first
      | (with_reducible exact ih0 _ _ _ _ _ _ _)
      | (with_reducible exact ih1 _ _ _ _ _ _ _)
      | (with_reducible exact ih2 _ _ _ _ _ _ _ _)
      | (with_reducible exact glob_Match.mono _ _ _)
      | (with_reducible exact patchworklaw5_alive.mono _)
      | (with_reducible exact LeO.refl _)
      | (with_reducible exact LeO.none _)
      | (with_reducible refine LeO.ite ?_ ?_)
      | (with_reducible refine LeO.bind ?_ (fun _ => ?_))
      | exact ih0 _ _ _ _ _ _ _
      | exact ih1 _ _ _ _ _ _ _
      | exact ih2 _ _ _ _ _ _ _ _
      | exact glob_Match.mono _ _ _
      | exact patchworklaw5_alive.mono _
      | exact LeO.none _
      | refine LeO.ite ?_ ?_
      | refine LeO.bind ?_ (fun _ => ?_)
    · intro y0 y1 y2 y3 y4 y5 y6
      unfold patchworklaw5_GlobSets.j1
      repeat' first
      | (with_reducible exact ih0 _ _ _ _ _ _ _)
      | (with_reducible exact ih1 _ _ _ _ _ _ _)
      | (with_reducible exact ih2 _ _ _ _ _ _ _ _)
      | (with_reducible exact glob_Match.mono _ _ _)
      | (with_reducible exact patchworklaw5_alive.mono _)
      | (with_reducible exact LeO.refl _)
      | (with_reducible exact LeO.none _)
      | (with_reducible refine LeO.ite ?_ ?_)
      | (with_reducible refine LeO.bind ?_ (fun _ => ?_))
      | exact ih0 _ _ _ _ _ _ _
      | exact ih1 _ _ _ _ _ _ _
      | exact ih2 _ _ _ _ _ _ _ _
      | exact glob_Match.mono _ _ _
      | exact patchworklaw5_alive.mono _
      | exact LeO.none _
      | refine LeO.ite ?_ ?_
      | refine LeO.bind ?_ (fun _ => ?_)
    · intro y0 y1 y2 y3 y4 y5 y6 y7
      unfold patchworklaw5_GlobSets.l0
      repeat' first
      | (with_reducible exact ih0 _ _ _ _ _ _ _)
      | (with_reducible exact ih1 _ _ _ _ _ _ _)
      | (with_reducible exact ih2 _ _ _ _ _ _ _ _)
      | (with_reducible exact glob_Match.mono _ _ _)
      | (with_reducible exact patchworklaw5_alive.mono _)
      | (with_reducible exact LeO.refl _)
      | (with_reducible exact LeO.none _)
      | (with_reducible refine LeO.ite ?_ ?_)
      | (with_reducible refine LeO.bind ?_ (fun _ => ?_))
      | exact ih0 _ _ _ _ _ _ _
      | exact ih1 _ _ _ _ _ _ _
      | exact ih2 _ _ _ _ _ _ _ _
      | exact glob_Match.mono _ _ _
      | exact patchworklaw5_alive.mono _
      | exact LeO.none _
      | refine LeO.ite ?_ ?_
      | refine LeO.bind ?_ (fun _ => ?_)
theorem patchworklaw5_GlobSets.mono : ∀ a0 a1 a2 a3 a4 k, LeO (patchworklaw5_GlobSets.f k a0 a1 a2 a3 a4) (patchworklaw5_GlobSets.f (k + 1) a0 a1 a2 a3 a4) := by
  intro a0 a1 a2 a3 a4 k
  obtain ⟨ih0, ih1, ih2⟩ := patchworklaw5_GlobSets.mono_l k
  unfold patchworklaw5_GlobSets.f
  repeat' first
      | (with_reducible exact ih0 _ _ _ _ _ _ _)
      | (with_reducible exact ih1 _ _ _ _ _ _ _)
      | (with_reducible exact ih2 _ _ _ _ _ _ _ _)
      | (with_reducible exact glob_Match.mono _ _ _)
      | (with_reducible exact patchworklaw5_alive.mono _)
      | (with_reducible exact LeO.refl _)
      | (with_reducible exact LeO.none _)
      | (with_reducible refine LeO.ite ?_ ?_)
      | (with_reducible refine LeO.bind ?_ (fun _ => ?_))
      | exact ih0 _ _ _ _ _ _ _
      | exact ih1 _ _ _ _ _ _ _
      | exact ih2 _ _ _ _ _ _ _ _
      | exact glob_Match.mono _ _ _
      | exact patchworklaw5_alive.mono _
      | exact LeO.none _
      | refine LeO.ite ?_ ?_
      | refine LeO.bind ?_ (fun _ => ?_)
set_option maxHeartbeats 8000000 in
set_option maxRecDepth 100000 in
theorem patchworklaw5_GlobSets.calls (k : Nat) (a0 : ByteArray) (a1 : Int) (a2 : Int) (a3 : Bool) (a4 : Int) (r : Bool) (w : World) (hX : XW w) (h : patchworklaw5_GlobSets.f k a0 a1 a2 a3 a4 = some r) :
    Calls Try.prog 9 #[.string a0, .int .u8 a1, .int .u8 a2, .bool a3, .int .u8 a4] w fun e w' => e = .returned (.bool r) ∧ Below w.heap.size w w' := by
  have HB := Aside0.mk (Below.refl w.heap.size w)
  have H : ((patchworklaw5_alive.f k).bind fun t197 => (if t197 = true then (if (a0.size : Int) > 10 then (patchworklaw5_GlobSets.j0 k a0 a1 a2 a3 a4 t197 true) else (if a1 = 93 then (patchworklaw5_GlobSets.j0 k a0 a1 a2 a3 a4 t197 true) else (if a1 = 91 then (patchworklaw5_GlobSets.j0 k a0 a1 a2 a3 a4 t197 true) else (if a1 = 92 then (patchworklaw5_GlobSets.j0 k a0 a1 a2 a3 a4 t197 true) else (if a1 = 45 then (patchworklaw5_GlobSets.j0 k a0 a1 a2 a3 a4 t197 true) else (if a1 = 33 then (patchworklaw5_GlobSets.j0 k a0 a1 a2 a3 a4 t197 true) else (if a1 = 94 then (patchworklaw5_GlobSets.j0 k a0 a1 a2 a3 a4 t197 true) else (if a2 = 93 then (patchworklaw5_GlobSets.j0 k a0 a1 a2 a3 a4 t197 true) else (if a2 = 92 then (patchworklaw5_GlobSets.j0 k a0 a1 a2 a3 a4 t197 true) else (patchworklaw5_GlobSets.j0 k a0 a1 a2 a3 a4 t197 (a2 == 91))))))))))) else (patchworklaw5_GlobSets.j0 k a0 a1 a2 a3 a4 t197 true))) = some r := h
  clear h
  replace H := Option.bind_eq_some_iff.mp H
  obtain ⟨t197, A60, H⟩ := H
  replace H : (if t197 = true then (if (a0.size : Int) > 10 then (patchworklaw5_GlobSets.j0 k a0 a1 a2 a3 a4 t197 true) else (if a1 = 93 then (patchworklaw5_GlobSets.j0 k a0 a1 a2 a3 a4 t197 true) else (if a1 = 91 then (patchworklaw5_GlobSets.j0 k a0 a1 a2 a3 a4 t197 true) else (if a1 = 92 then (patchworklaw5_GlobSets.j0 k a0 a1 a2 a3 a4 t197 true) else (if a1 = 45 then (patchworklaw5_GlobSets.j0 k a0 a1 a2 a3 a4 t197 true) else (if a1 = 33 then (patchworklaw5_GlobSets.j0 k a0 a1 a2 a3 a4 t197 true) else (if a1 = 94 then (patchworklaw5_GlobSets.j0 k a0 a1 a2 a3 a4 t197 true) else (if a2 = 93 then (patchworklaw5_GlobSets.j0 k a0 a1 a2 a3 a4 t197 true) else (if a2 = 92 then (patchworklaw5_GlobSets.j0 k a0 a1 a2 a3 a4 t197 true) else (patchworklaw5_GlobSets.j0 k a0 a1 a2 a3 a4 t197 (a2 == 91))))))))))) else (patchworklaw5_GlobSets.j0 k a0 a1 a2 a3 a4 t197 true)) = some r := H
  have A6 := Aside0.mk A60
  clear A60
  have HC7 := Aside0.mk H
  clear H
  go_enter Try.func9, Try.ntmps9
  go_upto_region 2 with (first | ((with_reducible refine gate_callee (f := 23) rfl ?_); refine goesL_ (some 18) rfl rfl Try.func23 (by kernel_rfl) rfl #[] rfl (by (try simp only [List.map_toArray, List.map_cons, List.map_nil]); first | done | rfl | (simp only [List.length_drop, List.length_take]; rfl)) ?_; (with_reducible refine (patchworklaw5_alive.calls k  t197 _ ?side1 A6.out).mono ?_); (case side1 => first | exact hX | exact XW.below hX (by repeat (first | (with_reducible first | exact HB.out | apply below_alloc | apply pw_below_drewN | apply below_drew1) | exact HB.out))); rintro e w' ⟨rfl, ⟨nd, rfl⟩⟩; refine ⟨_, rfl, ?_⟩))
  (try simp only [Act.put, List.setIfInBounds_toArray, List.set_cons_zero, List.set_cons_succ])
  go_cut [61] (fun v61 wc => ∃ (kq : Nat) (x61_6 : Bool), v61 = .bool x61_6 ∧ Aside0 (patchworklaw5_GlobSets.j0 kq a0 a1 a2 a3 a4 t197 x61_6 = some r) ∧ Aside0 (kq ≤ k) ∧ Aside0 (Below w.heap.size w wc))
  case first =>
    have H := HC7.out
    clear HC7
    by_cases c8 : t197 = true
    · subst c8
      have H1 : (if (a0.size : Int) > 10 then (patchworklaw5_GlobSets.j0 k a0 a1 a2 a3 a4 true true) else (if a1 = 93 then (patchworklaw5_GlobSets.j0 k a0 a1 a2 a3 a4 true true) else (if a1 = 91 then (patchworklaw5_GlobSets.j0 k a0 a1 a2 a3 a4 true true) else (if a1 = 92 then (patchworklaw5_GlobSets.j0 k a0 a1 a2 a3 a4 true true) else (if a1 = 45 then (patchworklaw5_GlobSets.j0 k a0 a1 a2 a3 a4 true true) else (if a1 = 33 then (patchworklaw5_GlobSets.j0 k a0 a1 a2 a3 a4 true true) else (if a1 = 94 then (patchworklaw5_GlobSets.j0 k a0 a1 a2 a3 a4 true true) else (if a2 = 93 then (patchworklaw5_GlobSets.j0 k a0 a1 a2 a3 a4 true true) else (if a2 = 92 then (patchworklaw5_GlobSets.j0 k a0 a1 a2 a3 a4 true true) else (patchworklaw5_GlobSets.j0 k a0 a1 a2 a3 a4 true (a2 == 91))))))))))) = some r := by rw [if_pos rfl] at H; exact H
      clear H
      have H := H1
      clear H1
      by_cases c9 : (a0.size : Int) > 10
      · rw [if_pos c9] at H
        have c9b0 : decide (10 < (a0.size : Int)) = true := decide_eq_true c9
        have c9b1 : decide (10 < a0.size) = true := decide_eq_true (by omega)
        clear c9
        (first | rw [c9b0] | (simp only [i64_w, i32_w]; rw [c9b0]) | skip)
        have H' := Aside0.mk H
        clear H
        go_wp2
        go_meet
        case rel => exact ⟨_, (true), (by first | rfl | (simp; done) | (simp [*]; done)), H', ⟨by first | omega | exact Nat.le_refl _⟩, ⟨by repeat (first | (with_reducible first | exact HB.out | apply below_alloc | apply pw_below_drewN | apply below_drew1) | exact HB.out)⟩⟩
      · rw [if_neg c9] at H
        have c9b0 : decide (10 < (a0.size : Int)) = false := decide_eq_false c9
        have c9b1 : decide (10 < a0.size) = false := decide_eq_false (by omega)
        clear c9
        (first | rw [c9b0] | (simp only [i64_w, i32_w]; rw [c9b0]) | skip)
        by_cases c10 : a1 = 93
        · rw [if_pos c10] at H
          have c10b0 : (a1 == 93) = true := beq_iff_eq.mpr c10
          have c10b1 : (a1 != 93) = false := bne_eq_false_iff_eq.mpr c10
          clear c10
          have H' := Aside0.mk H
          clear H
          go_wp2
          go_meet
          case rel => exact ⟨_, (true), (by first | rfl | (simp; done) | (simp [*]; done)), H', ⟨by first | omega | exact Nat.le_refl _⟩, ⟨by repeat (first | (with_reducible first | exact HB.out | apply below_alloc | apply pw_below_drewN | apply below_drew1) | exact HB.out)⟩⟩
        · rw [if_neg c10] at H
          have c10b0 : (a1 == 93) = false := beq_eq_false_iff_ne.mpr c10
          have c10b1 : (a1 != 93) = true := bne_iff_ne.mpr c10
          by_cases c11 : a1 = 91
          · rw [if_pos c11] at H
            have c11b0 : (a1 == 91) = true := beq_iff_eq.mpr c11
            have c11b1 : (a1 != 91) = false := bne_eq_false_iff_eq.mpr c11
            clear c11
            have H' := Aside0.mk H
            clear H
            go_wp2
            go_meet
            case rel => exact ⟨_, (true), (by first | rfl | (simp; done) | (simp [*]; done)), H', ⟨by first | omega | exact Nat.le_refl _⟩, ⟨by repeat (first | (with_reducible first | exact HB.out | apply below_alloc | apply pw_below_drewN | apply below_drew1) | exact HB.out)⟩⟩
          · rw [if_neg c11] at H
            have c11b0 : (a1 == 91) = false := beq_eq_false_iff_ne.mpr c11
            have c11b1 : (a1 != 91) = true := bne_iff_ne.mpr c11
            by_cases c12 : a1 = 92
            · rw [if_pos c12] at H
              have c12b0 : (a1 == 92) = true := beq_iff_eq.mpr c12
              have c12b1 : (a1 != 92) = false := bne_eq_false_iff_eq.mpr c12
              clear c12
              have H' := Aside0.mk H
              clear H
              go_wp2
              go_meet
              case rel => exact ⟨_, (true), (by first | rfl | (simp; done) | (simp [*]; done)), H', ⟨by first | omega | exact Nat.le_refl _⟩, ⟨by repeat (first | (with_reducible first | exact HB.out | apply below_alloc | apply pw_below_drewN | apply below_drew1) | exact HB.out)⟩⟩
            · rw [if_neg c12] at H
              have c12b0 : (a1 == 92) = false := beq_eq_false_iff_ne.mpr c12
              have c12b1 : (a1 != 92) = true := bne_iff_ne.mpr c12
              by_cases c13 : a1 = 45
              · rw [if_pos c13] at H
                have c13b0 : (a1 == 45) = true := beq_iff_eq.mpr c13
                have c13b1 : (a1 != 45) = false := bne_eq_false_iff_eq.mpr c13
                clear c13
                have H' := Aside0.mk H
                clear H
                go_wp2
                go_meet
                case rel => exact ⟨_, (true), (by first | rfl | (simp; done) | (simp [*]; done)), H', ⟨by first | omega | exact Nat.le_refl _⟩, ⟨by repeat (first | (with_reducible first | exact HB.out | apply below_alloc | apply pw_below_drewN | apply below_drew1) | exact HB.out)⟩⟩
              · rw [if_neg c13] at H
                have c13b0 : (a1 == 45) = false := beq_eq_false_iff_ne.mpr c13
                have c13b1 : (a1 != 45) = true := bne_iff_ne.mpr c13
                by_cases c14 : a1 = 33
                · rw [if_pos c14] at H
                  have c14b0 : (a1 == 33) = true := beq_iff_eq.mpr c14
                  have c14b1 : (a1 != 33) = false := bne_eq_false_iff_eq.mpr c14
                  clear c14
                  have H' := Aside0.mk H
                  clear H
                  go_wp2
                  go_meet
                  case rel => exact ⟨_, (true), (by first | rfl | (simp; done) | (simp [*]; done)), H', ⟨by first | omega | exact Nat.le_refl _⟩, ⟨by repeat (first | (with_reducible first | exact HB.out | apply below_alloc | apply pw_below_drewN | apply below_drew1) | exact HB.out)⟩⟩
                · rw [if_neg c14] at H
                  have c14b0 : (a1 == 33) = false := beq_eq_false_iff_ne.mpr c14
                  have c14b1 : (a1 != 33) = true := bne_iff_ne.mpr c14
                  by_cases c15 : a1 = 94
                  · rw [if_pos c15] at H
                    have c15b0 : (a1 == 94) = true := beq_iff_eq.mpr c15
                    have c15b1 : (a1 != 94) = false := bne_eq_false_iff_eq.mpr c15
                    clear c15
                    have H' := Aside0.mk H
                    clear H
                    go_wp2
                    go_meet
                    case rel => exact ⟨_, (true), (by first | rfl | (simp; done) | (simp [*]; done)), H', ⟨by first | omega | exact Nat.le_refl _⟩, ⟨by repeat (first | (with_reducible first | exact HB.out | apply below_alloc | apply pw_below_drewN | apply below_drew1) | exact HB.out)⟩⟩
                  · rw [if_neg c15] at H
                    have c15b0 : (a1 == 94) = false := beq_eq_false_iff_ne.mpr c15
                    have c15b1 : (a1 != 94) = true := bne_iff_ne.mpr c15
                    by_cases c16 : a2 = 93
                    · rw [if_pos c16] at H
                      have c16b0 : (a2 == 93) = true := beq_iff_eq.mpr c16
                      have c16b1 : (a2 != 93) = false := bne_eq_false_iff_eq.mpr c16
                      clear c16
                      have H' := Aside0.mk H
                      clear H
                      go_wp2
                      go_meet
                      case rel => exact ⟨_, (true), (by first | rfl | (simp; done) | (simp [*]; done)), H', ⟨by first | omega | exact Nat.le_refl _⟩, ⟨by repeat (first | (with_reducible first | exact HB.out | apply below_alloc | apply pw_below_drewN | apply below_drew1) | exact HB.out)⟩⟩
                    · rw [if_neg c16] at H
                      have c16b0 : (a2 == 93) = false := beq_eq_false_iff_ne.mpr c16
                      have c16b1 : (a2 != 93) = true := bne_iff_ne.mpr c16
                      by_cases c17 : a2 = 92
                      · rw [if_pos c17] at H
                        have c17b0 : (a2 == 92) = true := beq_iff_eq.mpr c17
                        have c17b1 : (a2 != 92) = false := bne_eq_false_iff_eq.mpr c17
                        clear c17
                        have H' := Aside0.mk H
                        clear H
                        go_wp2
                        go_meet
                        case rel => exact ⟨_, (true), (by first | rfl | (simp; done) | (simp [*]; done)), H', ⟨by first | omega | exact Nat.le_refl _⟩, ⟨by repeat (first | (with_reducible first | exact HB.out | apply below_alloc | apply pw_below_drewN | apply below_drew1) | exact HB.out)⟩⟩
                      · rw [if_neg c17] at H
                        have c17b0 : (a2 == 92) = false := beq_eq_false_iff_ne.mpr c17
                        have c17b1 : (a2 != 92) = true := bne_iff_ne.mpr c17
                        have H' := Aside0.mk H
                        clear H
                        go_wp2
                        go_meet
                        case rel => exact ⟨_, ((a2 == 91)), (by first | rfl | (simp; done) | (simp [*]; done)), H', ⟨by first | omega | exact Nat.le_refl _⟩, ⟨by repeat (first | (with_reducible first | exact HB.out | apply below_alloc | apply pw_below_drewN | apply below_drew1) | exact HB.out)⟩⟩
    · replace c8 := Bool.eq_false_iff.mpr c8
      subst c8
      have H1 : (patchworklaw5_GlobSets.j0 k a0 a1 a2 a3 a4 false true) = some r := by rw [if_neg (show ¬ (false = true) by decide)] at H; exact H
      clear H
      have H := H1
      clear H1
      have H' := Aside0.mk H
      clear H
      go_wp2
      go_meet
      case rel => exact ⟨_, (true), (by first | rfl | (simp; done) | (simp [*]; done)), H', ⟨by first | omega | exact Nat.le_refl _⟩, ⟨by repeat (first | (with_reducible first | exact HB.out | apply below_alloc | apply pw_below_drewN | apply below_drew1) | exact HB.out)⟩⟩
  case rest =>
    clear HC7
    try clear c1
    try clear c2
    try clear p2
    try clear c8
    try clear c9
    try clear c9b0
    try clear c9b1
    try clear c10
    try clear c10b0
    try clear c10b1
    try clear c11
    try clear c11b0
    try clear c11b1
    try clear c12
    try clear c12b0
    try clear c12b1
    try clear c13
    try clear c13b0
    try clear c13b1
    try clear c14
    try clear c14b0
    try clear c14b1
    try clear c15
    try clear c15b0
    try clear c15b1
    try clear c16
    try clear c16b0
    try clear c16b1
    try clear c17
    try clear c17b0
    try clear c17b1
    obtain ⟨kq, x61_6, rfl, HA, HJ6, HB⟩ := hcut
    cases kq with
    | zero => exact absurd HA.out (by simp [patchworklaw5_GlobSets.j0])
    | succ kj6 =>
      have H := HA.out
      clear HA
      simp only [patchworklaw5_GlobSets.j0] at H
      by_cases c18 : x61_6 = true
      · subst c18
        have H1 : (some t197) = some r := by rw [if_pos rfl] at H; exact H
        clear H
        have H := H1
        clear H1
        obtain rfl := Option.some.inj H
        go_wp2
        go_ret
        exact ⟨by first | rfl | (simp [errW_none, errW_some] <;> rfl) | (simp [*, errW_none, errW_some] <;> rfl), by repeat (first | (with_reducible first | exact HB.out | apply below_alloc | apply pw_below_drewN | apply below_drew1) | exact HB.out)⟩
      · replace c18 := Bool.eq_false_iff.mpr c18
        subst c18
        have H1 : (if a4 ≥ a1 then (patchworklaw5_GlobSets.j1 kj6 a0 a1 a2 a3 a4 (⟨#[]⟩ : ByteArray) (decide (a4 ≤ a2))) else (patchworklaw5_GlobSets.j1 kj6 a0 a1 a2 a3 a4 (⟨#[]⟩ : ByteArray) false)) = some r := by rw [if_neg (show ¬ (false = true) by decide)] at H; exact H
        clear H
        have H := H1
        clear H1
        have HC19 := Aside0.mk H
        clear H
        go_upto_region 5 with (fail)
        go_cut [13] (fun v13 wc => ∃ (kq : Nat) (x13_18 : Bool), v13 = .bool x13_18 ∧ Aside0 (patchworklaw5_GlobSets.j1 kq a0 a1 a2 a3 a4 (⟨#[]⟩ : ByteArray) x13_18 = some r) ∧ Aside0 (kq ≤ kj6) ∧ Aside0 (Below w.heap.size w wc))
        case first =>
          have H := HC19.out
          clear HC19
          by_cases c20 : a4 ≥ a1
          · rw [if_pos c20] at H
            have c20b0 : decide (a1 ≤ a4) = true := decide_eq_true c20
            clear c20
            (first | rw [c20b0] | (simp only [i64_w, i32_w]; rw [c20b0]) | skip)
            have H' := Aside0.mk H
            clear H
            go_wp2
            go_meet
            case rel => exact ⟨_, (decide (a4 ≤ a2)), (by first | rfl | (simp; done) | (simp [*]; done)), H', ⟨by have := HJ6.out; first | omega | exact Nat.le_refl _⟩, ⟨by repeat (first | (with_reducible first | exact HB.out | apply below_alloc | apply pw_below_drewN | apply below_drew1) | exact HB.out)⟩⟩
          · rw [if_neg c20] at H
            have c20b0 : decide (a1 ≤ a4) = false := decide_eq_false c20
            clear c20
            (first | rw [c20b0] | (simp only [i64_w, i32_w]; rw [c20b0]) | skip)
            have H' := Aside0.mk H
            clear H
            go_wp2
            go_meet
            case rel => exact ⟨_, (false), (by first | rfl | (simp; done) | (simp [*]; done)), H', ⟨by have := HJ6.out; first | omega | exact Nat.le_refl _⟩, ⟨by repeat (first | (with_reducible first | exact HB.out | apply below_alloc | apply pw_below_drewN | apply below_drew1) | exact HB.out)⟩⟩
        case rest =>
          clear HC19
          try clear c1
          try clear c2
          try clear p2
          try clear c8
          try clear c9
          try clear c9b0
          try clear c9b1
          try clear c10
          try clear c10b0
          try clear c10b1
          try clear c11
          try clear c11b0
          try clear c11b1
          try clear c12
          try clear c12b0
          try clear c12b1
          try clear c13
          try clear c13b0
          try clear c13b1
          try clear c14
          try clear c14b0
          try clear c14b1
          try clear c15
          try clear c15b0
          try clear c15b1
          try clear c16
          try clear c16b0
          try clear c16b1
          try clear c17
          try clear c17b0
          try clear c17b1
          try clear c18
          try clear c20
          try clear c20b0
          try clear p2
          obtain ⟨kq, x13_18, rfl, HA, HJ18, HB⟩ := hcut
          cases kq with
          | zero => exact absurd HA.out (by simp [patchworklaw5_GlobSets.j1])
          | succ kj18 =>
            have H := HA.out
            clear HA
            simp only [patchworklaw5_GlobSets.j1] at H
            have H' := Aside0.mk H
            clear H
            go_wp2
            go_loopg [12, 13, 14] kj18 (fun kq v12 v13 v14 w' => ∃ (x12_3 : ByteArray) (x13_3 : Bool) (x14_3 : Int), v12 = .string x12_3 ∧ v13 = .bool x13_3 ∧ v14 = .int .i64 x14_3 ∧ Aside0 (patchworklaw5_GlobSets.l0 kq a0 a1 a2 a3 a4 x12_3 x13_3 x14_3 = some r) ∧ Aside0 (kq ≤ kj18) ∧ Aside0 (Below w.heap.size w w'))
            case atStart => exact ⟨((⟨#[]⟩ : ByteArray)), (x13_18), (0), (by first | rfl | (simp; done) | (simp [*]; done)), (by first | rfl | (simp; done) | (simp [*]; done)), (by first | rfl | (simp; done) | (simp [*]; done)), H', ⟨Nat.le_refl _⟩, ⟨by repeat (first | (with_reducible first | exact HB.out | apply below_alloc | apply pw_below_drewN | apply below_drew1) | exact HB.out)⟩⟩
            case round =>
              clear H'
              try clear c1
              try clear c2
              try clear p2
              try clear c8
              try clear c9
              try clear c9b0
              try clear c9b1
              try clear c10
              try clear c10b0
              try clear c10b1
              try clear c11
              try clear c11b0
              try clear c11b1
              try clear c12
              try clear c12b0
              try clear c12b1
              try clear c13
              try clear c13b0
              try clear c13b1
              try clear c14
              try clear c14b0
              try clear c14b1
              try clear c15
              try clear c15b0
              try clear c15b1
              try clear c16
              try clear c16b0
              try clear c16b1
              try clear c17
              try clear c17b0
              try clear c17b1
              try clear c18
              try clear c20
              try clear c20b0
              try clear p2
              obtain ⟨x12_3, x13_3, x14_3, rfl, rfl, rfl, HA, HK3, HB⟩ := hrel
              cases gk with
              | zero => exact absurd HA.out (by simp [patchworklaw5_GlobSets.l0])
              | succ k3 =>
                have H := HA.out
                clear HA
                simp only [patchworklaw5_GlobSets.l0] at H
                by_cases c21 : x14_3 < (a0.size : Int)
                · rw [if_pos c21] at H
                  have c21b0 : decide (x14_3 < (a0.size : Int)) = true := decide_eq_true c21
                  clear c21
                  by_cases c22 : x12_3.size + 1 ≤ 9223372036854775807
                  · rw [if_pos c22] at H
                    have c22b0 := eq_true c22
                    have c22b1 : decide (x12_3.size + 1 ≤ 9223372036854775807) = true := decide_eq_true c22
                    try have c22b2 : (9223372036854775807 < x12_3.size + 1) = False := eq_false (Nat.not_lt.2 c22)
                    by_cases c23 : 0 ≤ x14_3
                    · rw [if_pos c23] at H
                      have c23b0 := eq_true c23
                      have c23b1 : decide (0 ≤ x14_3) = true := decide_eq_true c23
                      clear c23
                      by_cases c24 : x14_3 ≤ (wrap64 (x14_3 + 1))
                      · rw [if_pos c24] at H
                        have c24b0 := eq_true c24
                        have c24b1 : decide (x14_3 ≤ (wrap64 (x14_3 + 1))) = true := decide_eq_true c24
                        by_cases c25 : (wrap64 (x14_3 + 1)) ≤ (a0.size : Int)
                        · rw [if_pos c25] at H
                          have c25b0 := eq_true c25
                          have c25b1 : decide ((wrap64 (x14_3 + 1)) ≤ (a0.size : Int)) = true := decide_eq_true c25
                          by_cases c26 : (x12_3 ++ (⟨#[92]⟩ : ByteArray)).size + (a0.extract (x14_3 : Int).toNat ((wrap64 (x14_3 + 1)) : Int).toNat).size ≤ 9223372036854775807
                          · rw [if_pos c26] at H
                            have c26b0 := eq_true c26
                            have c26b1 : decide ((x12_3 ++ (⟨#[92]⟩ : ByteArray)).size + (a0.extract (x14_3 : Int).toNat ((wrap64 (x14_3 + 1)) : Int).toNat).size ≤ 9223372036854775807) = true := decide_eq_true c26
                            try (have c26b1n := c26b1; simp only [ByteArray.size_append, ba_size_lit, List.length_cons, List.length_nil, Nat.zero_add, Nat.reduceAdd, Int.natCast_add, Int.natCast_one, Int.cast_ofNat_Int] at c26b1n)
                            try have c26b2 : (9223372036854775807 < (x12_3 ++ (⟨#[92]⟩ : ByteArray)).size + (a0.extract (x14_3 : Int).toNat ((wrap64 (x14_3 + 1)) : Int).toNat).size) = False := eq_false (Nat.not_lt.2 c26)
                            try (have c26b3 := c26b2; simp only [ByteArray.size_append, ba_size_lit, List.length_cons, List.length_nil, Nat.zero_add, Nat.reduceAdd] at c26b3)
                            by_cases c27 : x13_3 = true
                            · subst c27
                              have H1 : (patchworklaw5_GlobSets.l0 k3 a0 a1 a2 a3 a4 ((x12_3 ++ (⟨#[92]⟩ : ByteArray)) ++ (a0.extract (x14_3 : Int).toNat ((wrap64 (x14_3 + 1)) : Int).toNat)) true (wrap64 (x14_3 + 1))) = some r := by rw [if_pos rfl] at H; exact H
                              clear H
                              have H := H1
                              clear H1
                              have H' := Aside0.mk H
                              clear H
                              go_wp2
                              go_roundg k3
                              case measure => have := HJ6.out; have := HJ18.out; have := HK3.out; omega
                              case rel => exact ⟨((x12_3 ++ (⟨#[92]⟩ : ByteArray)) ++ (a0.extract (x14_3 : Int).toNat ((wrap64 (x14_3 + 1)) : Int).toNat)), (true), (wrap64 (x14_3 + 1)), (by first | rfl | (simp; done) | (simp [*]; done)), (by first | rfl | (simp; done) | (simp [*]; done)), (by first | rfl | (simp; done) | (simp [*]; done)), H', ⟨by have := HJ6.out; have := HJ18.out; have := HK3.out; omega⟩, ⟨by repeat (first | (with_reducible first | exact HB.out | apply below_alloc | apply pw_below_drewN | apply below_drew1) | exact HB.out)⟩⟩
                            · replace c27 := Bool.eq_false_iff.mpr c27
                              subst c27
                              have H1 : (patchworklaw5_GlobSets.l0 k3 a0 a1 a2 a3 a4 ((x12_3 ++ (⟨#[92]⟩ : ByteArray)) ++ (a0.extract (x14_3 : Int).toNat ((wrap64 (x14_3 + 1)) : Int).toNat)) ((bt a0 x14_3) == a4) (wrap64 (x14_3 + 1))) = some r := by rw [if_neg (show ¬ (false = true) by decide)] at H; exact H
                              clear H
                              have H := H1
                              clear H1
                              have H' := Aside0.mk H
                              clear H
                              have p28 : 0 ≤ (x14_3 : Int) := of_decide_eq_true (by first | (with_reducible assumption) | assumption)
                              have q28 : x14_3 < (a0.size : Int) := of_decide_eq_true (by first | (with_reducible assumption) | assumption)
                              have hx28 := bt_at a0 x14_3
                              replace p28 := eq_true p28
                              replace q28 := eq_true q28
                              go_wp2
                              go_roundg k3
                              case measure => have := HJ6.out; have := HJ18.out; have := HK3.out; omega
                              case rel => exact ⟨((x12_3 ++ (⟨#[92]⟩ : ByteArray)) ++ (a0.extract (x14_3 : Int).toNat ((wrap64 (x14_3 + 1)) : Int).toNat)), (((bt a0 x14_3) == a4)), (wrap64 (x14_3 + 1)), (by first | rfl | (simp; done) | (simp [*]; done)), (by first | rfl | (simp; done) | (simp [*]; done)), (by first | rfl | (simp; done) | (simp [*]; done)), H', ⟨by have := HJ6.out; have := HJ18.out; have := HK3.out; omega⟩, ⟨by repeat (first | (with_reducible first | exact HB.out | apply below_alloc | apply pw_below_drewN | apply below_drew1) | exact HB.out)⟩⟩
                          · rw [if_neg c26] at H
                            exact absurd H (by simp)
                        · rw [if_neg c25] at H
                          exact absurd H (by simp)
                      · rw [if_neg c24] at H
                        exact absurd H (by simp)
                    · rw [if_neg c23] at H
                      exact absurd H (by simp)
                  · rw [if_neg c22] at H
                    exact absurd H (by simp)
                · rw [if_neg c21] at H
                  have c21b0 : decide (x14_3 < (a0.size : Int)) = false := decide_eq_false c21
                  clear c21
                  by_cases c29 : a3 = true
                  · subst c29
                    have H1 : ((some (([a1, 45, a2] : List Int) : List Int)).bind fun y198 => (if 2 + (strOfNums y198).size ≤ 9223372036854775807 then (if ((⟨#[91, 33]⟩ : ByteArray) ++ (strOfNums y198)).size + x12_3.size ≤ 9223372036854775807 then (if (((⟨#[91, 33]⟩ : ByteArray) ++ (strOfNums y198)) ++ x12_3).size + 1 ≤ 9223372036854775807 then ((some (([a4] : List Int) : List Int)).bind fun y201 => ((glob_Match.f k3 ((((⟨#[91, 33]⟩ : ByteArray) ++ (strOfNums y198)) ++ x12_3) ++ (⟨#[93]⟩ : ByteArray)) (strOfNums y201)).bind fun t204 => (if (x13_3 != true) = true then (if (t204 == (a4 != 47)) = true then ((glob_Match.f k3 ((((⟨#[91, 33]⟩ : ByteArray) ++ (strOfNums y198)) ++ x12_3) ++ (⟨#[93]⟩ : ByteArray)) (⟨#[]⟩ : ByteArray)).bind fun t205 => (if t205 = true then (some false) else (if (strOfNums y201).size + (strOfNums y201).size ≤ 9223372036854775807 then ((glob_Match.f k3 ((((⟨#[91, 33]⟩ : ByteArray) ++ (strOfNums y198)) ++ x12_3) ++ (⟨#[93]⟩ : ByteArray)) ((strOfNums y201) ++ (strOfNums y201))).bind fun t206 => (some (!t206))) else (none)))) else (some false)) else (if (t204 == false) = true then ((glob_Match.f k3 ((((⟨#[91, 33]⟩ : ByteArray) ++ (strOfNums y198)) ++ x12_3) ++ (⟨#[93]⟩ : ByteArray)) (⟨#[]⟩ : ByteArray)).bind fun t207 => (if t207 = true then (some false) else (if (strOfNums y201).size + (strOfNums y201).size ≤ 9223372036854775807 then ((glob_Match.f k3 ((((⟨#[91, 33]⟩ : ByteArray) ++ (strOfNums y198)) ++ x12_3) ++ (⟨#[93]⟩ : ByteArray)) ((strOfNums y201) ++ (strOfNums y201))).bind fun t208 => (some (!t208))) else (none)))) else (some false))))) else (none)) else (none)) else (none))) = some r := by rw [if_pos rfl] at H; exact H
                    clear H
                    have H := H1
                    clear H1
                    obtain ⟨y198, hy198⟩ : ∃ y_ : List Int, y_ = (([a1, 45, a2] : List Int)) := ⟨_, rfl⟩
                    replace H : (if 2 + (strOfNums y198).size ≤ 9223372036854775807 then (if ((⟨#[91, 33]⟩ : ByteArray) ++ (strOfNums y198)).size + x12_3.size ≤ 9223372036854775807 then (if (((⟨#[91, 33]⟩ : ByteArray) ++ (strOfNums y198)) ++ x12_3).size + 1 ≤ 9223372036854775807 then ((some (([a4] : List Int) : List Int)).bind fun y201 => ((glob_Match.f k3 ((((⟨#[91, 33]⟩ : ByteArray) ++ (strOfNums y198)) ++ x12_3) ++ (⟨#[93]⟩ : ByteArray)) (strOfNums y201)).bind fun t204 => (if (x13_3 != true) = true then (if (t204 == (a4 != 47)) = true then ((glob_Match.f k3 ((((⟨#[91, 33]⟩ : ByteArray) ++ (strOfNums y198)) ++ x12_3) ++ (⟨#[93]⟩ : ByteArray)) (⟨#[]⟩ : ByteArray)).bind fun t205 => (if t205 = true then (some false) else (if (strOfNums y201).size + (strOfNums y201).size ≤ 9223372036854775807 then ((glob_Match.f k3 ((((⟨#[91, 33]⟩ : ByteArray) ++ (strOfNums y198)) ++ x12_3) ++ (⟨#[93]⟩ : ByteArray)) ((strOfNums y201) ++ (strOfNums y201))).bind fun t206 => (some (!t206))) else (none)))) else (some false)) else (if (t204 == false) = true then ((glob_Match.f k3 ((((⟨#[91, 33]⟩ : ByteArray) ++ (strOfNums y198)) ++ x12_3) ++ (⟨#[93]⟩ : ByteArray)) (⟨#[]⟩ : ByteArray)).bind fun t207 => (if t207 = true then (some false) else (if (strOfNums y201).size + (strOfNums y201).size ≤ 9223372036854775807 then ((glob_Match.f k3 ((((⟨#[91, 33]⟩ : ByteArray) ++ (strOfNums y198)) ++ x12_3) ++ (⟨#[93]⟩ : ByteArray)) ((strOfNums y201) ++ (strOfNums y201))).bind fun t208 => (some (!t208))) else (none)))) else (some false))))) else (none)) else (none)) else (none)) = some r := by first | (rw [hy198]; with_reducible exact H) | (have H2_ := (Option.bind_some _ _).symm.trans H; rw [hy198]; with_reducible exact H2_) | (have H2_ := (Option.bind_some _ _).symm.trans H; with_reducible exact H2_) | with_reducible exact H | (rw [hy198]; exact H) | exact H
                    have Ny198 := Aside0.mk hy198
                    clear hy198
                    by_cases c30 : 2 + (strOfNums y198).size ≤ 9223372036854775807
                    · rw [if_pos c30] at H
                      have c30b0 := eq_true c30
                      have c30b1 : decide (2 + (strOfNums y198).size ≤ 9223372036854775807) = true := decide_eq_true c30
                      try have c30b2 : (9223372036854775807 < 2 + (strOfNums y198).size) = False := eq_false (Nat.not_lt.2 c30)
                      by_cases c31 : ((⟨#[91, 33]⟩ : ByteArray) ++ (strOfNums y198)).size + x12_3.size ≤ 9223372036854775807
                      · rw [if_pos c31] at H
                        have c31b0 := eq_true c31
                        have c31b1 : decide (((⟨#[91, 33]⟩ : ByteArray) ++ (strOfNums y198)).size + x12_3.size ≤ 9223372036854775807) = true := decide_eq_true c31
                        try (have c31b1n := c31b1; simp only [ByteArray.size_append, ba_size_lit, List.length_cons, List.length_nil, Nat.zero_add, Nat.reduceAdd, Int.natCast_add, Int.natCast_one, Int.cast_ofNat_Int] at c31b1n)
                        try have c31b2 : (9223372036854775807 < ((⟨#[91, 33]⟩ : ByteArray) ++ (strOfNums y198)).size + x12_3.size) = False := eq_false (Nat.not_lt.2 c31)
                        try (have c31b3 := c31b2; simp only [ByteArray.size_append, ba_size_lit, List.length_cons, List.length_nil, Nat.zero_add, Nat.reduceAdd] at c31b3)
                        by_cases c32 : (((⟨#[91, 33]⟩ : ByteArray) ++ (strOfNums y198)) ++ x12_3).size + 1 ≤ 9223372036854775807
                        · rw [if_pos c32] at H
                          have c32b0 := eq_true c32
                          have c32b1 : decide ((((⟨#[91, 33]⟩ : ByteArray) ++ (strOfNums y198)) ++ x12_3).size + 1 ≤ 9223372036854775807) = true := decide_eq_true c32
                          try (have c32b1n := c32b1; simp only [ByteArray.size_append, ba_size_lit, List.length_cons, List.length_nil, Nat.zero_add, Nat.reduceAdd, Int.natCast_add, Int.natCast_one, Int.cast_ofNat_Int] at c32b1n)
                          try have c32b2 : (9223372036854775807 < (((⟨#[91, 33]⟩ : ByteArray) ++ (strOfNums y198)) ++ x12_3).size + 1) = False := eq_false (Nat.not_lt.2 c32)
                          try (have c32b3 := c32b2; simp only [ByteArray.size_append, ba_size_lit, List.length_cons, List.length_nil, Nat.zero_add, Nat.reduceAdd] at c32b3)
                          obtain ⟨y201, hy201⟩ : ∃ y_ : List Int, y_ = (([a4] : List Int)) := ⟨_, rfl⟩
                          replace H : ((glob_Match.f k3 ((((⟨#[91, 33]⟩ : ByteArray) ++ (strOfNums y198)) ++ x12_3) ++ (⟨#[93]⟩ : ByteArray)) (strOfNums y201)).bind fun t204 => (if (x13_3 != true) = true then (if (t204 == (a4 != 47)) = true then ((glob_Match.f k3 ((((⟨#[91, 33]⟩ : ByteArray) ++ (strOfNums y198)) ++ x12_3) ++ (⟨#[93]⟩ : ByteArray)) (⟨#[]⟩ : ByteArray)).bind fun t205 => (if t205 = true then (some false) else (if (strOfNums y201).size + (strOfNums y201).size ≤ 9223372036854775807 then ((glob_Match.f k3 ((((⟨#[91, 33]⟩ : ByteArray) ++ (strOfNums y198)) ++ x12_3) ++ (⟨#[93]⟩ : ByteArray)) ((strOfNums y201) ++ (strOfNums y201))).bind fun t206 => (some (!t206))) else (none)))) else (some false)) else (if (t204 == false) = true then ((glob_Match.f k3 ((((⟨#[91, 33]⟩ : ByteArray) ++ (strOfNums y198)) ++ x12_3) ++ (⟨#[93]⟩ : ByteArray)) (⟨#[]⟩ : ByteArray)).bind fun t207 => (if t207 = true then (some false) else (if (strOfNums y201).size + (strOfNums y201).size ≤ 9223372036854775807 then ((glob_Match.f k3 ((((⟨#[91, 33]⟩ : ByteArray) ++ (strOfNums y198)) ++ x12_3) ++ (⟨#[93]⟩ : ByteArray)) ((strOfNums y201) ++ (strOfNums y201))).bind fun t208 => (some (!t208))) else (none)))) else (some false)))) = some r := by first | (rw [hy201]; with_reducible exact H) | (have H2_ := (Option.bind_some _ _).symm.trans H; rw [hy201]; with_reducible exact H2_) | (have H2_ := (Option.bind_some _ _).symm.trans H; with_reducible exact H2_) | with_reducible exact H | (rw [hy201]; exact H) | exact H
                          have Ny201 := Aside0.mk hy201
                          clear hy201
                          replace H := Option.bind_eq_some_iff.mp H
                          obtain ⟨t204, A330, H⟩ := H
                          replace H : (if (x13_3 != true) = true then (if (t204 == (a4 != 47)) = true then ((glob_Match.f k3 ((((⟨#[91, 33]⟩ : ByteArray) ++ (strOfNums y198)) ++ x12_3) ++ (⟨#[93]⟩ : ByteArray)) (⟨#[]⟩ : ByteArray)).bind fun t205 => (if t205 = true then (some false) else (if (strOfNums y201).size + (strOfNums y201).size ≤ 9223372036854775807 then ((glob_Match.f k3 ((((⟨#[91, 33]⟩ : ByteArray) ++ (strOfNums y198)) ++ x12_3) ++ (⟨#[93]⟩ : ByteArray)) ((strOfNums y201) ++ (strOfNums y201))).bind fun t206 => (some (!t206))) else (none)))) else (some false)) else (if (t204 == false) = true then ((glob_Match.f k3 ((((⟨#[91, 33]⟩ : ByteArray) ++ (strOfNums y198)) ++ x12_3) ++ (⟨#[93]⟩ : ByteArray)) (⟨#[]⟩ : ByteArray)).bind fun t207 => (if t207 = true then (some false) else (if (strOfNums y201).size + (strOfNums y201).size ≤ 9223372036854775807 then ((glob_Match.f k3 ((((⟨#[91, 33]⟩ : ByteArray) ++ (strOfNums y198)) ++ x12_3) ++ (⟨#[93]⟩ : ByteArray)) ((strOfNums y201) ++ (strOfNums y201))).bind fun t208 => (some (!t208))) else (none)))) else (some false))) = some r := H
                          have A33 := Aside0.mk A330
                          clear A330
                          by_cases c34 : (x13_3 != true) = true
                          · rw [if_pos c34] at H
                            have c34b0 : (x13_3 != true) = true := c34
                            (try (have c34b1 : decide (x13_3 = true) = false := by simpa using c34))
                            (try (have c34b2 : (x13_3 == true) = false := by simpa using c34))
                            (try (have c34b3 : ¬ (x13_3 = true) := by simpa using c34))
                            clear c34
                            by_cases c35 : (t204 == (a4 != 47)) = true
                            · rw [if_pos c35] at H
                              have c35b0 : (t204 == (a4 != 47)) = true := c35
                              (try (have c35b1 : decide (t204 = (a4 != 47)) = true := by simpa using c35))
                              (try (have c35b2 : (t204 == (a4 != 47)) = true := by simpa using c35))
                              clear c35
                              replace H := Option.bind_eq_some_iff.mp H
                              obtain ⟨t205, A360, H⟩ := H
                              replace H : (if t205 = true then (some false) else (if (strOfNums y201).size + (strOfNums y201).size ≤ 9223372036854775807 then ((glob_Match.f k3 ((((⟨#[91, 33]⟩ : ByteArray) ++ (strOfNums y198)) ++ x12_3) ++ (⟨#[93]⟩ : ByteArray)) ((strOfNums y201) ++ (strOfNums y201))).bind fun t206 => (some (!t206))) else (none))) = some r := H
                              have A36 := Aside0.mk A360
                              clear A360
                              by_cases c37 : t205 = true
                              · subst c37
                                have H1 : (some false) = some r := by rw [if_pos rfl] at H; exact H
                                clear H
                                have H := H1
                                clear H1
                                obtain rfl := Option.some.inj H
                                go_wp2_with (first | ((with_reducible refine gate_dst (N := 97) rfl ?_); (try (refine gate_guard (by rfl) ?_; dsimp only)); refine Kd.R_lit (Kd.int .u8) _ 5 ?hg (N := 97) ?hd (xs := ([a1, 45, a2] : List Int)) (inner := [.int .u8 a1, .int .u8 45, .int .u8 a2]) (ok := fun _ => True) (okp := fun _ => True) ?hr ?hp (fun _ hk => hk) trivial (Below.refl _ _) (Nat.le_refl _) (by simp) ?_; (case hd => rfl); (case hg => rfl); (case hr => first | (go_simp; done) | (go_simp; rfl)); (case hp => exact (Reps.one (show Kd.M (Kd.int .u8) _ _ _ a1 [.int .u8 a1] from rfl) (Reps.one (show Kd.M (Kd.int .u8) _ _ _ 45 [.int .u8 45] from rfl) (Reps.one (show Kd.M (Kd.int .u8) _ _ _ a2 [.int .u8 a2] from rfl) (Reps.none _ _))))); intro v199 w38 ho39 hb hg_ hnew_; clear hg_ hnew_; (first | rw [← Ny198.out] at ho39 | (simp only [Int.reduceToNat] at ho39; rw [← Ny198.out] at ho39)); have n0_ := Aside0.mk (Kd.R_lower ho39 (below_size (by repeat (first | (with_reducible first | exact HB.out | apply below_alloc | apply pw_below_drewN | apply below_drew1) | exact HB.out)))); have n1_ := Aside0.mk (below_step (by repeat (first | (with_reducible first | exact HB.out | apply below_alloc | apply pw_below_drewN | apply below_drew1) | exact HB.out)) hb); clear HB; have HO200 := n0_; have HB := n1_; clear n0_ n1_; clear hb ho39; have hcv40 := own_string (P := Try.prog) Try.underlying38 Try.underlying5 Try.underlying9 (Kd.own_of_R HO200.out)) | ((with_reducible refine gate_dst (N := 104) rfl ?_); (try (refine gate_guard (by rfl) ?_; dsimp only)); refine Kd.R_lit (Kd.int .u8) _ 5 ?hg (N := 104) ?hd (xs := ([a4] : List Int)) (inner := [.int .u8 a4]) (ok := fun _ => True) (okp := fun _ => True) ?hr ?hp (fun _ hk => hk) trivial (Below.refl _ _) (Nat.le_refl _) (by simp) ?_; (case hd => rfl); (case hg => rfl); (case hr => first | (go_simp; done) | (go_simp; rfl)); (case hp => exact (Reps.one (show Kd.M (Kd.int .u8) _ _ _ a4 [.int .u8 a4] from rfl) (Reps.none _ _))); intro v202 w41 ho42 hb hg_ hnew_; clear hg_ hnew_; (first | rw [← Ny201.out] at ho42 | (simp only [Int.reduceToNat] at ho42; rw [← Ny201.out] at ho42)); have n0_ := Aside0.mk (Kd.R_elder' (by (with_reducible repeat (first | apply Kd.R_alloc | apply Kd.R_drewN | apply Kd.R_drew)); exact HO200.out) (Kd.R_base ho42) hb); have n1_ := Aside0.mk (Kd.R_lower (Kd.R_new' ho42 (Kd.R_lt (by (with_reducible repeat (first | apply Kd.R_alloc | apply Kd.R_drewN | apply Kd.R_drew)); exact HO200.out))) (below_size (by repeat (first | (with_reducible first | exact HB.out | apply below_alloc | apply pw_below_drewN | apply below_drew1) | exact HB.out)))); have n2_ := Aside0.mk (below_step (by repeat (first | (with_reducible first | exact HB.out | apply below_alloc | apply pw_below_drewN | apply below_drew1) | exact HB.out)) hb); clear HO200; clear HB; have HO200 := n0_; have HO203 := n1_; have HB := n2_; clear n0_ n1_ n2_; clear hb ho42; have hcv43 := own_string (P := Try.prog) Try.underlying38 Try.underlying5 Try.underlying9 (Kd.own_of_R HO203.out)) | ((with_reducible refine gate_callee (f := 24) rfl ?_); refine goesL_ (some 108) rfl rfl Try.func24 (by kernel_rfl) rfl #[.string ((((⟨#[91, 33]⟩ : ByteArray) ++ (strOfNums y198)) ++ x12_3) ++ (⟨#[93]⟩ : ByteArray)), .string (strOfNums y201)] rfl (by (try simp only [List.map_toArray, List.map_cons, List.map_nil]); first | done | rfl | (simp only [List.length_drop, List.length_take]; rfl)) ?_; (with_reducible refine (glob_Match.calls k3 ((((⟨#[91, 33]⟩ : ByteArray) ++ (strOfNums y198)) ++ x12_3) ++ (⟨#[93]⟩ : ByteArray)) (strOfNums y201) t204 _ ?side1 A33.out).mono ?_); (case side1 => first | exact hX | exact XW.below hX (by repeat (first | (with_reducible first | exact HB.out | apply below_alloc | apply pw_below_drewN | apply below_drew1) | exact HB.out))); rintro e w' ⟨rfl, ⟨nd, rfl⟩⟩; refine ⟨_, rfl, ?_⟩) | (go_at_call 24; (with_reducible refine (glob_Match.calls k3 ((((⟨#[91, 33]⟩ : ByteArray) ++ (strOfNums y198)) ++ x12_3) ++ (⟨#[93]⟩ : ByteArray)) (⟨#[]⟩ : ByteArray) true _ ?side1 A36.out).mono ?_); (case side1 => first | exact hX | exact XW.below hX (by repeat (first | (with_reducible first | exact HB.out | apply below_alloc | apply pw_below_drewN | apply below_drew1) | exact HB.out))); rintro e w' ⟨rfl, ⟨nd, rfl⟩⟩))
                                go_ret
                                exact ⟨by first | rfl | (simp [errW_none, errW_some] <;> rfl) | (simp [*, errW_none, errW_some] <;> rfl), by repeat (first | (with_reducible first | exact HB.out | apply below_alloc | apply pw_below_drewN | apply below_drew1) | exact HB.out)⟩
                              · replace c37 := Bool.eq_false_iff.mpr c37
                                subst c37
                                have H1 : (if (strOfNums y201).size + (strOfNums y201).size ≤ 9223372036854775807 then ((glob_Match.f k3 ((((⟨#[91, 33]⟩ : ByteArray) ++ (strOfNums y198)) ++ x12_3) ++ (⟨#[93]⟩ : ByteArray)) ((strOfNums y201) ++ (strOfNums y201))).bind fun t206 => (some (!t206))) else (none)) = some r := by rw [if_neg (show ¬ (false = true) by decide)] at H; exact H
                                clear H
                                have H := H1
                                clear H1
                                by_cases c44 : (strOfNums y201).size + (strOfNums y201).size ≤ 9223372036854775807
                                · rw [if_pos c44] at H
                                  have c44b0 := eq_true c44
                                  have c44b1 : decide ((strOfNums y201).size + (strOfNums y201).size ≤ 9223372036854775807) = true := decide_eq_true c44
                                  try have c44b2 : (9223372036854775807 < (strOfNums y201).size + (strOfNums y201).size) = False := eq_false (Nat.not_lt.2 c44)
                                  replace H := Option.bind_eq_some_iff.mp H
                                  obtain ⟨t206, A450, H⟩ := H
                                  replace H : (some (!t206)) = some r := H
                                  have A45 := Aside0.mk A450
                                  clear A450
                                  obtain rfl := Option.some.inj H
                                  go_wp2_with (first | ((with_reducible refine gate_dst (N := 97) rfl ?_); (try (refine gate_guard (by rfl) ?_; dsimp only)); refine Kd.R_lit (Kd.int .u8) _ 5 ?hg (N := 97) ?hd (xs := ([a1, 45, a2] : List Int)) (inner := [.int .u8 a1, .int .u8 45, .int .u8 a2]) (ok := fun _ => True) (okp := fun _ => True) ?hr ?hp (fun _ hk => hk) trivial (Below.refl _ _) (Nat.le_refl _) (by simp) ?_; (case hd => rfl); (case hg => rfl); (case hr => first | (go_simp; done) | (go_simp; rfl)); (case hp => exact (Reps.one (show Kd.M (Kd.int .u8) _ _ _ a1 [.int .u8 a1] from rfl) (Reps.one (show Kd.M (Kd.int .u8) _ _ _ 45 [.int .u8 45] from rfl) (Reps.one (show Kd.M (Kd.int .u8) _ _ _ a2 [.int .u8 a2] from rfl) (Reps.none _ _))))); intro v199 w46 ho47 hb hg_ hnew_; clear hg_ hnew_; (first | rw [← Ny198.out] at ho47 | (simp only [Int.reduceToNat] at ho47; rw [← Ny198.out] at ho47)); have n0_ := Aside0.mk (Kd.R_lower ho47 (below_size (by repeat (first | (with_reducible first | exact HB.out | apply below_alloc | apply pw_below_drewN | apply below_drew1) | exact HB.out)))); have n1_ := Aside0.mk (below_step (by repeat (first | (with_reducible first | exact HB.out | apply below_alloc | apply pw_below_drewN | apply below_drew1) | exact HB.out)) hb); clear HB; have HO200 := n0_; have HB := n1_; clear n0_ n1_; clear hb ho47; have hcv48 := own_string (P := Try.prog) Try.underlying38 Try.underlying5 Try.underlying9 (Kd.own_of_R HO200.out)) | ((with_reducible refine gate_dst (N := 104) rfl ?_); (try (refine gate_guard (by rfl) ?_; dsimp only)); refine Kd.R_lit (Kd.int .u8) _ 5 ?hg (N := 104) ?hd (xs := ([a4] : List Int)) (inner := [.int .u8 a4]) (ok := fun _ => True) (okp := fun _ => True) ?hr ?hp (fun _ hk => hk) trivial (Below.refl _ _) (Nat.le_refl _) (by simp) ?_; (case hd => rfl); (case hg => rfl); (case hr => first | (go_simp; done) | (go_simp; rfl)); (case hp => exact (Reps.one (show Kd.M (Kd.int .u8) _ _ _ a4 [.int .u8 a4] from rfl) (Reps.none _ _))); intro v202 w49 ho50 hb hg_ hnew_; clear hg_ hnew_; (first | rw [← Ny201.out] at ho50 | (simp only [Int.reduceToNat] at ho50; rw [← Ny201.out] at ho50)); have n0_ := Aside0.mk (Kd.R_elder' (by (with_reducible repeat (first | apply Kd.R_alloc | apply Kd.R_drewN | apply Kd.R_drew)); exact HO200.out) (Kd.R_base ho50) hb); have n1_ := Aside0.mk (Kd.R_lower (Kd.R_new' ho50 (Kd.R_lt (by (with_reducible repeat (first | apply Kd.R_alloc | apply Kd.R_drewN | apply Kd.R_drew)); exact HO200.out))) (below_size (by repeat (first | (with_reducible first | exact HB.out | apply below_alloc | apply pw_below_drewN | apply below_drew1) | exact HB.out)))); have n2_ := Aside0.mk (below_step (by repeat (first | (with_reducible first | exact HB.out | apply below_alloc | apply pw_below_drewN | apply below_drew1) | exact HB.out)) hb); clear HO200; clear HB; have HO200 := n0_; have HO203 := n1_; have HB := n2_; clear n0_ n1_ n2_; clear hb ho50; have hcv51 := own_string (P := Try.prog) Try.underlying38 Try.underlying5 Try.underlying9 (Kd.own_of_R HO203.out)) | ((with_reducible refine gate_callee (f := 24) rfl ?_); refine goesL_ (some 108) rfl rfl Try.func24 (by kernel_rfl) rfl #[.string ((((⟨#[91, 33]⟩ : ByteArray) ++ (strOfNums y198)) ++ x12_3) ++ (⟨#[93]⟩ : ByteArray)), .string (strOfNums y201)] rfl (by (try simp only [List.map_toArray, List.map_cons, List.map_nil]); first | done | rfl | (simp only [List.length_drop, List.length_take]; rfl)) ?_; (with_reducible refine (glob_Match.calls k3 ((((⟨#[91, 33]⟩ : ByteArray) ++ (strOfNums y198)) ++ x12_3) ++ (⟨#[93]⟩ : ByteArray)) (strOfNums y201) t204 _ ?side1 A33.out).mono ?_); (case side1 => first | exact hX | exact XW.below hX (by repeat (first | (with_reducible first | exact HB.out | apply below_alloc | apply pw_below_drewN | apply below_drew1) | exact HB.out))); rintro e w' ⟨rfl, ⟨nd, rfl⟩⟩; refine ⟨_, rfl, ?_⟩) | (go_at_call 24; (with_reducible refine (glob_Match.calls k3 ((((⟨#[91, 33]⟩ : ByteArray) ++ (strOfNums y198)) ++ x12_3) ++ (⟨#[93]⟩ : ByteArray)) (⟨#[]⟩ : ByteArray) false _ ?side1 A36.out).mono ?_); (case side1 => first | exact hX | exact XW.below hX (by repeat (first | (with_reducible first | exact HB.out | apply below_alloc | apply pw_below_drewN | apply below_drew1) | exact HB.out))); rintro e w' ⟨rfl, ⟨nd, rfl⟩⟩) | (go_at_call 24; (with_reducible refine (glob_Match.calls k3 ((((⟨#[91, 33]⟩ : ByteArray) ++ (strOfNums y198)) ++ x12_3) ++ (⟨#[93]⟩ : ByteArray)) ((strOfNums y201) ++ (strOfNums y201)) t206 _ ?side1 A45.out).mono ?_); (case side1 => first | exact hX | exact XW.below hX (by repeat (first | (with_reducible first | exact HB.out | apply below_alloc | apply pw_below_drewN | apply below_drew1) | exact HB.out))); rintro e w' ⟨rfl, ⟨nd, rfl⟩⟩))
                                  go_ret
                                  exact ⟨by first | rfl | (simp [errW_none, errW_some] <;> rfl) | (simp [*, errW_none, errW_some] <;> rfl), by repeat (first | (with_reducible first | exact HB.out | apply below_alloc | apply pw_below_drewN | apply below_drew1) | exact HB.out)⟩
                                · rw [if_neg c44] at H
                                  exact absurd H (by simp)
                            · rw [if_neg c35] at H
                              have c35b0 : (t204 == (a4 != 47)) = false := by simpa using c35
                              (try (have c35b1 : decide (t204 = (a4 != 47)) = false := by simpa using c35))
                              (try (have c35b2 : (t204 == (a4 != 47)) = false := by simpa using c35))
                              (try (have c35b3 : ¬ (t204 = (a4 != 47)) := by simpa using c35))
                              clear c35
                              obtain rfl := Option.some.inj H
                              go_wp2_with (first | ((with_reducible refine gate_dst (N := 97) rfl ?_); (try (refine gate_guard (by rfl) ?_; dsimp only)); refine Kd.R_lit (Kd.int .u8) _ 5 ?hg (N := 97) ?hd (xs := ([a1, 45, a2] : List Int)) (inner := [.int .u8 a1, .int .u8 45, .int .u8 a2]) (ok := fun _ => True) (okp := fun _ => True) ?hr ?hp (fun _ hk => hk) trivial (Below.refl _ _) (Nat.le_refl _) (by simp) ?_; (case hd => rfl); (case hg => rfl); (case hr => first | (go_simp; done) | (go_simp; rfl)); (case hp => exact (Reps.one (show Kd.M (Kd.int .u8) _ _ _ a1 [.int .u8 a1] from rfl) (Reps.one (show Kd.M (Kd.int .u8) _ _ _ 45 [.int .u8 45] from rfl) (Reps.one (show Kd.M (Kd.int .u8) _ _ _ a2 [.int .u8 a2] from rfl) (Reps.none _ _))))); intro v199 w52 ho53 hb hg_ hnew_; clear hg_ hnew_; (first | rw [← Ny198.out] at ho53 | (simp only [Int.reduceToNat] at ho53; rw [← Ny198.out] at ho53)); have n0_ := Aside0.mk (Kd.R_lower ho53 (below_size (by repeat (first | (with_reducible first | exact HB.out | apply below_alloc | apply pw_below_drewN | apply below_drew1) | exact HB.out)))); have n1_ := Aside0.mk (below_step (by repeat (first | (with_reducible first | exact HB.out | apply below_alloc | apply pw_below_drewN | apply below_drew1) | exact HB.out)) hb); clear HB; have HO200 := n0_; have HB := n1_; clear n0_ n1_; clear hb ho53; have hcv54 := own_string (P := Try.prog) Try.underlying38 Try.underlying5 Try.underlying9 (Kd.own_of_R HO200.out)) | ((with_reducible refine gate_dst (N := 104) rfl ?_); (try (refine gate_guard (by rfl) ?_; dsimp only)); refine Kd.R_lit (Kd.int .u8) _ 5 ?hg (N := 104) ?hd (xs := ([a4] : List Int)) (inner := [.int .u8 a4]) (ok := fun _ => True) (okp := fun _ => True) ?hr ?hp (fun _ hk => hk) trivial (Below.refl _ _) (Nat.le_refl _) (by simp) ?_; (case hd => rfl); (case hg => rfl); (case hr => first | (go_simp; done) | (go_simp; rfl)); (case hp => exact (Reps.one (show Kd.M (Kd.int .u8) _ _ _ a4 [.int .u8 a4] from rfl) (Reps.none _ _))); intro v202 w55 ho56 hb hg_ hnew_; clear hg_ hnew_; (first | rw [← Ny201.out] at ho56 | (simp only [Int.reduceToNat] at ho56; rw [← Ny201.out] at ho56)); have n0_ := Aside0.mk (Kd.R_elder' (by (with_reducible repeat (first | apply Kd.R_alloc | apply Kd.R_drewN | apply Kd.R_drew)); exact HO200.out) (Kd.R_base ho56) hb); have n1_ := Aside0.mk (Kd.R_lower (Kd.R_new' ho56 (Kd.R_lt (by (with_reducible repeat (first | apply Kd.R_alloc | apply Kd.R_drewN | apply Kd.R_drew)); exact HO200.out))) (below_size (by repeat (first | (with_reducible first | exact HB.out | apply below_alloc | apply pw_below_drewN | apply below_drew1) | exact HB.out)))); have n2_ := Aside0.mk (below_step (by repeat (first | (with_reducible first | exact HB.out | apply below_alloc | apply pw_below_drewN | apply below_drew1) | exact HB.out)) hb); clear HO200; clear HB; have HO200 := n0_; have HO203 := n1_; have HB := n2_; clear n0_ n1_ n2_; clear hb ho56; have hcv57 := own_string (P := Try.prog) Try.underlying38 Try.underlying5 Try.underlying9 (Kd.own_of_R HO203.out)) | ((with_reducible refine gate_callee (f := 24) rfl ?_); refine goesL_ (some 108) rfl rfl Try.func24 (by kernel_rfl) rfl #[.string ((((⟨#[91, 33]⟩ : ByteArray) ++ (strOfNums y198)) ++ x12_3) ++ (⟨#[93]⟩ : ByteArray)), .string (strOfNums y201)] rfl (by (try simp only [List.map_toArray, List.map_cons, List.map_nil]); first | done | rfl | (simp only [List.length_drop, List.length_take]; rfl)) ?_; (with_reducible refine (glob_Match.calls k3 ((((⟨#[91, 33]⟩ : ByteArray) ++ (strOfNums y198)) ++ x12_3) ++ (⟨#[93]⟩ : ByteArray)) (strOfNums y201) t204 _ ?side1 A33.out).mono ?_); (case side1 => first | exact hX | exact XW.below hX (by repeat (first | (with_reducible first | exact HB.out | apply below_alloc | apply pw_below_drewN | apply below_drew1) | exact HB.out))); rintro e w' ⟨rfl, ⟨nd, rfl⟩⟩; refine ⟨_, rfl, ?_⟩))
                              go_ret
                              exact ⟨by first | rfl | (simp [errW_none, errW_some] <;> rfl) | (simp [*, errW_none, errW_some] <;> rfl), by repeat (first | (with_reducible first | exact HB.out | apply below_alloc | apply pw_below_drewN | apply below_drew1) | exact HB.out)⟩
                          · rw [if_neg c34] at H
                            have c34b0 : (x13_3 != true) = false := by simpa using c34
                            (try (have c34b1 : decide (x13_3 = true) = true := by simpa using c34))
                            (try (have c34b2 : (x13_3 == true) = true := by simpa using c34))
                            clear c34
                            by_cases c58 : (t204 == false) = true
                            · rw [if_pos c58] at H
                              have c58b0 : (t204 == false) = true := c58
                              (try (have c58b1 : decide (t204 = false) = true := by simpa using c58))
                              (try (have c58b2 : (t204 == false) = true := by simpa using c58))
                              clear c58
                              replace H := Option.bind_eq_some_iff.mp H
                              obtain ⟨t207, A590, H⟩ := H
                              replace H : (if t207 = true then (some false) else (if (strOfNums y201).size + (strOfNums y201).size ≤ 9223372036854775807 then ((glob_Match.f k3 ((((⟨#[91, 33]⟩ : ByteArray) ++ (strOfNums y198)) ++ x12_3) ++ (⟨#[93]⟩ : ByteArray)) ((strOfNums y201) ++ (strOfNums y201))).bind fun t208 => (some (!t208))) else (none))) = some r := H
                              have A59 := Aside0.mk A590
                              clear A590
                              by_cases c60 : t207 = true
                              · subst c60
                                have H1 : (some false) = some r := by rw [if_pos rfl] at H; exact H
                                clear H
                                have H := H1
                                clear H1
                                obtain rfl := Option.some.inj H
                                go_wp2_with (first | ((with_reducible refine gate_dst (N := 97) rfl ?_); (try (refine gate_guard (by rfl) ?_; dsimp only)); refine Kd.R_lit (Kd.int .u8) _ 5 ?hg (N := 97) ?hd (xs := ([a1, 45, a2] : List Int)) (inner := [.int .u8 a1, .int .u8 45, .int .u8 a2]) (ok := fun _ => True) (okp := fun _ => True) ?hr ?hp (fun _ hk => hk) trivial (Below.refl _ _) (Nat.le_refl _) (by simp) ?_; (case hd => rfl); (case hg => rfl); (case hr => first | (go_simp; done) | (go_simp; rfl)); (case hp => exact (Reps.one (show Kd.M (Kd.int .u8) _ _ _ a1 [.int .u8 a1] from rfl) (Reps.one (show Kd.M (Kd.int .u8) _ _ _ 45 [.int .u8 45] from rfl) (Reps.one (show Kd.M (Kd.int .u8) _ _ _ a2 [.int .u8 a2] from rfl) (Reps.none _ _))))); intro v199 w61 ho62 hb hg_ hnew_; clear hg_ hnew_; (first | rw [← Ny198.out] at ho62 | (simp only [Int.reduceToNat] at ho62; rw [← Ny198.out] at ho62)); have n0_ := Aside0.mk (Kd.R_lower ho62 (below_size (by repeat (first | (with_reducible first | exact HB.out | apply below_alloc | apply pw_below_drewN | apply below_drew1) | exact HB.out)))); have n1_ := Aside0.mk (below_step (by repeat (first | (with_reducible first | exact HB.out | apply below_alloc | apply pw_below_drewN | apply below_drew1) | exact HB.out)) hb); clear HB; have HO200 := n0_; have HB := n1_; clear n0_ n1_; clear hb ho62; have hcv63 := own_string (P := Try.prog) Try.underlying38 Try.underlying5 Try.underlying9 (Kd.own_of_R HO200.out)) | ((with_reducible refine gate_dst (N := 104) rfl ?_); (try (refine gate_guard (by rfl) ?_; dsimp only)); refine Kd.R_lit (Kd.int .u8) _ 5 ?hg (N := 104) ?hd (xs := ([a4] : List Int)) (inner := [.int .u8 a4]) (ok := fun _ => True) (okp := fun _ => True) ?hr ?hp (fun _ hk => hk) trivial (Below.refl _ _) (Nat.le_refl _) (by simp) ?_; (case hd => rfl); (case hg => rfl); (case hr => first | (go_simp; done) | (go_simp; rfl)); (case hp => exact (Reps.one (show Kd.M (Kd.int .u8) _ _ _ a4 [.int .u8 a4] from rfl) (Reps.none _ _))); intro v202 w64 ho65 hb hg_ hnew_; clear hg_ hnew_; (first | rw [← Ny201.out] at ho65 | (simp only [Int.reduceToNat] at ho65; rw [← Ny201.out] at ho65)); have n0_ := Aside0.mk (Kd.R_elder' (by (with_reducible repeat (first | apply Kd.R_alloc | apply Kd.R_drewN | apply Kd.R_drew)); exact HO200.out) (Kd.R_base ho65) hb); have n1_ := Aside0.mk (Kd.R_lower (Kd.R_new' ho65 (Kd.R_lt (by (with_reducible repeat (first | apply Kd.R_alloc | apply Kd.R_drewN | apply Kd.R_drew)); exact HO200.out))) (below_size (by repeat (first | (with_reducible first | exact HB.out | apply below_alloc | apply pw_below_drewN | apply below_drew1) | exact HB.out)))); have n2_ := Aside0.mk (below_step (by repeat (first | (with_reducible first | exact HB.out | apply below_alloc | apply pw_below_drewN | apply below_drew1) | exact HB.out)) hb); clear HO200; clear HB; have HO200 := n0_; have HO203 := n1_; have HB := n2_; clear n0_ n1_ n2_; clear hb ho65; have hcv66 := own_string (P := Try.prog) Try.underlying38 Try.underlying5 Try.underlying9 (Kd.own_of_R HO203.out)) | ((with_reducible refine gate_callee (f := 24) rfl ?_); refine goesL_ (some 108) rfl rfl Try.func24 (by kernel_rfl) rfl #[.string ((((⟨#[91, 33]⟩ : ByteArray) ++ (strOfNums y198)) ++ x12_3) ++ (⟨#[93]⟩ : ByteArray)), .string (strOfNums y201)] rfl (by (try simp only [List.map_toArray, List.map_cons, List.map_nil]); first | done | rfl | (simp only [List.length_drop, List.length_take]; rfl)) ?_; (with_reducible refine (glob_Match.calls k3 ((((⟨#[91, 33]⟩ : ByteArray) ++ (strOfNums y198)) ++ x12_3) ++ (⟨#[93]⟩ : ByteArray)) (strOfNums y201) t204 _ ?side1 A33.out).mono ?_); (case side1 => first | exact hX | exact XW.below hX (by repeat (first | (with_reducible first | exact HB.out | apply below_alloc | apply pw_below_drewN | apply below_drew1) | exact HB.out))); rintro e w' ⟨rfl, ⟨nd, rfl⟩⟩; refine ⟨_, rfl, ?_⟩) | (go_at_call 24; (with_reducible refine (glob_Match.calls k3 ((((⟨#[91, 33]⟩ : ByteArray) ++ (strOfNums y198)) ++ x12_3) ++ (⟨#[93]⟩ : ByteArray)) (⟨#[]⟩ : ByteArray) true _ ?side1 A59.out).mono ?_); (case side1 => first | exact hX | exact XW.below hX (by repeat (first | (with_reducible first | exact HB.out | apply below_alloc | apply pw_below_drewN | apply below_drew1) | exact HB.out))); rintro e w' ⟨rfl, ⟨nd, rfl⟩⟩))
                                go_ret
                                exact ⟨by first | rfl | (simp [errW_none, errW_some] <;> rfl) | (simp [*, errW_none, errW_some] <;> rfl), by repeat (first | (with_reducible first | exact HB.out | apply below_alloc | apply pw_below_drewN | apply below_drew1) | exact HB.out)⟩
                              · replace c60 := Bool.eq_false_iff.mpr c60
                                subst c60
                                have H1 : (if (strOfNums y201).size + (strOfNums y201).size ≤ 9223372036854775807 then ((glob_Match.f k3 ((((⟨#[91, 33]⟩ : ByteArray) ++ (strOfNums y198)) ++ x12_3) ++ (⟨#[93]⟩ : ByteArray)) ((strOfNums y201) ++ (strOfNums y201))).bind fun t208 => (some (!t208))) else (none)) = some r := by rw [if_neg (show ¬ (false = true) by decide)] at H; exact H
                                clear H
                                have H := H1
                                clear H1
                                by_cases c67 : (strOfNums y201).size + (strOfNums y201).size ≤ 9223372036854775807
                                · rw [if_pos c67] at H
                                  have c67b0 := eq_true c67
                                  have c67b1 : decide ((strOfNums y201).size + (strOfNums y201).size ≤ 9223372036854775807) = true := decide_eq_true c67
                                  try have c67b2 : (9223372036854775807 < (strOfNums y201).size + (strOfNums y201).size) = False := eq_false (Nat.not_lt.2 c67)
                                  replace H := Option.bind_eq_some_iff.mp H
                                  obtain ⟨t208, A680, H⟩ := H
                                  replace H : (some (!t208)) = some r := H
                                  have A68 := Aside0.mk A680
                                  clear A680
                                  obtain rfl := Option.some.inj H
                                  go_wp2_with (first | ((with_reducible refine gate_dst (N := 97) rfl ?_); (try (refine gate_guard (by rfl) ?_; dsimp only)); refine Kd.R_lit (Kd.int .u8) _ 5 ?hg (N := 97) ?hd (xs := ([a1, 45, a2] : List Int)) (inner := [.int .u8 a1, .int .u8 45, .int .u8 a2]) (ok := fun _ => True) (okp := fun _ => True) ?hr ?hp (fun _ hk => hk) trivial (Below.refl _ _) (Nat.le_refl _) (by simp) ?_; (case hd => rfl); (case hg => rfl); (case hr => first | (go_simp; done) | (go_simp; rfl)); (case hp => exact (Reps.one (show Kd.M (Kd.int .u8) _ _ _ a1 [.int .u8 a1] from rfl) (Reps.one (show Kd.M (Kd.int .u8) _ _ _ 45 [.int .u8 45] from rfl) (Reps.one (show Kd.M (Kd.int .u8) _ _ _ a2 [.int .u8 a2] from rfl) (Reps.none _ _))))); intro v199 w69 ho70 hb hg_ hnew_; clear hg_ hnew_; (first | rw [← Ny198.out] at ho70 | (simp only [Int.reduceToNat] at ho70; rw [← Ny198.out] at ho70)); have n0_ := Aside0.mk (Kd.R_lower ho70 (below_size (by repeat (first | (with_reducible first | exact HB.out | apply below_alloc | apply pw_below_drewN | apply below_drew1) | exact HB.out)))); have n1_ := Aside0.mk (below_step (by repeat (first | (with_reducible first | exact HB.out | apply below_alloc | apply pw_below_drewN | apply below_drew1) | exact HB.out)) hb); clear HB; have HO200 := n0_; have HB := n1_; clear n0_ n1_; clear hb ho70; have hcv71 := own_string (P := Try.prog) Try.underlying38 Try.underlying5 Try.underlying9 (Kd.own_of_R HO200.out)) | ((with_reducible refine gate_dst (N := 104) rfl ?_); (try (refine gate_guard (by rfl) ?_; dsimp only)); refine Kd.R_lit (Kd.int .u8) _ 5 ?hg (N := 104) ?hd (xs := ([a4] : List Int)) (inner := [.int .u8 a4]) (ok := fun _ => True) (okp := fun _ => True) ?hr ?hp (fun _ hk => hk) trivial (Below.refl _ _) (Nat.le_refl _) (by simp) ?_; (case hd => rfl); (case hg => rfl); (case hr => first | (go_simp; done) | (go_simp; rfl)); (case hp => exact (Reps.one (show Kd.M (Kd.int .u8) _ _ _ a4 [.int .u8 a4] from rfl) (Reps.none _ _))); intro v202 w72 ho73 hb hg_ hnew_; clear hg_ hnew_; (first | rw [← Ny201.out] at ho73 | (simp only [Int.reduceToNat] at ho73; rw [← Ny201.out] at ho73)); have n0_ := Aside0.mk (Kd.R_elder' (by (with_reducible repeat (first | apply Kd.R_alloc | apply Kd.R_drewN | apply Kd.R_drew)); exact HO200.out) (Kd.R_base ho73) hb); have n1_ := Aside0.mk (Kd.R_lower (Kd.R_new' ho73 (Kd.R_lt (by (with_reducible repeat (first | apply Kd.R_alloc | apply Kd.R_drewN | apply Kd.R_drew)); exact HO200.out))) (below_size (by repeat (first | (with_reducible first | exact HB.out | apply below_alloc | apply pw_below_drewN | apply below_drew1) | exact HB.out)))); have n2_ := Aside0.mk (below_step (by repeat (first | (with_reducible first | exact HB.out | apply below_alloc | apply pw_below_drewN | apply below_drew1) | exact HB.out)) hb); clear HO200; clear HB; have HO200 := n0_; have HO203 := n1_; have HB := n2_; clear n0_ n1_ n2_; clear hb ho73; have hcv74 := own_string (P := Try.prog) Try.underlying38 Try.underlying5 Try.underlying9 (Kd.own_of_R HO203.out)) | ((with_reducible refine gate_callee (f := 24) rfl ?_); refine goesL_ (some 108) rfl rfl Try.func24 (by kernel_rfl) rfl #[.string ((((⟨#[91, 33]⟩ : ByteArray) ++ (strOfNums y198)) ++ x12_3) ++ (⟨#[93]⟩ : ByteArray)), .string (strOfNums y201)] rfl (by (try simp only [List.map_toArray, List.map_cons, List.map_nil]); first | done | rfl | (simp only [List.length_drop, List.length_take]; rfl)) ?_; (with_reducible refine (glob_Match.calls k3 ((((⟨#[91, 33]⟩ : ByteArray) ++ (strOfNums y198)) ++ x12_3) ++ (⟨#[93]⟩ : ByteArray)) (strOfNums y201) t204 _ ?side1 A33.out).mono ?_); (case side1 => first | exact hX | exact XW.below hX (by repeat (first | (with_reducible first | exact HB.out | apply below_alloc | apply pw_below_drewN | apply below_drew1) | exact HB.out))); rintro e w' ⟨rfl, ⟨nd, rfl⟩⟩; refine ⟨_, rfl, ?_⟩) | (go_at_call 24; (with_reducible refine (glob_Match.calls k3 ((((⟨#[91, 33]⟩ : ByteArray) ++ (strOfNums y198)) ++ x12_3) ++ (⟨#[93]⟩ : ByteArray)) (⟨#[]⟩ : ByteArray) false _ ?side1 A59.out).mono ?_); (case side1 => first | exact hX | exact XW.below hX (by repeat (first | (with_reducible first | exact HB.out | apply below_alloc | apply pw_below_drewN | apply below_drew1) | exact HB.out))); rintro e w' ⟨rfl, ⟨nd, rfl⟩⟩) | (go_at_call 24; (with_reducible refine (glob_Match.calls k3 ((((⟨#[91, 33]⟩ : ByteArray) ++ (strOfNums y198)) ++ x12_3) ++ (⟨#[93]⟩ : ByteArray)) ((strOfNums y201) ++ (strOfNums y201)) t208 _ ?side1 A68.out).mono ?_); (case side1 => first | exact hX | exact XW.below hX (by repeat (first | (with_reducible first | exact HB.out | apply below_alloc | apply pw_below_drewN | apply below_drew1) | exact HB.out))); rintro e w' ⟨rfl, ⟨nd, rfl⟩⟩))
                                  go_ret
                                  exact ⟨by first | rfl | (simp [errW_none, errW_some] <;> rfl) | (simp [*, errW_none, errW_some] <;> rfl), by repeat (first | (with_reducible first | exact HB.out | apply below_alloc | apply pw_below_drewN | apply below_drew1) | exact HB.out)⟩
                                · rw [if_neg c67] at H
                                  exact absurd H (by simp)
                            · rw [if_neg c58] at H
                              have c58b0 : (t204 == false) = false := by simpa using c58
                              (try (have c58b1 : decide (t204 = false) = false := by simpa using c58))
                              (try (have c58b2 : (t204 == false) = false := by simpa using c58))
                              (try (have c58b3 : ¬ (t204 = false) := by simpa using c58))
                              clear c58
                              obtain rfl := Option.some.inj H
                              go_wp2_with (first | ((with_reducible refine gate_dst (N := 97) rfl ?_); (try (refine gate_guard (by rfl) ?_; dsimp only)); refine Kd.R_lit (Kd.int .u8) _ 5 ?hg (N := 97) ?hd (xs := ([a1, 45, a2] : List Int)) (inner := [.int .u8 a1, .int .u8 45, .int .u8 a2]) (ok := fun _ => True) (okp := fun _ => True) ?hr ?hp (fun _ hk => hk) trivial (Below.refl _ _) (Nat.le_refl _) (by simp) ?_; (case hd => rfl); (case hg => rfl); (case hr => first | (go_simp; done) | (go_simp; rfl)); (case hp => exact (Reps.one (show Kd.M (Kd.int .u8) _ _ _ a1 [.int .u8 a1] from rfl) (Reps.one (show Kd.M (Kd.int .u8) _ _ _ 45 [.int .u8 45] from rfl) (Reps.one (show Kd.M (Kd.int .u8) _ _ _ a2 [.int .u8 a2] from rfl) (Reps.none _ _))))); intro v199 w75 ho76 hb hg_ hnew_; clear hg_ hnew_; (first | rw [← Ny198.out] at ho76 | (simp only [Int.reduceToNat] at ho76; rw [← Ny198.out] at ho76)); have n0_ := Aside0.mk (Kd.R_lower ho76 (below_size (by repeat (first | (with_reducible first | exact HB.out | apply below_alloc | apply pw_below_drewN | apply below_drew1) | exact HB.out)))); have n1_ := Aside0.mk (below_step (by repeat (first | (with_reducible first | exact HB.out | apply below_alloc | apply pw_below_drewN | apply below_drew1) | exact HB.out)) hb); clear HB; have HO200 := n0_; have HB := n1_; clear n0_ n1_; clear hb ho76; have hcv77 := own_string (P := Try.prog) Try.underlying38 Try.underlying5 Try.underlying9 (Kd.own_of_R HO200.out)) | ((with_reducible refine gate_dst (N := 104) rfl ?_); (try (refine gate_guard (by rfl) ?_; dsimp only)); refine Kd.R_lit (Kd.int .u8) _ 5 ?hg (N := 104) ?hd (xs := ([a4] : List Int)) (inner := [.int .u8 a4]) (ok := fun _ => True) (okp := fun _ => True) ?hr ?hp (fun _ hk => hk) trivial (Below.refl _ _) (Nat.le_refl _) (by simp) ?_; (case hd => rfl); (case hg => rfl); (case hr => first | (go_simp; done) | (go_simp; rfl)); (case hp => exact (Reps.one (show Kd.M (Kd.int .u8) _ _ _ a4 [.int .u8 a4] from rfl) (Reps.none _ _))); intro v202 w78 ho79 hb hg_ hnew_; clear hg_ hnew_; (first | rw [← Ny201.out] at ho79 | (simp only [Int.reduceToNat] at ho79; rw [← Ny201.out] at ho79)); have n0_ := Aside0.mk (Kd.R_elder' (by (with_reducible repeat (first | apply Kd.R_alloc | apply Kd.R_drewN | apply Kd.R_drew)); exact HO200.out) (Kd.R_base ho79) hb); have n1_ := Aside0.mk (Kd.R_lower (Kd.R_new' ho79 (Kd.R_lt (by (with_reducible repeat (first | apply Kd.R_alloc | apply Kd.R_drewN | apply Kd.R_drew)); exact HO200.out))) (below_size (by repeat (first | (with_reducible first | exact HB.out | apply below_alloc | apply pw_below_drewN | apply below_drew1) | exact HB.out)))); have n2_ := Aside0.mk (below_step (by repeat (first | (with_reducible first | exact HB.out | apply below_alloc | apply pw_below_drewN | apply below_drew1) | exact HB.out)) hb); clear HO200; clear HB; have HO200 := n0_; have HO203 := n1_; have HB := n2_; clear n0_ n1_ n2_; clear hb ho79; have hcv80 := own_string (P := Try.prog) Try.underlying38 Try.underlying5 Try.underlying9 (Kd.own_of_R HO203.out)) | ((with_reducible refine gate_callee (f := 24) rfl ?_); refine goesL_ (some 108) rfl rfl Try.func24 (by kernel_rfl) rfl #[.string ((((⟨#[91, 33]⟩ : ByteArray) ++ (strOfNums y198)) ++ x12_3) ++ (⟨#[93]⟩ : ByteArray)), .string (strOfNums y201)] rfl (by (try simp only [List.map_toArray, List.map_cons, List.map_nil]); first | done | rfl | (simp only [List.length_drop, List.length_take]; rfl)) ?_; (with_reducible refine (glob_Match.calls k3 ((((⟨#[91, 33]⟩ : ByteArray) ++ (strOfNums y198)) ++ x12_3) ++ (⟨#[93]⟩ : ByteArray)) (strOfNums y201) t204 _ ?side1 A33.out).mono ?_); (case side1 => first | exact hX | exact XW.below hX (by repeat (first | (with_reducible first | exact HB.out | apply below_alloc | apply pw_below_drewN | apply below_drew1) | exact HB.out))); rintro e w' ⟨rfl, ⟨nd, rfl⟩⟩; refine ⟨_, rfl, ?_⟩))
                              go_ret
                              exact ⟨by first | rfl | (simp [errW_none, errW_some] <;> rfl) | (simp [*, errW_none, errW_some] <;> rfl), by repeat (first | (with_reducible first | exact HB.out | apply below_alloc | apply pw_below_drewN | apply below_drew1) | exact HB.out)⟩
                        · rw [if_neg c32] at H
                          exact absurd H (by simp)
                      · rw [if_neg c31] at H
                        exact absurd H (by simp)
                    · rw [if_neg c30] at H
                      exact absurd H (by simp)
                  · replace c29 := Bool.eq_false_iff.mpr c29
                    subst c29
                    have H1 : ((some (([a1, 45, a2] : List Int) : List Int)).bind fun y209 => (if 1 + (strOfNums y209).size ≤ 9223372036854775807 then (if ((⟨#[91]⟩ : ByteArray) ++ (strOfNums y209)).size + x12_3.size ≤ 9223372036854775807 then (if (((⟨#[91]⟩ : ByteArray) ++ (strOfNums y209)) ++ x12_3).size + 1 ≤ 9223372036854775807 then ((some (([a4] : List Int) : List Int)).bind fun y212 => ((glob_Match.f k3 ((((⟨#[91]⟩ : ByteArray) ++ (strOfNums y209)) ++ x12_3) ++ (⟨#[93]⟩ : ByteArray)) (strOfNums y212)).bind fun t215 => (if (x13_3 != false) = true then (if (t215 == (a4 != 47)) = true then ((glob_Match.f k3 ((((⟨#[91]⟩ : ByteArray) ++ (strOfNums y209)) ++ x12_3) ++ (⟨#[93]⟩ : ByteArray)) (⟨#[]⟩ : ByteArray)).bind fun t216 => (if t216 = true then (some false) else (if (strOfNums y212).size + (strOfNums y212).size ≤ 9223372036854775807 then ((glob_Match.f k3 ((((⟨#[91]⟩ : ByteArray) ++ (strOfNums y209)) ++ x12_3) ++ (⟨#[93]⟩ : ByteArray)) ((strOfNums y212) ++ (strOfNums y212))).bind fun t217 => (some (!t217))) else (none)))) else (some false)) else (if (t215 == false) = true then ((glob_Match.f k3 ((((⟨#[91]⟩ : ByteArray) ++ (strOfNums y209)) ++ x12_3) ++ (⟨#[93]⟩ : ByteArray)) (⟨#[]⟩ : ByteArray)).bind fun t218 => (if t218 = true then (some false) else (if (strOfNums y212).size + (strOfNums y212).size ≤ 9223372036854775807 then ((glob_Match.f k3 ((((⟨#[91]⟩ : ByteArray) ++ (strOfNums y209)) ++ x12_3) ++ (⟨#[93]⟩ : ByteArray)) ((strOfNums y212) ++ (strOfNums y212))).bind fun t219 => (some (!t219))) else (none)))) else (some false))))) else (none)) else (none)) else (none))) = some r := by rw [if_neg (show ¬ (false = true) by decide)] at H; exact H
                    clear H
                    have H := H1
                    clear H1
                    obtain ⟨y209, hy209⟩ : ∃ y_ : List Int, y_ = (([a1, 45, a2] : List Int)) := ⟨_, rfl⟩
                    replace H : (if 1 + (strOfNums y209).size ≤ 9223372036854775807 then (if ((⟨#[91]⟩ : ByteArray) ++ (strOfNums y209)).size + x12_3.size ≤ 9223372036854775807 then (if (((⟨#[91]⟩ : ByteArray) ++ (strOfNums y209)) ++ x12_3).size + 1 ≤ 9223372036854775807 then ((some (([a4] : List Int) : List Int)).bind fun y212 => ((glob_Match.f k3 ((((⟨#[91]⟩ : ByteArray) ++ (strOfNums y209)) ++ x12_3) ++ (⟨#[93]⟩ : ByteArray)) (strOfNums y212)).bind fun t215 => (if (x13_3 != false) = true then (if (t215 == (a4 != 47)) = true then ((glob_Match.f k3 ((((⟨#[91]⟩ : ByteArray) ++ (strOfNums y209)) ++ x12_3) ++ (⟨#[93]⟩ : ByteArray)) (⟨#[]⟩ : ByteArray)).bind fun t216 => (if t216 = true then (some false) else (if (strOfNums y212).size + (strOfNums y212).size ≤ 9223372036854775807 then ((glob_Match.f k3 ((((⟨#[91]⟩ : ByteArray) ++ (strOfNums y209)) ++ x12_3) ++ (⟨#[93]⟩ : ByteArray)) ((strOfNums y212) ++ (strOfNums y212))).bind fun t217 => (some (!t217))) else (none)))) else (some false)) else (if (t215 == false) = true then ((glob_Match.f k3 ((((⟨#[91]⟩ : ByteArray) ++ (strOfNums y209)) ++ x12_3) ++ (⟨#[93]⟩ : ByteArray)) (⟨#[]⟩ : ByteArray)).bind fun t218 => (if t218 = true then (some false) else (if (strOfNums y212).size + (strOfNums y212).size ≤ 9223372036854775807 then ((glob_Match.f k3 ((((⟨#[91]⟩ : ByteArray) ++ (strOfNums y209)) ++ x12_3) ++ (⟨#[93]⟩ : ByteArray)) ((strOfNums y212) ++ (strOfNums y212))).bind fun t219 => (some (!t219))) else (none)))) else (some false))))) else (none)) else (none)) else (none)) = some r := by first | (rw [hy209]; with_reducible exact H) | (have H2_ := (Option.bind_some _ _).symm.trans H; rw [hy209]; with_reducible exact H2_) | (have H2_ := (Option.bind_some _ _).symm.trans H; with_reducible exact H2_) | with_reducible exact H | (rw [hy209]; exact H) | exact H
                    have Ny209 := Aside0.mk hy209
                    clear hy209
                    by_cases c81 : 1 + (strOfNums y209).size ≤ 9223372036854775807
                    · rw [if_pos c81] at H
                      have c81b0 := eq_true c81
                      have c81b1 : decide (1 + (strOfNums y209).size ≤ 9223372036854775807) = true := decide_eq_true c81
                      try have c81b2 : (9223372036854775807 < 1 + (strOfNums y209).size) = False := eq_false (Nat.not_lt.2 c81)
                      by_cases c82 : ((⟨#[91]⟩ : ByteArray) ++ (strOfNums y209)).size + x12_3.size ≤ 9223372036854775807
                      · rw [if_pos c82] at H
                        have c82b0 := eq_true c82
                        have c82b1 : decide (((⟨#[91]⟩ : ByteArray) ++ (strOfNums y209)).size + x12_3.size ≤ 9223372036854775807) = true := decide_eq_true c82
                        try (have c82b1n := c82b1; simp only [ByteArray.size_append, ba_size_lit, List.length_cons, List.length_nil, Nat.zero_add, Nat.reduceAdd, Int.natCast_add, Int.natCast_one, Int.cast_ofNat_Int] at c82b1n)
                        try have c82b2 : (9223372036854775807 < ((⟨#[91]⟩ : ByteArray) ++ (strOfNums y209)).size + x12_3.size) = False := eq_false (Nat.not_lt.2 c82)
                        try (have c82b3 := c82b2; simp only [ByteArray.size_append, ba_size_lit, List.length_cons, List.length_nil, Nat.zero_add, Nat.reduceAdd] at c82b3)
                        by_cases c83 : (((⟨#[91]⟩ : ByteArray) ++ (strOfNums y209)) ++ x12_3).size + 1 ≤ 9223372036854775807
                        · rw [if_pos c83] at H
                          have c83b0 := eq_true c83
                          have c83b1 : decide ((((⟨#[91]⟩ : ByteArray) ++ (strOfNums y209)) ++ x12_3).size + 1 ≤ 9223372036854775807) = true := decide_eq_true c83
                          try (have c83b1n := c83b1; simp only [ByteArray.size_append, ba_size_lit, List.length_cons, List.length_nil, Nat.zero_add, Nat.reduceAdd, Int.natCast_add, Int.natCast_one, Int.cast_ofNat_Int] at c83b1n)
                          try have c83b2 : (9223372036854775807 < (((⟨#[91]⟩ : ByteArray) ++ (strOfNums y209)) ++ x12_3).size + 1) = False := eq_false (Nat.not_lt.2 c83)
                          try (have c83b3 := c83b2; simp only [ByteArray.size_append, ba_size_lit, List.length_cons, List.length_nil, Nat.zero_add, Nat.reduceAdd] at c83b3)
                          obtain ⟨y212, hy212⟩ : ∃ y_ : List Int, y_ = (([a4] : List Int)) := ⟨_, rfl⟩
                          replace H : ((glob_Match.f k3 ((((⟨#[91]⟩ : ByteArray) ++ (strOfNums y209)) ++ x12_3) ++ (⟨#[93]⟩ : ByteArray)) (strOfNums y212)).bind fun t215 => (if (x13_3 != false) = true then (if (t215 == (a4 != 47)) = true then ((glob_Match.f k3 ((((⟨#[91]⟩ : ByteArray) ++ (strOfNums y209)) ++ x12_3) ++ (⟨#[93]⟩ : ByteArray)) (⟨#[]⟩ : ByteArray)).bind fun t216 => (if t216 = true then (some false) else (if (strOfNums y212).size + (strOfNums y212).size ≤ 9223372036854775807 then ((glob_Match.f k3 ((((⟨#[91]⟩ : ByteArray) ++ (strOfNums y209)) ++ x12_3) ++ (⟨#[93]⟩ : ByteArray)) ((strOfNums y212) ++ (strOfNums y212))).bind fun t217 => (some (!t217))) else (none)))) else (some false)) else (if (t215 == false) = true then ((glob_Match.f k3 ((((⟨#[91]⟩ : ByteArray) ++ (strOfNums y209)) ++ x12_3) ++ (⟨#[93]⟩ : ByteArray)) (⟨#[]⟩ : ByteArray)).bind fun t218 => (if t218 = true then (some false) else (if (strOfNums y212).size + (strOfNums y212).size ≤ 9223372036854775807 then ((glob_Match.f k3 ((((⟨#[91]⟩ : ByteArray) ++ (strOfNums y209)) ++ x12_3) ++ (⟨#[93]⟩ : ByteArray)) ((strOfNums y212) ++ (strOfNums y212))).bind fun t219 => (some (!t219))) else (none)))) else (some false)))) = some r := by first | (rw [hy212]; with_reducible exact H) | (have H2_ := (Option.bind_some _ _).symm.trans H; rw [hy212]; with_reducible exact H2_) | (have H2_ := (Option.bind_some _ _).symm.trans H; with_reducible exact H2_) | with_reducible exact H | (rw [hy212]; exact H) | exact H
                          have Ny212 := Aside0.mk hy212
                          clear hy212
                          replace H := Option.bind_eq_some_iff.mp H
                          obtain ⟨t215, A840, H⟩ := H
                          replace H : (if (x13_3 != false) = true then (if (t215 == (a4 != 47)) = true then ((glob_Match.f k3 ((((⟨#[91]⟩ : ByteArray) ++ (strOfNums y209)) ++ x12_3) ++ (⟨#[93]⟩ : ByteArray)) (⟨#[]⟩ : ByteArray)).bind fun t216 => (if t216 = true then (some false) else (if (strOfNums y212).size + (strOfNums y212).size ≤ 9223372036854775807 then ((glob_Match.f k3 ((((⟨#[91]⟩ : ByteArray) ++ (strOfNums y209)) ++ x12_3) ++ (⟨#[93]⟩ : ByteArray)) ((strOfNums y212) ++ (strOfNums y212))).bind fun t217 => (some (!t217))) else (none)))) else (some false)) else (if (t215 == false) = true then ((glob_Match.f k3 ((((⟨#[91]⟩ : ByteArray) ++ (strOfNums y209)) ++ x12_3) ++ (⟨#[93]⟩ : ByteArray)) (⟨#[]⟩ : ByteArray)).bind fun t218 => (if t218 = true then (some false) else (if (strOfNums y212).size + (strOfNums y212).size ≤ 9223372036854775807 then ((glob_Match.f k3 ((((⟨#[91]⟩ : ByteArray) ++ (strOfNums y209)) ++ x12_3) ++ (⟨#[93]⟩ : ByteArray)) ((strOfNums y212) ++ (strOfNums y212))).bind fun t219 => (some (!t219))) else (none)))) else (some false))) = some r := H
                          have A84 := Aside0.mk A840
                          clear A840
                          by_cases c85 : (x13_3 != false) = true
                          · rw [if_pos c85] at H
                            have c85b0 : (x13_3 != false) = true := c85
                            (try (have c85b1 : decide (x13_3 = false) = false := by simpa using c85))
                            (try (have c85b2 : (x13_3 == false) = false := by simpa using c85))
                            (try (have c85b3 : ¬ (x13_3 = false) := by simpa using c85))
                            clear c85
                            by_cases c86 : (t215 == (a4 != 47)) = true
                            · rw [if_pos c86] at H
                              have c86b0 : (t215 == (a4 != 47)) = true := c86
                              (try (have c86b1 : decide (t215 = (a4 != 47)) = true := by simpa using c86))
                              (try (have c86b2 : (t215 == (a4 != 47)) = true := by simpa using c86))
                              clear c86
                              replace H := Option.bind_eq_some_iff.mp H
                              obtain ⟨t216, A870, H⟩ := H
                              replace H : (if t216 = true then (some false) else (if (strOfNums y212).size + (strOfNums y212).size ≤ 9223372036854775807 then ((glob_Match.f k3 ((((⟨#[91]⟩ : ByteArray) ++ (strOfNums y209)) ++ x12_3) ++ (⟨#[93]⟩ : ByteArray)) ((strOfNums y212) ++ (strOfNums y212))).bind fun t217 => (some (!t217))) else (none))) = some r := H
                              have A87 := Aside0.mk A870
                              clear A870
                              by_cases c88 : t216 = true
                              · subst c88
                                have H1 : (some false) = some r := by rw [if_pos rfl] at H; exact H
                                clear H
                                have H := H1
                                clear H1
                                obtain rfl := Option.some.inj H
                                go_wp2_with (first | ((with_reducible refine gate_dst (N := 97) rfl ?_); (try (refine gate_guard (by rfl) ?_; dsimp only)); refine Kd.R_lit (Kd.int .u8) _ 5 ?hg (N := 97) ?hd (xs := ([a1, 45, a2] : List Int)) (inner := [.int .u8 a1, .int .u8 45, .int .u8 a2]) (ok := fun _ => True) (okp := fun _ => True) ?hr ?hp (fun _ hk => hk) trivial (Below.refl _ _) (Nat.le_refl _) (by simp) ?_; (case hd => rfl); (case hg => rfl); (case hr => first | (go_simp; done) | (go_simp; rfl)); (case hp => exact (Reps.one (show Kd.M (Kd.int .u8) _ _ _ a1 [.int .u8 a1] from rfl) (Reps.one (show Kd.M (Kd.int .u8) _ _ _ 45 [.int .u8 45] from rfl) (Reps.one (show Kd.M (Kd.int .u8) _ _ _ a2 [.int .u8 a2] from rfl) (Reps.none _ _))))); intro v210 w89 ho90 hb hg_ hnew_; clear hg_ hnew_; (first | rw [← Ny209.out] at ho90 | (simp only [Int.reduceToNat] at ho90; rw [← Ny209.out] at ho90)); have n0_ := Aside0.mk (Kd.R_lower ho90 (below_size (by repeat (first | (with_reducible first | exact HB.out | apply below_alloc | apply pw_below_drewN | apply below_drew1) | exact HB.out)))); have n1_ := Aside0.mk (below_step (by repeat (first | (with_reducible first | exact HB.out | apply below_alloc | apply pw_below_drewN | apply below_drew1) | exact HB.out)) hb); clear HB; have HO211 := n0_; have HB := n1_; clear n0_ n1_; clear hb ho90; have hcv91 := own_string (P := Try.prog) Try.underlying38 Try.underlying5 Try.underlying9 (Kd.own_of_R HO211.out)) | ((with_reducible refine gate_dst (N := 104) rfl ?_); (try (refine gate_guard (by rfl) ?_; dsimp only)); refine Kd.R_lit (Kd.int .u8) _ 5 ?hg (N := 104) ?hd (xs := ([a4] : List Int)) (inner := [.int .u8 a4]) (ok := fun _ => True) (okp := fun _ => True) ?hr ?hp (fun _ hk => hk) trivial (Below.refl _ _) (Nat.le_refl _) (by simp) ?_; (case hd => rfl); (case hg => rfl); (case hr => first | (go_simp; done) | (go_simp; rfl)); (case hp => exact (Reps.one (show Kd.M (Kd.int .u8) _ _ _ a4 [.int .u8 a4] from rfl) (Reps.none _ _))); intro v213 w92 ho93 hb hg_ hnew_; clear hg_ hnew_; (first | rw [← Ny212.out] at ho93 | (simp only [Int.reduceToNat] at ho93; rw [← Ny212.out] at ho93)); have n0_ := Aside0.mk (Kd.R_elder' (by (with_reducible repeat (first | apply Kd.R_alloc | apply Kd.R_drewN | apply Kd.R_drew)); exact HO211.out) (Kd.R_base ho93) hb); have n1_ := Aside0.mk (Kd.R_lower (Kd.R_new' ho93 (Kd.R_lt (by (with_reducible repeat (first | apply Kd.R_alloc | apply Kd.R_drewN | apply Kd.R_drew)); exact HO211.out))) (below_size (by repeat (first | (with_reducible first | exact HB.out | apply below_alloc | apply pw_below_drewN | apply below_drew1) | exact HB.out)))); have n2_ := Aside0.mk (below_step (by repeat (first | (with_reducible first | exact HB.out | apply below_alloc | apply pw_below_drewN | apply below_drew1) | exact HB.out)) hb); clear HO211; clear HB; have HO211 := n0_; have HO214 := n1_; have HB := n2_; clear n0_ n1_ n2_; clear hb ho93; have hcv94 := own_string (P := Try.prog) Try.underlying38 Try.underlying5 Try.underlying9 (Kd.own_of_R HO214.out)) | ((with_reducible refine gate_callee (f := 24) rfl ?_); refine goesL_ (some 108) rfl rfl Try.func24 (by kernel_rfl) rfl #[.string ((((⟨#[91]⟩ : ByteArray) ++ (strOfNums y209)) ++ x12_3) ++ (⟨#[93]⟩ : ByteArray)), .string (strOfNums y212)] rfl (by (try simp only [List.map_toArray, List.map_cons, List.map_nil]); first | done | rfl | (simp only [List.length_drop, List.length_take]; rfl)) ?_; (with_reducible refine (glob_Match.calls k3 ((((⟨#[91]⟩ : ByteArray) ++ (strOfNums y209)) ++ x12_3) ++ (⟨#[93]⟩ : ByteArray)) (strOfNums y212) t215 _ ?side1 A84.out).mono ?_); (case side1 => first | exact hX | exact XW.below hX (by repeat (first | (with_reducible first | exact HB.out | apply below_alloc | apply pw_below_drewN | apply below_drew1) | exact HB.out))); rintro e w' ⟨rfl, ⟨nd, rfl⟩⟩; refine ⟨_, rfl, ?_⟩) | (go_at_call 24; (with_reducible refine (glob_Match.calls k3 ((((⟨#[91]⟩ : ByteArray) ++ (strOfNums y209)) ++ x12_3) ++ (⟨#[93]⟩ : ByteArray)) (⟨#[]⟩ : ByteArray) true _ ?side1 A87.out).mono ?_); (case side1 => first | exact hX | exact XW.below hX (by repeat (first | (with_reducible first | exact HB.out | apply below_alloc | apply pw_below_drewN | apply below_drew1) | exact HB.out))); rintro e w' ⟨rfl, ⟨nd, rfl⟩⟩))
                                go_ret
                                exact ⟨by first | rfl | (simp [errW_none, errW_some] <;> rfl) | (simp [*, errW_none, errW_some] <;> rfl), by repeat (first | (with_reducible first | exact HB.out | apply below_alloc | apply pw_below_drewN | apply below_drew1) | exact HB.out)⟩
                              · replace c88 := Bool.eq_false_iff.mpr c88
                                subst c88
                                have H1 : (if (strOfNums y212).size + (strOfNums y212).size ≤ 9223372036854775807 then ((glob_Match.f k3 ((((⟨#[91]⟩ : ByteArray) ++ (strOfNums y209)) ++ x12_3) ++ (⟨#[93]⟩ : ByteArray)) ((strOfNums y212) ++ (strOfNums y212))).bind fun t217 => (some (!t217))) else (none)) = some r := by rw [if_neg (show ¬ (false = true) by decide)] at H; exact H
                                clear H
                                have H := H1
                                clear H1
                                by_cases c95 : (strOfNums y212).size + (strOfNums y212).size ≤ 9223372036854775807
                                · rw [if_pos c95] at H
                                  have c95b0 := eq_true c95
                                  have c95b1 : decide ((strOfNums y212).size + (strOfNums y212).size ≤ 9223372036854775807) = true := decide_eq_true c95
                                  try have c95b2 : (9223372036854775807 < (strOfNums y212).size + (strOfNums y212).size) = False := eq_false (Nat.not_lt.2 c95)
                                  replace H := Option.bind_eq_some_iff.mp H
                                  obtain ⟨t217, A960, H⟩ := H
                                  replace H : (some (!t217)) = some r := H
                                  have A96 := Aside0.mk A960
                                  clear A960
                                  obtain rfl := Option.some.inj H
                                  go_wp2_with (first | ((with_reducible refine gate_dst (N := 97) rfl ?_); (try (refine gate_guard (by rfl) ?_; dsimp only)); refine Kd.R_lit (Kd.int .u8) _ 5 ?hg (N := 97) ?hd (xs := ([a1, 45, a2] : List Int)) (inner := [.int .u8 a1, .int .u8 45, .int .u8 a2]) (ok := fun _ => True) (okp := fun _ => True) ?hr ?hp (fun _ hk => hk) trivial (Below.refl _ _) (Nat.le_refl _) (by simp) ?_; (case hd => rfl); (case hg => rfl); (case hr => first | (go_simp; done) | (go_simp; rfl)); (case hp => exact (Reps.one (show Kd.M (Kd.int .u8) _ _ _ a1 [.int .u8 a1] from rfl) (Reps.one (show Kd.M (Kd.int .u8) _ _ _ 45 [.int .u8 45] from rfl) (Reps.one (show Kd.M (Kd.int .u8) _ _ _ a2 [.int .u8 a2] from rfl) (Reps.none _ _))))); intro v210 w97 ho98 hb hg_ hnew_; clear hg_ hnew_; (first | rw [← Ny209.out] at ho98 | (simp only [Int.reduceToNat] at ho98; rw [← Ny209.out] at ho98)); have n0_ := Aside0.mk (Kd.R_lower ho98 (below_size (by repeat (first | (with_reducible first | exact HB.out | apply below_alloc | apply pw_below_drewN | apply below_drew1) | exact HB.out)))); have n1_ := Aside0.mk (below_step (by repeat (first | (with_reducible first | exact HB.out | apply below_alloc | apply pw_below_drewN | apply below_drew1) | exact HB.out)) hb); clear HB; have HO211 := n0_; have HB := n1_; clear n0_ n1_; clear hb ho98; have hcv99 := own_string (P := Try.prog) Try.underlying38 Try.underlying5 Try.underlying9 (Kd.own_of_R HO211.out)) | ((with_reducible refine gate_dst (N := 104) rfl ?_); (try (refine gate_guard (by rfl) ?_; dsimp only)); refine Kd.R_lit (Kd.int .u8) _ 5 ?hg (N := 104) ?hd (xs := ([a4] : List Int)) (inner := [.int .u8 a4]) (ok := fun _ => True) (okp := fun _ => True) ?hr ?hp (fun _ hk => hk) trivial (Below.refl _ _) (Nat.le_refl _) (by simp) ?_; (case hd => rfl); (case hg => rfl); (case hr => first | (go_simp; done) | (go_simp; rfl)); (case hp => exact (Reps.one (show Kd.M (Kd.int .u8) _ _ _ a4 [.int .u8 a4] from rfl) (Reps.none _ _))); intro v213 w100 ho101 hb hg_ hnew_; clear hg_ hnew_; (first | rw [← Ny212.out] at ho101 | (simp only [Int.reduceToNat] at ho101; rw [← Ny212.out] at ho101)); have n0_ := Aside0.mk (Kd.R_elder' (by (with_reducible repeat (first | apply Kd.R_alloc | apply Kd.R_drewN | apply Kd.R_drew)); exact HO211.out) (Kd.R_base ho101) hb); have n1_ := Aside0.mk (Kd.R_lower (Kd.R_new' ho101 (Kd.R_lt (by (with_reducible repeat (first | apply Kd.R_alloc | apply Kd.R_drewN | apply Kd.R_drew)); exact HO211.out))) (below_size (by repeat (first | (with_reducible first | exact HB.out | apply below_alloc | apply pw_below_drewN | apply below_drew1) | exact HB.out)))); have n2_ := Aside0.mk (below_step (by repeat (first | (with_reducible first | exact HB.out | apply below_alloc | apply pw_below_drewN | apply below_drew1) | exact HB.out)) hb); clear HO211; clear HB; have HO211 := n0_; have HO214 := n1_; have HB := n2_; clear n0_ n1_ n2_; clear hb ho101; have hcv102 := own_string (P := Try.prog) Try.underlying38 Try.underlying5 Try.underlying9 (Kd.own_of_R HO214.out)) | ((with_reducible refine gate_callee (f := 24) rfl ?_); refine goesL_ (some 108) rfl rfl Try.func24 (by kernel_rfl) rfl #[.string ((((⟨#[91]⟩ : ByteArray) ++ (strOfNums y209)) ++ x12_3) ++ (⟨#[93]⟩ : ByteArray)), .string (strOfNums y212)] rfl (by (try simp only [List.map_toArray, List.map_cons, List.map_nil]); first | done | rfl | (simp only [List.length_drop, List.length_take]; rfl)) ?_; (with_reducible refine (glob_Match.calls k3 ((((⟨#[91]⟩ : ByteArray) ++ (strOfNums y209)) ++ x12_3) ++ (⟨#[93]⟩ : ByteArray)) (strOfNums y212) t215 _ ?side1 A84.out).mono ?_); (case side1 => first | exact hX | exact XW.below hX (by repeat (first | (with_reducible first | exact HB.out | apply below_alloc | apply pw_below_drewN | apply below_drew1) | exact HB.out))); rintro e w' ⟨rfl, ⟨nd, rfl⟩⟩; refine ⟨_, rfl, ?_⟩) | (go_at_call 24; (with_reducible refine (glob_Match.calls k3 ((((⟨#[91]⟩ : ByteArray) ++ (strOfNums y209)) ++ x12_3) ++ (⟨#[93]⟩ : ByteArray)) (⟨#[]⟩ : ByteArray) false _ ?side1 A87.out).mono ?_); (case side1 => first | exact hX | exact XW.below hX (by repeat (first | (with_reducible first | exact HB.out | apply below_alloc | apply pw_below_drewN | apply below_drew1) | exact HB.out))); rintro e w' ⟨rfl, ⟨nd, rfl⟩⟩) | (go_at_call 24; (with_reducible refine (glob_Match.calls k3 ((((⟨#[91]⟩ : ByteArray) ++ (strOfNums y209)) ++ x12_3) ++ (⟨#[93]⟩ : ByteArray)) ((strOfNums y212) ++ (strOfNums y212)) t217 _ ?side1 A96.out).mono ?_); (case side1 => first | exact hX | exact XW.below hX (by repeat (first | (with_reducible first | exact HB.out | apply below_alloc | apply pw_below_drewN | apply below_drew1) | exact HB.out))); rintro e w' ⟨rfl, ⟨nd, rfl⟩⟩))
                                  go_ret
                                  exact ⟨by first | rfl | (simp [errW_none, errW_some] <;> rfl) | (simp [*, errW_none, errW_some] <;> rfl), by repeat (first | (with_reducible first | exact HB.out | apply below_alloc | apply pw_below_drewN | apply below_drew1) | exact HB.out)⟩
                                · rw [if_neg c95] at H
                                  exact absurd H (by simp)
                            · rw [if_neg c86] at H
                              have c86b0 : (t215 == (a4 != 47)) = false := by simpa using c86
                              (try (have c86b1 : decide (t215 = (a4 != 47)) = false := by simpa using c86))
                              (try (have c86b2 : (t215 == (a4 != 47)) = false := by simpa using c86))
                              (try (have c86b3 : ¬ (t215 = (a4 != 47)) := by simpa using c86))
                              clear c86
                              obtain rfl := Option.some.inj H
                              go_wp2_with (first | ((with_reducible refine gate_dst (N := 97) rfl ?_); (try (refine gate_guard (by rfl) ?_; dsimp only)); refine Kd.R_lit (Kd.int .u8) _ 5 ?hg (N := 97) ?hd (xs := ([a1, 45, a2] : List Int)) (inner := [.int .u8 a1, .int .u8 45, .int .u8 a2]) (ok := fun _ => True) (okp := fun _ => True) ?hr ?hp (fun _ hk => hk) trivial (Below.refl _ _) (Nat.le_refl _) (by simp) ?_; (case hd => rfl); (case hg => rfl); (case hr => first | (go_simp; done) | (go_simp; rfl)); (case hp => exact (Reps.one (show Kd.M (Kd.int .u8) _ _ _ a1 [.int .u8 a1] from rfl) (Reps.one (show Kd.M (Kd.int .u8) _ _ _ 45 [.int .u8 45] from rfl) (Reps.one (show Kd.M (Kd.int .u8) _ _ _ a2 [.int .u8 a2] from rfl) (Reps.none _ _))))); intro v210 w103 ho104 hb hg_ hnew_; clear hg_ hnew_; (first | rw [← Ny209.out] at ho104 | (simp only [Int.reduceToNat] at ho104; rw [← Ny209.out] at ho104)); have n0_ := Aside0.mk (Kd.R_lower ho104 (below_size (by repeat (first | (with_reducible first | exact HB.out | apply below_alloc | apply pw_below_drewN | apply below_drew1) | exact HB.out)))); have n1_ := Aside0.mk (below_step (by repeat (first | (with_reducible first | exact HB.out | apply below_alloc | apply pw_below_drewN | apply below_drew1) | exact HB.out)) hb); clear HB; have HO211 := n0_; have HB := n1_; clear n0_ n1_; clear hb ho104; have hcv105 := own_string (P := Try.prog) Try.underlying38 Try.underlying5 Try.underlying9 (Kd.own_of_R HO211.out)) | ((with_reducible refine gate_dst (N := 104) rfl ?_); (try (refine gate_guard (by rfl) ?_; dsimp only)); refine Kd.R_lit (Kd.int .u8) _ 5 ?hg (N := 104) ?hd (xs := ([a4] : List Int)) (inner := [.int .u8 a4]) (ok := fun _ => True) (okp := fun _ => True) ?hr ?hp (fun _ hk => hk) trivial (Below.refl _ _) (Nat.le_refl _) (by simp) ?_; (case hd => rfl); (case hg => rfl); (case hr => first | (go_simp; done) | (go_simp; rfl)); (case hp => exact (Reps.one (show Kd.M (Kd.int .u8) _ _ _ a4 [.int .u8 a4] from rfl) (Reps.none _ _))); intro v213 w106 ho107 hb hg_ hnew_; clear hg_ hnew_; (first | rw [← Ny212.out] at ho107 | (simp only [Int.reduceToNat] at ho107; rw [← Ny212.out] at ho107)); have n0_ := Aside0.mk (Kd.R_elder' (by (with_reducible repeat (first | apply Kd.R_alloc | apply Kd.R_drewN | apply Kd.R_drew)); exact HO211.out) (Kd.R_base ho107) hb); have n1_ := Aside0.mk (Kd.R_lower (Kd.R_new' ho107 (Kd.R_lt (by (with_reducible repeat (first | apply Kd.R_alloc | apply Kd.R_drewN | apply Kd.R_drew)); exact HO211.out))) (below_size (by repeat (first | (with_reducible first | exact HB.out | apply below_alloc | apply pw_below_drewN | apply below_drew1) | exact HB.out)))); have n2_ := Aside0.mk (below_step (by repeat (first | (with_reducible first | exact HB.out | apply below_alloc | apply pw_below_drewN | apply below_drew1) | exact HB.out)) hb); clear HO211; clear HB; have HO211 := n0_; have HO214 := n1_; have HB := n2_; clear n0_ n1_ n2_; clear hb ho107; have hcv108 := own_string (P := Try.prog) Try.underlying38 Try.underlying5 Try.underlying9 (Kd.own_of_R HO214.out)) | ((with_reducible refine gate_callee (f := 24) rfl ?_); refine goesL_ (some 108) rfl rfl Try.func24 (by kernel_rfl) rfl #[.string ((((⟨#[91]⟩ : ByteArray) ++ (strOfNums y209)) ++ x12_3) ++ (⟨#[93]⟩ : ByteArray)), .string (strOfNums y212)] rfl (by (try simp only [List.map_toArray, List.map_cons, List.map_nil]); first | done | rfl | (simp only [List.length_drop, List.length_take]; rfl)) ?_; (with_reducible refine (glob_Match.calls k3 ((((⟨#[91]⟩ : ByteArray) ++ (strOfNums y209)) ++ x12_3) ++ (⟨#[93]⟩ : ByteArray)) (strOfNums y212) t215 _ ?side1 A84.out).mono ?_); (case side1 => first | exact hX | exact XW.below hX (by repeat (first | (with_reducible first | exact HB.out | apply below_alloc | apply pw_below_drewN | apply below_drew1) | exact HB.out))); rintro e w' ⟨rfl, ⟨nd, rfl⟩⟩; refine ⟨_, rfl, ?_⟩))
                              go_ret
                              exact ⟨by first | rfl | (simp [errW_none, errW_some] <;> rfl) | (simp [*, errW_none, errW_some] <;> rfl), by repeat (first | (with_reducible first | exact HB.out | apply below_alloc | apply pw_below_drewN | apply below_drew1) | exact HB.out)⟩
                          · rw [if_neg c85] at H
                            have c85b0 : (x13_3 != false) = false := by simpa using c85
                            (try (have c85b1 : decide (x13_3 = false) = true := by simpa using c85))
                            (try (have c85b2 : (x13_3 == false) = true := by simpa using c85))
                            clear c85
                            by_cases c109 : (t215 == false) = true
                            · rw [if_pos c109] at H
                              have c109b0 : (t215 == false) = true := c109
                              (try (have c109b1 : decide (t215 = false) = true := by simpa using c109))
                              (try (have c109b2 : (t215 == false) = true := by simpa using c109))
                              clear c109
                              replace H := Option.bind_eq_some_iff.mp H
                              obtain ⟨t218, A1100, H⟩ := H
                              replace H : (if t218 = true then (some false) else (if (strOfNums y212).size + (strOfNums y212).size ≤ 9223372036854775807 then ((glob_Match.f k3 ((((⟨#[91]⟩ : ByteArray) ++ (strOfNums y209)) ++ x12_3) ++ (⟨#[93]⟩ : ByteArray)) ((strOfNums y212) ++ (strOfNums y212))).bind fun t219 => (some (!t219))) else (none))) = some r := H
                              have A110 := Aside0.mk A1100
                              clear A1100
                              by_cases c111 : t218 = true
                              · subst c111
                                have H1 : (some false) = some r := by rw [if_pos rfl] at H; exact H
                                clear H
                                have H := H1
                                clear H1
                                obtain rfl := Option.some.inj H
                                go_wp2_with (first | ((with_reducible refine gate_dst (N := 97) rfl ?_); (try (refine gate_guard (by rfl) ?_; dsimp only)); refine Kd.R_lit (Kd.int .u8) _ 5 ?hg (N := 97) ?hd (xs := ([a1, 45, a2] : List Int)) (inner := [.int .u8 a1, .int .u8 45, .int .u8 a2]) (ok := fun _ => True) (okp := fun _ => True) ?hr ?hp (fun _ hk => hk) trivial (Below.refl _ _) (Nat.le_refl _) (by simp) ?_; (case hd => rfl); (case hg => rfl); (case hr => first | (go_simp; done) | (go_simp; rfl)); (case hp => exact (Reps.one (show Kd.M (Kd.int .u8) _ _ _ a1 [.int .u8 a1] from rfl) (Reps.one (show Kd.M (Kd.int .u8) _ _ _ 45 [.int .u8 45] from rfl) (Reps.one (show Kd.M (Kd.int .u8) _ _ _ a2 [.int .u8 a2] from rfl) (Reps.none _ _))))); intro v210 w112 ho113 hb hg_ hnew_; clear hg_ hnew_; (first | rw [← Ny209.out] at ho113 | (simp only [Int.reduceToNat] at ho113; rw [← Ny209.out] at ho113)); have n0_ := Aside0.mk (Kd.R_lower ho113 (below_size (by repeat (first | (with_reducible first | exact HB.out | apply below_alloc | apply pw_below_drewN | apply below_drew1) | exact HB.out)))); have n1_ := Aside0.mk (below_step (by repeat (first | (with_reducible first | exact HB.out | apply below_alloc | apply pw_below_drewN | apply below_drew1) | exact HB.out)) hb); clear HB; have HO211 := n0_; have HB := n1_; clear n0_ n1_; clear hb ho113; have hcv114 := own_string (P := Try.prog) Try.underlying38 Try.underlying5 Try.underlying9 (Kd.own_of_R HO211.out)) | ((with_reducible refine gate_dst (N := 104) rfl ?_); (try (refine gate_guard (by rfl) ?_; dsimp only)); refine Kd.R_lit (Kd.int .u8) _ 5 ?hg (N := 104) ?hd (xs := ([a4] : List Int)) (inner := [.int .u8 a4]) (ok := fun _ => True) (okp := fun _ => True) ?hr ?hp (fun _ hk => hk) trivial (Below.refl _ _) (Nat.le_refl _) (by simp) ?_; (case hd => rfl); (case hg => rfl); (case hr => first | (go_simp; done) | (go_simp; rfl)); (case hp => exact (Reps.one (show Kd.M (Kd.int .u8) _ _ _ a4 [.int .u8 a4] from rfl) (Reps.none _ _))); intro v213 w115 ho116 hb hg_ hnew_; clear hg_ hnew_; (first | rw [← Ny212.out] at ho116 | (simp only [Int.reduceToNat] at ho116; rw [← Ny212.out] at ho116)); have n0_ := Aside0.mk (Kd.R_elder' (by (with_reducible repeat (first | apply Kd.R_alloc | apply Kd.R_drewN | apply Kd.R_drew)); exact HO211.out) (Kd.R_base ho116) hb); have n1_ := Aside0.mk (Kd.R_lower (Kd.R_new' ho116 (Kd.R_lt (by (with_reducible repeat (first | apply Kd.R_alloc | apply Kd.R_drewN | apply Kd.R_drew)); exact HO211.out))) (below_size (by repeat (first | (with_reducible first | exact HB.out | apply below_alloc | apply pw_below_drewN | apply below_drew1) | exact HB.out)))); have n2_ := Aside0.mk (below_step (by repeat (first | (with_reducible first | exact HB.out | apply below_alloc | apply pw_below_drewN | apply below_drew1) | exact HB.out)) hb); clear HO211; clear HB; have HO211 := n0_; have HO214 := n1_; have HB := n2_; clear n0_ n1_ n2_; clear hb ho116; have hcv117 := own_string (P := Try.prog) Try.underlying38 Try.underlying5 Try.underlying9 (Kd.own_of_R HO214.out)) | ((with_reducible refine gate_callee (f := 24) rfl ?_); refine goesL_ (some 108) rfl rfl Try.func24 (by kernel_rfl) rfl #[.string ((((⟨#[91]⟩ : ByteArray) ++ (strOfNums y209)) ++ x12_3) ++ (⟨#[93]⟩ : ByteArray)), .string (strOfNums y212)] rfl (by (try simp only [List.map_toArray, List.map_cons, List.map_nil]); first | done | rfl | (simp only [List.length_drop, List.length_take]; rfl)) ?_; (with_reducible refine (glob_Match.calls k3 ((((⟨#[91]⟩ : ByteArray) ++ (strOfNums y209)) ++ x12_3) ++ (⟨#[93]⟩ : ByteArray)) (strOfNums y212) t215 _ ?side1 A84.out).mono ?_); (case side1 => first | exact hX | exact XW.below hX (by repeat (first | (with_reducible first | exact HB.out | apply below_alloc | apply pw_below_drewN | apply below_drew1) | exact HB.out))); rintro e w' ⟨rfl, ⟨nd, rfl⟩⟩; refine ⟨_, rfl, ?_⟩) | (go_at_call 24; (with_reducible refine (glob_Match.calls k3 ((((⟨#[91]⟩ : ByteArray) ++ (strOfNums y209)) ++ x12_3) ++ (⟨#[93]⟩ : ByteArray)) (⟨#[]⟩ : ByteArray) true _ ?side1 A110.out).mono ?_); (case side1 => first | exact hX | exact XW.below hX (by repeat (first | (with_reducible first | exact HB.out | apply below_alloc | apply pw_below_drewN | apply below_drew1) | exact HB.out))); rintro e w' ⟨rfl, ⟨nd, rfl⟩⟩))
                                go_ret
                                exact ⟨by first | rfl | (simp [errW_none, errW_some] <;> rfl) | (simp [*, errW_none, errW_some] <;> rfl), by repeat (first | (with_reducible first | exact HB.out | apply below_alloc | apply pw_below_drewN | apply below_drew1) | exact HB.out)⟩
                              · replace c111 := Bool.eq_false_iff.mpr c111
                                subst c111
                                have H1 : (if (strOfNums y212).size + (strOfNums y212).size ≤ 9223372036854775807 then ((glob_Match.f k3 ((((⟨#[91]⟩ : ByteArray) ++ (strOfNums y209)) ++ x12_3) ++ (⟨#[93]⟩ : ByteArray)) ((strOfNums y212) ++ (strOfNums y212))).bind fun t219 => (some (!t219))) else (none)) = some r := by rw [if_neg (show ¬ (false = true) by decide)] at H; exact H
                                clear H
                                have H := H1
                                clear H1
                                by_cases c118 : (strOfNums y212).size + (strOfNums y212).size ≤ 9223372036854775807
                                · rw [if_pos c118] at H
                                  have c118b0 := eq_true c118
                                  have c118b1 : decide ((strOfNums y212).size + (strOfNums y212).size ≤ 9223372036854775807) = true := decide_eq_true c118
                                  try have c118b2 : (9223372036854775807 < (strOfNums y212).size + (strOfNums y212).size) = False := eq_false (Nat.not_lt.2 c118)
                                  replace H := Option.bind_eq_some_iff.mp H
                                  obtain ⟨t219, A1190, H⟩ := H
                                  replace H : (some (!t219)) = some r := H
                                  have A119 := Aside0.mk A1190
                                  clear A1190
                                  obtain rfl := Option.some.inj H
                                  go_wp2_with (first | ((with_reducible refine gate_dst (N := 97) rfl ?_); (try (refine gate_guard (by rfl) ?_; dsimp only)); refine Kd.R_lit (Kd.int .u8) _ 5 ?hg (N := 97) ?hd (xs := ([a1, 45, a2] : List Int)) (inner := [.int .u8 a1, .int .u8 45, .int .u8 a2]) (ok := fun _ => True) (okp := fun _ => True) ?hr ?hp (fun _ hk => hk) trivial (Below.refl _ _) (Nat.le_refl _) (by simp) ?_; (case hd => rfl); (case hg => rfl); (case hr => first | (go_simp; done) | (go_simp; rfl)); (case hp => exact (Reps.one (show Kd.M (Kd.int .u8) _ _ _ a1 [.int .u8 a1] from rfl) (Reps.one (show Kd.M (Kd.int .u8) _ _ _ 45 [.int .u8 45] from rfl) (Reps.one (show Kd.M (Kd.int .u8) _ _ _ a2 [.int .u8 a2] from rfl) (Reps.none _ _))))); intro v210 w120 ho121 hb hg_ hnew_; clear hg_ hnew_; (first | rw [← Ny209.out] at ho121 | (simp only [Int.reduceToNat] at ho121; rw [← Ny209.out] at ho121)); have n0_ := Aside0.mk (Kd.R_lower ho121 (below_size (by repeat (first | (with_reducible first | exact HB.out | apply below_alloc | apply pw_below_drewN | apply below_drew1) | exact HB.out)))); have n1_ := Aside0.mk (below_step (by repeat (first | (with_reducible first | exact HB.out | apply below_alloc | apply pw_below_drewN | apply below_drew1) | exact HB.out)) hb); clear HB; have HO211 := n0_; have HB := n1_; clear n0_ n1_; clear hb ho121; have hcv122 := own_string (P := Try.prog) Try.underlying38 Try.underlying5 Try.underlying9 (Kd.own_of_R HO211.out)) | ((with_reducible refine gate_dst (N := 104) rfl ?_); (try (refine gate_guard (by rfl) ?_; dsimp only)); refine Kd.R_lit (Kd.int .u8) _ 5 ?hg (N := 104) ?hd (xs := ([a4] : List Int)) (inner := [.int .u8 a4]) (ok := fun _ => True) (okp := fun _ => True) ?hr ?hp (fun _ hk => hk) trivial (Below.refl _ _) (Nat.le_refl _) (by simp) ?_; (case hd => rfl); (case hg => rfl); (case hr => first | (go_simp; done) | (go_simp; rfl)); (case hp => exact (Reps.one (show Kd.M (Kd.int .u8) _ _ _ a4 [.int .u8 a4] from rfl) (Reps.none _ _))); intro v213 w123 ho124 hb hg_ hnew_; clear hg_ hnew_; (first | rw [← Ny212.out] at ho124 | (simp only [Int.reduceToNat] at ho124; rw [← Ny212.out] at ho124)); have n0_ := Aside0.mk (Kd.R_elder' (by (with_reducible repeat (first | apply Kd.R_alloc | apply Kd.R_drewN | apply Kd.R_drew)); exact HO211.out) (Kd.R_base ho124) hb); have n1_ := Aside0.mk (Kd.R_lower (Kd.R_new' ho124 (Kd.R_lt (by (with_reducible repeat (first | apply Kd.R_alloc | apply Kd.R_drewN | apply Kd.R_drew)); exact HO211.out))) (below_size (by repeat (first | (with_reducible first | exact HB.out | apply below_alloc | apply pw_below_drewN | apply below_drew1) | exact HB.out)))); have n2_ := Aside0.mk (below_step (by repeat (first | (with_reducible first | exact HB.out | apply below_alloc | apply pw_below_drewN | apply below_drew1) | exact HB.out)) hb); clear HO211; clear HB; have HO211 := n0_; have HO214 := n1_; have HB := n2_; clear n0_ n1_ n2_; clear hb ho124; have hcv125 := own_string (P := Try.prog) Try.underlying38 Try.underlying5 Try.underlying9 (Kd.own_of_R HO214.out)) | ((with_reducible refine gate_callee (f := 24) rfl ?_); refine goesL_ (some 108) rfl rfl Try.func24 (by kernel_rfl) rfl #[.string ((((⟨#[91]⟩ : ByteArray) ++ (strOfNums y209)) ++ x12_3) ++ (⟨#[93]⟩ : ByteArray)), .string (strOfNums y212)] rfl (by (try simp only [List.map_toArray, List.map_cons, List.map_nil]); first | done | rfl | (simp only [List.length_drop, List.length_take]; rfl)) ?_; (with_reducible refine (glob_Match.calls k3 ((((⟨#[91]⟩ : ByteArray) ++ (strOfNums y209)) ++ x12_3) ++ (⟨#[93]⟩ : ByteArray)) (strOfNums y212) t215 _ ?side1 A84.out).mono ?_); (case side1 => first | exact hX | exact XW.below hX (by repeat (first | (with_reducible first | exact HB.out | apply below_alloc | apply pw_below_drewN | apply below_drew1) | exact HB.out))); rintro e w' ⟨rfl, ⟨nd, rfl⟩⟩; refine ⟨_, rfl, ?_⟩) | (go_at_call 24; (with_reducible refine (glob_Match.calls k3 ((((⟨#[91]⟩ : ByteArray) ++ (strOfNums y209)) ++ x12_3) ++ (⟨#[93]⟩ : ByteArray)) (⟨#[]⟩ : ByteArray) false _ ?side1 A110.out).mono ?_); (case side1 => first | exact hX | exact XW.below hX (by repeat (first | (with_reducible first | exact HB.out | apply below_alloc | apply pw_below_drewN | apply below_drew1) | exact HB.out))); rintro e w' ⟨rfl, ⟨nd, rfl⟩⟩) | (go_at_call 24; (with_reducible refine (glob_Match.calls k3 ((((⟨#[91]⟩ : ByteArray) ++ (strOfNums y209)) ++ x12_3) ++ (⟨#[93]⟩ : ByteArray)) ((strOfNums y212) ++ (strOfNums y212)) t219 _ ?side1 A119.out).mono ?_); (case side1 => first | exact hX | exact XW.below hX (by repeat (first | (with_reducible first | exact HB.out | apply below_alloc | apply pw_below_drewN | apply below_drew1) | exact HB.out))); rintro e w' ⟨rfl, ⟨nd, rfl⟩⟩))
                                  go_ret
                                  exact ⟨by first | rfl | (simp [errW_none, errW_some] <;> rfl) | (simp [*, errW_none, errW_some] <;> rfl), by repeat (first | (with_reducible first | exact HB.out | apply below_alloc | apply pw_below_drewN | apply below_drew1) | exact HB.out)⟩
                                · rw [if_neg c118] at H
                                  exact absurd H (by simp)
                            · rw [if_neg c109] at H
                              have c109b0 : (t215 == false) = false := by simpa using c109
                              (try (have c109b1 : decide (t215 = false) = false := by simpa using c109))
                              (try (have c109b2 : (t215 == false) = false := by simpa using c109))
                              (try (have c109b3 : ¬ (t215 = false) := by simpa using c109))
                              clear c109
                              obtain rfl := Option.some.inj H
                              go_wp2_with (first | ((with_reducible refine gate_dst (N := 97) rfl ?_); (try (refine gate_guard (by rfl) ?_; dsimp only)); refine Kd.R_lit (Kd.int .u8) _ 5 ?hg (N := 97) ?hd (xs := ([a1, 45, a2] : List Int)) (inner := [.int .u8 a1, .int .u8 45, .int .u8 a2]) (ok := fun _ => True) (okp := fun _ => True) ?hr ?hp (fun _ hk => hk) trivial (Below.refl _ _) (Nat.le_refl _) (by simp) ?_; (case hd => rfl); (case hg => rfl); (case hr => first | (go_simp; done) | (go_simp; rfl)); (case hp => exact (Reps.one (show Kd.M (Kd.int .u8) _ _ _ a1 [.int .u8 a1] from rfl) (Reps.one (show Kd.M (Kd.int .u8) _ _ _ 45 [.int .u8 45] from rfl) (Reps.one (show Kd.M (Kd.int .u8) _ _ _ a2 [.int .u8 a2] from rfl) (Reps.none _ _))))); intro v210 w126 ho127 hb hg_ hnew_; clear hg_ hnew_; (first | rw [← Ny209.out] at ho127 | (simp only [Int.reduceToNat] at ho127; rw [← Ny209.out] at ho127)); have n0_ := Aside0.mk (Kd.R_lower ho127 (below_size (by repeat (first | (with_reducible first | exact HB.out | apply below_alloc | apply pw_below_drewN | apply below_drew1) | exact HB.out)))); have n1_ := Aside0.mk (below_step (by repeat (first | (with_reducible first | exact HB.out | apply below_alloc | apply pw_below_drewN | apply below_drew1) | exact HB.out)) hb); clear HB; have HO211 := n0_; have HB := n1_; clear n0_ n1_; clear hb ho127; have hcv128 := own_string (P := Try.prog) Try.underlying38 Try.underlying5 Try.underlying9 (Kd.own_of_R HO211.out)) | ((with_reducible refine gate_dst (N := 104) rfl ?_); (try (refine gate_guard (by rfl) ?_; dsimp only)); refine Kd.R_lit (Kd.int .u8) _ 5 ?hg (N := 104) ?hd (xs := ([a4] : List Int)) (inner := [.int .u8 a4]) (ok := fun _ => True) (okp := fun _ => True) ?hr ?hp (fun _ hk => hk) trivial (Below.refl _ _) (Nat.le_refl _) (by simp) ?_; (case hd => rfl); (case hg => rfl); (case hr => first | (go_simp; done) | (go_simp; rfl)); (case hp => exact (Reps.one (show Kd.M (Kd.int .u8) _ _ _ a4 [.int .u8 a4] from rfl) (Reps.none _ _))); intro v213 w129 ho130 hb hg_ hnew_; clear hg_ hnew_; (first | rw [← Ny212.out] at ho130 | (simp only [Int.reduceToNat] at ho130; rw [← Ny212.out] at ho130)); have n0_ := Aside0.mk (Kd.R_elder' (by (with_reducible repeat (first | apply Kd.R_alloc | apply Kd.R_drewN | apply Kd.R_drew)); exact HO211.out) (Kd.R_base ho130) hb); have n1_ := Aside0.mk (Kd.R_lower (Kd.R_new' ho130 (Kd.R_lt (by (with_reducible repeat (first | apply Kd.R_alloc | apply Kd.R_drewN | apply Kd.R_drew)); exact HO211.out))) (below_size (by repeat (first | (with_reducible first | exact HB.out | apply below_alloc | apply pw_below_drewN | apply below_drew1) | exact HB.out)))); have n2_ := Aside0.mk (below_step (by repeat (first | (with_reducible first | exact HB.out | apply below_alloc | apply pw_below_drewN | apply below_drew1) | exact HB.out)) hb); clear HO211; clear HB; have HO211 := n0_; have HO214 := n1_; have HB := n2_; clear n0_ n1_ n2_; clear hb ho130; have hcv131 := own_string (P := Try.prog) Try.underlying38 Try.underlying5 Try.underlying9 (Kd.own_of_R HO214.out)) | ((with_reducible refine gate_callee (f := 24) rfl ?_); refine goesL_ (some 108) rfl rfl Try.func24 (by kernel_rfl) rfl #[.string ((((⟨#[91]⟩ : ByteArray) ++ (strOfNums y209)) ++ x12_3) ++ (⟨#[93]⟩ : ByteArray)), .string (strOfNums y212)] rfl (by (try simp only [List.map_toArray, List.map_cons, List.map_nil]); first | done | rfl | (simp only [List.length_drop, List.length_take]; rfl)) ?_; (with_reducible refine (glob_Match.calls k3 ((((⟨#[91]⟩ : ByteArray) ++ (strOfNums y209)) ++ x12_3) ++ (⟨#[93]⟩ : ByteArray)) (strOfNums y212) t215 _ ?side1 A84.out).mono ?_); (case side1 => first | exact hX | exact XW.below hX (by repeat (first | (with_reducible first | exact HB.out | apply below_alloc | apply pw_below_drewN | apply below_drew1) | exact HB.out))); rintro e w' ⟨rfl, ⟨nd, rfl⟩⟩; refine ⟨_, rfl, ?_⟩))
                              go_ret
                              exact ⟨by first | rfl | (simp [errW_none, errW_some] <;> rfl) | (simp [*, errW_none, errW_some] <;> rfl), by repeat (first | (with_reducible first | exact HB.out | apply below_alloc | apply pw_below_drewN | apply below_drew1) | exact HB.out)⟩
                        · rw [if_neg c83] at H
                          exact absurd H (by simp)
                      · rw [if_neg c82] at H
                        exact absurd H (by simp)
                    · rw [if_neg c81] at H
                      exact absurd H (by simp)

/-- THE ONE PURE STATEMENT of patchworklaw5_GlobSets: yours. -/
def patchworklaw5_GlobSets.Pure : Prop := ∀ (a0 : ByteArray) (a1 : Int) (a2 : Int) (a3 : Bool) (a4 : Int), a0.size ≤ 140737488351232 → (Lit.int .u8 a1).wf = true → (Lit.int .u8 a2).wf = true → (Lit.int .u8 a4).wf = true → ∃ k, patchworklaw5_GlobSets.f k a0 a1 a2 a3 a4 = some true
theorem patchworklaw5_GlobSets.walk (P : patchworklaw5_GlobSets.Pure) (a0 : ByteArray) (a1 : Int) (a2 : Int) (a3 : Bool) (a4 : Int) (w : World) (w0 : a0.size ≤ 140737488351232) (w1 : (Lit.int .u8 a1).wf = true) (w2 : (Lit.int .u8 a2).wf = true) (w4 : (Lit.int .u8 a4).wf = true) (hX : XW w) :
    Calls Try.prog 9 #[.string a0, .int .u8 a1, .int .u8 a2, .bool a3, .int .u8 a4] w fun e w' => e = .returned (.bool true) ∧ Below w.heap.size w w' := by
  obtain ⟨k, h⟩ := P a0 a1 a2 a3 a4 w0 w1 w2 w4
  refine (patchworklaw5_GlobSets.calls k a0 a1 a2 a3 a4 true w hX h).mono ?_
  rintro e w' ⟨rfl, hd⟩
  exact ⟨rfl, hd⟩

end Go.Proofs.Ytahfoeichmfloaa.Gl
