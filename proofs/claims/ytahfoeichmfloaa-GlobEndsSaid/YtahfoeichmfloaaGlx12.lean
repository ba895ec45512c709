/- Functions of the given program in plain Lean, each with the proof that its call answers so; no condition. Written by a program of this session's own (a turned copy of the kit's printing program). -/
import Derived.Test.YtahfoeichmfloaaGlx0
import Derived.Test.YtahfoeichmfloaaGlx3
namespace Go.Proofs.Ytahfoeichmfloaa.Gl
open Go.RowKit Go.Proofs.YtahfoeichmfloaaW.PrintWords Go.Proofs.YtahfoeichmfloaaW.PrintLast Go.Proofs.YtahfoeichmfloaaW.PrintMore
attribute [local go_sem] max2_int min2_int max_two min_two max_three min_three max_four min_four   -- for this text's walks alone
set_option linter.unusedVariables false
set_option linter.unusedSimpArgs false

/-! ### patchworklaw5_GlobEnds: function 11 -/
mutual
def patchworklaw5_GlobEnds.j0 : Nat → ByteArray → ByteArray → Bool → Bool → Option (Bool)
  | 0, _, _, _, _ => none
  | k + 1, x0, x1, x5, x24 => if x24 = true then (some x5) else (patchworklaw5_GlobEnds.l0 k x0 x1 (⟨#[]⟩ : ByteArray) 0)
def patchworklaw5_GlobEnds.l0 : Nat → ByteArray → ByteArray → ByteArray → Int → Option (Bool)
  | 0, _, _, _, _ => none
  | k + 1, x0, x1, x6, x7 => if x7 < (x0.size : Int) then (if x6.size + 1 ≤ 9223372036854775807 then (if 0 ≤ x7 then (if x7 ≤ (wrap64 (x7 + 1)) then (if (wrap64 (x7 + 1)) ≤ (x0.size : Int) then (if (x6 ++ (⟨#[92]⟩ : ByteArray)).size + (x0.extract (x7 : Int).toNat ((wrap64 (x7 + 1)) : Int).toNat).size ≤ 9223372036854775807 then (patchworklaw5_GlobEnds.l0 k x0 x1 ((x6 ++ (⟨#[92]⟩ : ByteArray)) ++ (x0.extract (x7 : Int).toNat ((wrap64 (x7 + 1)) : Int).toNat)) (wrap64 (x7 + 1))) else (none)) else (none)) else (none)) else (none)) else (none)) else (if (wrap64 ((x1.size : Int) - (x0.size : Int))) ≥ 0 then (if 0 ≤ (wrap64 ((x1.size : Int) - (x0.size : Int))) then (if (wrap64 ((x1.size : Int) - (x0.size : Int))) ≤ (x1.size : Int) then (patchworklaw5_GlobEnds.j2 k x0 x1 x6 (wrap64 ((x1.size : Int) - (x0.size : Int))) ((x1.extract ((wrap64 ((x1.size : Int) - (x0.size : Int))) : Int).toNat x1.size).toList == x0.toList)) else (none)) else (none)) else (patchworklaw5_GlobEnds.j2 k x0 x1 x6 (wrap64 ((x1.size : Int) - (x0.size : Int))) false))
def patchworklaw5_GlobEnds.j2 : Nat → ByteArray → ByteArray → ByteArray → Int → Bool → Option (Bool)
  | 0, _, _, _, _, _ => none
  | k + 1, x0, x1, x6, x8, x9 => if x8 ≥ 0 then (if 0 ≤ (x0.size : Int) then (if (x0.size : Int) ≤ (x1.size : Int) then (patchworklaw5_GlobEnds.j3 k x0 x1 x6 x8 x9 ((x1.extract 0 ((x0.size : Int) : Int).toNat).toList == x0.toList)) else (none)) else (none)) else (patchworklaw5_GlobEnds.j3 k x0 x1 x6 x8 x9 false)
def patchworklaw5_GlobEnds.j3 : Nat → ByteArray → ByteArray → ByteArray → Int → Bool → Bool → Option (Bool)
  | 0, _, _, _, _, _, _ => none
  | k + 1, x0, x1, x6, x8, x9, x10 => patchworklaw5_GlobEnds.l1 k x0 x1 x6 x8 x9 x10 0
def patchworklaw5_GlobEnds.l1 : Nat → ByteArray → ByteArray → ByteArray → Int → Bool → Bool → Int → Option (Bool)
  | 0, _, _, _, _, _, _, _ => none
  | k + 1, x0, x1, x6, x8, x9, x10, x11 => if x11 < x8 then (if x9 = true then (if 0 ≤ x11 then (if x11 < (x1.size : Int) then (if x10 = true then (if 0 ≤ (wrap64 ((x0.size : Int) + x11)) then (if (wrap64 ((x0.size : Int) + x11)) < (x1.size : Int) then (patchworklaw5_GlobEnds.l1 k x0 x1 x6 x8 ((bt x1 x11) != 47) ((bt x1 (wrap64 ((x0.size : Int) + x11))) != 47) (wrap64 (x11 + 1))) else (none)) else (none)) else (patchworklaw5_GlobEnds.l1 k x0 x1 x6 x8 ((bt x1 x11) != 47) false (wrap64 (x11 + 1)))) else (none)) else (none)) else (if x10 = true then (if 0 ≤ (wrap64 ((x0.size : Int) + x11)) then (if (wrap64 ((x0.size : Int) + x11)) < (x1.size : Int) then (patchworklaw5_GlobEnds.l1 k x0 x1 x6 x8 false ((bt x1 (wrap64 ((x0.size : Int) + x11))) != 47) (wrap64 (x11 + 1))) else (none)) else (none)) else (patchworklaw5_GlobEnds.l1 k x0 x1 x6 x8 false false (wrap64 (x11 + 1))))) else (if 1 + x6.size ≤ 9223372036854775807 then ((glob_Match.f k ((⟨#[42]⟩ : ByteArray) ++ x6) x1).bind fun t225 => (if (t225 == x9) = true then (if x6.size + 1 ≤ 9223372036854775807 then ((glob_Match.f k (x6 ++ (⟨#[42]⟩ : ByteArray)) x1).bind fun t226 => (some (t226 == x10))) else (none)) else (some false))) else (none))
end
def patchworklaw5_GlobEnds.f (k : Nat) (a0 : ByteArray) (a1 : ByteArray) : Option (Bool) := (patchworklaw5_alive.f k).bind fun t224 => (if t224 = true then (if (a0.size : Int) > 20 then (patchworklaw5_GlobEnds.j0 k a0 a1 t224 true) else (patchworklaw5_GlobEnds.j0 k a0 a1 t224 (decide ((a1.size : Int) > 40)))) else (patchworklaw5_GlobEnds.j0 k a0 a1 t224 true))
theorem patchworklaw5_GlobEnds.mono_l : ∀ k, (∀ y0 y1 y2 y3, LeO (patchworklaw5_GlobEnds.j0 k y0 y1 y2 y3) (patchworklaw5_GlobEnds.j0 (k + 1) y0 y1 y2 y3)) ∧ (∀ y0 y1 y2 y3, LeO (patchworklaw5_GlobEnds.l0 k y0 y1 y2 y3) (patchworklaw5_GlobEnds.l0 (k + 1) y0 y1 y2 y3)) ∧ (∀ y0 y1 y2 y3 y4, LeO (patchworklaw5_GlobEnds.j2 k y0 y1 y2 y3 y4) (patchworklaw5_GlobEnds.j2 (k + 1) y0 y1 y2 y3 y4)) ∧ (∀ y0 y1 y2 y3 y4 y5, LeO (patchworklaw5_GlobEnds.j3 k y0 y1 y2 y3 y4 y5) (patchworklaw5_GlobEnds.j3 (k + 1) y0 y1 y2 y3 y4 y5)) ∧ (∀ y0 y1 y2 y3 y4 y5 y6, LeO (patchworklaw5_GlobEnds.l1 k y0 y1 y2 y3 y4 y5 y6) (patchworklaw5_GlobEnds.l1 (k + 1) y0 y1 y2 y3 y4 y5 y6))
  | 0 => ⟨fun _ _ _ _ r h => by simp [patchworklaw5_GlobEnds.j0] at h, fun _ _ _ _ r h => by simp [patchworklaw5_GlobEnds.l0] at h, fun _ _ _ _ _ r h => by simp [patchworklaw5_GlobEnds.j2] at h, fun _ _ _ _ _ _ r h => by simp [patchworklaw5_GlobEnds.j3] at h, fun _ _ _ _ _ _ _ r h => by simp [patchworklaw5_GlobEnds.l1] at h⟩
  | k + 1 => by
    obtain ⟨ih0, ih1, ih2, ih3, ih4⟩ := patchworklaw5_GlobEnds.mono_l k
    refine ⟨?_, ?_, ?_, ?_, ?_⟩
    · intro y0 y1 y2 y3
      unfold patchworklaw5_GlobEnds.j0
      repeat' first
      | (with_reducible exact ih0 _ _ _ _)
      | (with_reducible exact ih1 _ _ _ _)
      | (with_reducible exact ih2 _ _ _ _ _)
      | (with_reducible exact ih3 _ _ _ _ _ _)
      | (with_reducible exact ih4 _ _ _ _ _ _ _)
      | (with_reducible exact glob_Match.mono _ _ _)
      | (with_reducible exact patchworklaw5_alive.mono _)
      | (with_reducible exact LeO.refl _)
      | (with_reducible exact LeO.none _)
      | (with_reducible refine LeO.ite ?_ ?_)
      | (with_reducible refine LeO.bind ?_ (fun _ => ?_))
      | exact ih0 _ _ _ _
      | exact ih1 _ _ _ _
      | exact ih2 _ _ _ _ _
      | exact ih3 _ _ _ _ _ _
      | exact ih4 _ _ _ _ _ _ _
      | exact glob_Match.mono _ _ _
      | exact patchworklaw5_alive.mono _
      | exact LeO.none _
      | refine LeO.ite ?_ ?_
      | refine LeO.bind ?_ (fun _ => ?_)
    · intro y0 y1 y2 y3
      unfold patchworklaw5_GlobEnds.l0
      repeat' first
      | (with_reducible exact ih0 _ _ _ _)
      | (with_reducible exact ih1 _ _ _ _)
      | (with_reducible exact ih2 _ _ _ _ _)
      | (with_reducible exact ih3 _ _ _ _ _ _)
      | (with_reducible exact ih4 _ _ _ _ _ _ _)
      | (with_reducible exact glob_Match.mono _ _ _)
      | (with_reducible exact patchworklaw5_alive.mono _)
      | (with_reducible exact LeO.refl _)
      | (with_reducible exact LeO.none _)
      | (with_reducible refine LeO.ite ?_ ?_)
      | (with_reducible refine LeO.bind ?_ (fun _ => ?_))
      | exact ih0 _ _ _ _
      | exact ih1 _ _ _ _
      | exact ih2 _ _ _ _ _
      | exact ih3 _ _ _ _ _ _
      | exact ih4 _ _ _ _ _ _ _
      | exact glob_Match.mono _ _ _
      | exact patchworklaw5_alive.mono _
      | exact LeO.none _
      | refine LeO.ite ?_ ?_
      | refine LeO.bind ?_ (fun _ => ?_)
    · intro y0 y1 y2 y3 y4
      unfold patchworklaw5_GlobEnds.j2
      repeat' first
      | (with_reducible exact ih0 _ _ _ _)
      | (with_reducible exact ih1 _ _ _ _)
      | (with_reducible exact ih2 _ _ _ _ _)
      | (with_reducible exact ih3 _ _ _ _ _ _)
      | (with_reducible exact ih4 _ _ _ _ _ _ _)
      | (with_reducible exact glob_Match.mono _ _ _)
      | (with_reducible exact patchworklaw5_alive.mono _)
      | (with_reducible exact LeO.refl _)
      | (with_reducible exact LeO.none _)
      | (with_reducible refine LeO.ite ?_ ?_)
      | (with_reducible refine LeO.bind ?_ (fun _ => ?_))
      | exact ih0 _ _ _ _
      | exact ih1 _ _ _ _
      | exact ih2 _ _ _ _ _
      | exact ih3 _ _ _ _ _ _
      | exact ih4 _ _ _ _ _ _ _
      | exact glob_Match.mono _ _ _
      | exact patchworklaw5_alive.mono _
      | exact LeO.none _
      | refine LeO.ite ?_ ?_
      | refine LeO.bind ?_ (fun _ => ?_)
    · intro y0 y1 y2 y3 y4 y5
      unfold patchworklaw5_GlobEnds.j3
      repeat' first
      | (with_reducible exact ih0 _ _ _ _)
      | (with_reducible exact ih1 _ _ _ _)
      | (with_reducible exact ih2 _ _ _ _ _)
      | (with_reducible exact ih3 _ _ _ _ _ _)
      | (with_reducible exact ih4 _ _ _ _ _ _ _)
      | (with_reducible exact glob_Match.mono _ _ _)
      | (with_reducible exact patchworklaw5_alive.mono _)
      | (with_reducible exact LeO.refl _)
      | (with_reducible exact LeO.none _)
      | (with_reducible refine LeO.ite ?_ ?_)
      | (with_reducible refine LeO.bind ?_ (fun _ => ?_))
      | exact ih0 _ _ _ _
      | exact ih1 _ _ _ _
      | exact ih2 _ _ _ _ _
      | exact ih3 _ _ _ _ _ _
      | exact ih4 _ _ _ _ _ _ _
      | exact glob_Match.mono _ _ _
      | exact patchworklaw5_alive.mono _
      | exact LeO.none _
      | refine LeO.ite ?_ ?_
      | refine LeO.bind ?_ (fun _ => ?_)
    · intro y0 y1 y2 y3 y4 y5 y6
      unfold patchworklaw5_GlobEnds.l1
      repeat' first
      | (with_reducible exact ih0 _ _ _ _)
      | (with_reducible exact ih1 _ _ _ _)
      | (with_reducible exact ih2 _ _ _ _ _)
      | (with_reducible exact ih3 _ _ _ _ _ _)
      | (with_reducible exact ih4 _ _ _ _ _ _ _)
      | (with_reducible exact glob_Match.mono _ _ _)
      | (with_reducible exact patchworklaw5_alive.mono _)
      | (with_reducible exact LeO.refl _)
      | (with_reducible exact LeO.none _)
      | (with_reducible refine LeO.ite ?_ ?_)
      | (with_reducible refine LeO.bind ?_ (fun _ => ?_))
      | exact ih0 _ _ _ _
      | exact ih1 _ _ _ _
      | exact ih2 _ _ _ _ _
      | exact ih3 _ _ _ _ _ _
      | exact ih4 _ _ _ _ _ _ _
      | exact glob_Match.mono _ _ _
      | exact patchworklaw5_alive.mono _
      | exact LeO.none _
      | refine LeO.ite ?_ ?_
      | refine LeO.bind ?_ (fun _ => ?_)
theorem patchworklaw5_GlobEnds.mono : ∀ a0 a1 k, LeO (patchworklaw5_GlobEnds.f k a0 a1) (patchworklaw5_GlobEnds.f (k + 1) a0 a1) := by
  intro a0 a1 k
  obtain ⟨ih0, ih1, ih2, ih3, ih4⟩ := patchworklaw5_GlobEnds.mono_l k
  unfold patchworklaw5_GlobEnds.f
  repeat' first
      | (with_reducible exact ih0 _ _ _ _)
      | (with_reducible exact ih1 _ _ _ _)
      | (with_reducible exact ih2 _ _ _ _ _)
      | (with_reducible exact ih3 _ _ _ _ _ _)
      | (with_reducible exact ih4 _ _ _ _ _ _ _)
      | (with_reducible exact glob_Match.mono _ _ _)
      | (with_reducible exact patchworklaw5_alive.mono _)
      | (with_reducible exact LeO.refl _)
      | (with_reducible exact LeO.none _)
      | (with_reducible refine LeO.ite ?_ ?_)
      | (with_reducible refine LeO.bind ?_ (fun _ => ?_))
      | exact ih0 _ _ _ _
      | exact ih1 _ _ _ _
      | exact ih2 _ _ _ _ _
      | exact ih3 _ _ _ _ _ _
      | exact ih4 _ _ _ _ _ _ _
      | exact glob_Match.mono _ _ _
      | exact patchworklaw5_alive.mono _
      | exact LeO.none _
      | refine LeO.ite ?_ ?_
      | refine LeO.bind ?_ (fun _ => ?_)
set_option maxHeartbeats 8000000 in
set_option maxRecDepth 100000 in
theorem patchworklaw5_GlobEnds.calls (k : Nat) (a0 : ByteArray) (a1 : ByteArray) (r : Bool) (w : World) (hX : XW w) (h : patchworklaw5_GlobEnds.f k a0 a1 = some r) :
    Calls Try.prog 11 #[.string a0, .string a1] w fun e w' => e = .returned (.bool r) ∧ Drawn0 w w' := by
  have H : ((patchworklaw5_alive.f k).bind fun t224 => (if t224 = true then (if (a0.size : Int) > 20 then (patchworklaw5_GlobEnds.j0 k a0 a1 t224 true) else (patchworklaw5_GlobEnds.j0 k a0 a1 t224 (decide ((a1.size : Int) > 40)))) else (patchworklaw5_GlobEnds.j0 k a0 a1 t224 true))) = some r := h
  clear h
  replace H := Option.bind_eq_some_iff.mp H
  obtain ⟨t224, A30, H⟩ := H
  replace H : (if t224 = true then (if (a0.size : Int) > 20 then (patchworklaw5_GlobEnds.j0 k a0 a1 t224 true) else (patchworklaw5_GlobEnds.j0 k a0 a1 t224 (decide ((a1.size : Int) > 40)))) else (patchworklaw5_GlobEnds.j0 k a0 a1 t224 true)) = some r := H
  have A3 := Aside0.mk A30
  clear A30
  have HC4 := Aside0.mk H
  clear H
  go_enter Try.func11, Try.ntmps11
  go_upto_region 2 with (first | ((with_reducible refine gate_callee (f := 23) rfl ?_); refine goesL_ (some 12) rfl rfl Try.func23 (by kernel_rfl) rfl #[] rfl (by (try simp only [List.map_toArray, List.map_cons, List.map_nil]); first | done | rfl | (simp only [List.length_drop, List.length_take]; rfl)) ?_; (with_reducible refine (patchworklaw5_alive.calls k  t224 _ ?side1 A3.out).mono ?_); (case side1 => first | exact hX | exact XW.drawn hX (by repeat (first | exact Drawn0.refl _ | apply Drawn0.step))); rintro e w' ⟨rfl, ⟨nd, rfl⟩⟩; refine ⟨_, rfl, ?_⟩))
  (try simp only [Act.put, List.setIfInBounds_toArray, List.set_cons_zero, List.set_cons_succ])
  go_cut [24] (fun v24 wc => ∃ (kq : Nat) (x24_3 : Bool), v24 = .bool x24_3 ∧ Aside0 (patchworklaw5_GlobEnds.j0 kq a0 a1 t224 x24_3 = some r) ∧ Aside0 (kq ≤ k) ∧ Drawn0 w wc)
  case first =>
    have H := HC4.out
    clear HC4
    by_cases c5 : t224 = true
    · subst c5
      have H1 : (if (a0.size : Int) > 20 then (patchworklaw5_GlobEnds.j0 k a0 a1 true true) else (patchworklaw5_GlobEnds.j0 k a0 a1 true (decide ((a1.size : Int) > 40)))) = some r := by rw [if_pos rfl] at H; exact H
      clear H
      have H := H1
      clear H1
      by_cases c6 : (a0.size : Int) > 20
      · rw [if_pos c6] at H
        have c6b0 : decide (20 < (a0.size : Int)) = true := decide_eq_true c6
        have c6b1 : decide (20 < a0.size) = true := decide_eq_true (by omega)
        clear c6
        (first | rw [c6b0] | (simp only [i64_w, i32_w]; rw [c6b0]) | skip)
        have H' := Aside0.mk H
        clear H
        go_wp2
        go_meet
        case rel => exact ⟨_, (true), (by first | rfl | (simp; done) | (simp [*]; done)), H', ⟨by first | omega | exact Nat.le_refl _⟩, by repeat (first | exact Drawn0.refl _ | apply Drawn0.step)⟩
      · rw [if_neg c6] at H
        have c6b0 : decide (20 < (a0.size : Int)) = false := decide_eq_false c6
        have c6b1 : decide (20 < a0.size) = false := decide_eq_false (by omega)
        clear c6
        (first | rw [c6b0] | (simp only [i64_w, i32_w]; rw [c6b0]) | skip)
        have H' := Aside0.mk H
        clear H
        go_wp2
        go_meet
        case rel => exact ⟨_, (decide ((a1.size : Int) > 40)), (by first | rfl | (simp; done) | (simp [*]; done)), H', ⟨by first | omega | exact Nat.le_refl _⟩, by repeat (first | exact Drawn0.refl _ | apply Drawn0.step)⟩
    · replace c5 := Bool.eq_false_iff.mpr c5
      subst c5
      have H1 : (patchworklaw5_GlobEnds.j0 k a0 a1 false true) = some r := by rw [if_neg (show ¬ (false = true) by decide)] at H; exact H
      clear H
      have H := H1
      clear H1
      have H' := Aside0.mk H
      clear H
      go_wp2
      go_meet
      case rel => exact ⟨_, (true), (by first | rfl | (simp; done) | (simp [*]; done)), H', ⟨by first | omega | exact Nat.le_refl _⟩, by repeat (first | exact Drawn0.refl _ | apply Drawn0.step)⟩
  case rest =>
    clear HC4
    try clear c1
    try clear c2
    try clear p2
    try clear c5
    try clear c6
    try clear c6b0
    try clear c6b1
    obtain ⟨kq, x24_3, rfl, HA, HJ3, ⟨mc3, rfl⟩⟩ := hcut
    cases kq with
    | zero => exact absurd HA.out (by simp [patchworklaw5_GlobEnds.j0])
    | succ kj3 =>
      have H := HA.out
      clear HA
      simp only [patchworklaw5_GlobEnds.j0] at H
      by_cases c7 : x24_3 = true
      · subst c7
        have H1 : (some t224) = some r := by rw [if_pos rfl] at H; exact H
        clear H
        have H := H1
        clear H1
        obtain rfl := Option.some.inj H
        go_wp2
        go_ret
        exact ⟨by first | rfl | (simp; done) | (simp [*]; done), by repeat (first | exact Drawn0.refl _ | apply Drawn0.step)⟩
      · replace c7 := Bool.eq_false_iff.mpr c7
        subst c7
        have H1 : (patchworklaw5_GlobEnds.l0 kj3 a0 a1 (⟨#[]⟩ : ByteArray) 0) = some r := by rw [if_neg (show ¬ (false = true) by decide)] at H; exact H
        clear H
        have H := H1
        clear H1
        have H' := Aside0.mk H
        clear H
        go_wp2
        go_loopg [6, 7] kj3 (fun kq v6 v7 w' => ∃ (x6_2 : ByteArray) (x7_2 : Int), v6 = .string x6_2 ∧ v7 = .int .i64 x7_2 ∧ Aside0 (patchworklaw5_GlobEnds.l0 kq a0 a1 x6_2 x7_2 = some r) ∧ Aside0 (kq ≤ kj3) ∧ Drawn0 w w')
        case atStart => exact ⟨((⟨#[]⟩ : ByteArray)), (0), (by first | rfl | (simp; done) | (simp [*]; done)), (by first | rfl | (simp; done) | (simp [*]; done)), H', ⟨Nat.le_refl _⟩, by repeat (first | exact Drawn0.refl _ | apply Drawn0.step)⟩
        case round =>
          clear H'
          try clear c1
          try clear c2
          try clear p2
          try clear c3
          try clear c5
          try clear c6
          try clear c6b0
          try clear c6b1
          try clear c7
          try clear p2
          obtain ⟨x6_2, x7_2, rfl, rfl, HA, HK2, ⟨m2, rfl⟩⟩ := hrel
          cases gk with
          | zero => exact absurd HA.out (by simp [patchworklaw5_GlobEnds.l0])
          | succ k2 =>
            have H := HA.out
            clear HA
            simp only [patchworklaw5_GlobEnds.l0] at H
            by_cases c8 : x7_2 < (a0.size : Int)
            · rw [if_pos c8] at H
              have c8b0 : decide (x7_2 < (a0.size : Int)) = true := decide_eq_true c8
              clear c8
              by_cases c9 : x6_2.size + 1 ≤ 9223372036854775807
              · rw [if_pos c9] at H
                have c9b0 := eq_true c9
                have c9b1 : decide (x6_2.size + 1 ≤ 9223372036854775807) = true := decide_eq_true c9
                try have c9b2 : (9223372036854775807 < x6_2.size + 1) = False := eq_false (Nat.not_lt.2 c9)
                by_cases c10 : 0 ≤ x7_2
                · rw [if_pos c10] at H
                  have c10b0 := eq_true c10
                  have c10b1 : decide (0 ≤ x7_2) = true := decide_eq_true c10
                  clear c10
                  by_cases c11 : x7_2 ≤ (wrap64 (x7_2 + 1))
                  · rw [if_pos c11] at H
                    have c11b0 := eq_true c11
                    have c11b1 : decide (x7_2 ≤ (wrap64 (x7_2 + 1))) = true := decide_eq_true c11
                    by_cases c12 : (wrap64 (x7_2 + 1)) ≤ (a0.size : Int)
                    · rw [if_pos c12] at H
                      have c12b0 := eq_true c12
                      have c12b1 : decide ((wrap64 (x7_2 + 1)) ≤ (a0.size : Int)) = true := decide_eq_true c12
                      by_cases c13 : (x6_2 ++ (⟨#[92]⟩ : ByteArray)).size + (a0.extract (x7_2 : Int).toNat ((wrap64 (x7_2 + 1)) : Int).toNat).size ≤ 9223372036854775807
                      · rw [if_pos c13] at H
                        have c13b0 := eq_true c13
                        have c13b1 : decide ((x6_2 ++ (⟨#[92]⟩ : ByteArray)).size + (a0.extract (x7_2 : Int).toNat ((wrap64 (x7_2 + 1)) : Int).toNat).size ≤ 9223372036854775807) = true := decide_eq_true c13
                        try (have c13b1n := c13b1; simp only [ByteArray.size_append, ba_size_lit, List.length_cons, List.length_nil, Nat.zero_add, Nat.reduceAdd, Int.natCast_add, Int.natCast_one, Int.cast_ofNat_Int] at c13b1n)
                        try have c13b2 : (9223372036854775807 < (x6_2 ++ (⟨#[92]⟩ : ByteArray)).size + (a0.extract (x7_2 : Int).toNat ((wrap64 (x7_2 + 1)) : Int).toNat).size) = False := eq_false (Nat.not_lt.2 c13)
                        try (have c13b3 := c13b2; simp only [ByteArray.size_append, ba_size_lit, List.length_cons, List.length_nil, Nat.zero_add, Nat.reduceAdd] at c13b3)
                        have H' := Aside0.mk H
                        clear H
                        go_wp2
                        go_roundg k2
                        case measure => have := HJ3.out; have := HK2.out; omega
                        case rel => exact ⟨((x6_2 ++ (⟨#[92]⟩ : ByteArray)) ++ (a0.extract (x7_2 : Int).toNat ((wrap64 (x7_2 + 1)) : Int).toNat)), (wrap64 (x7_2 + 1)), (by first | rfl | (simp; done) | (simp [*]; done)), (by first | rfl | (simp; done) | (simp [*]; done)), H', ⟨by have := HJ3.out; have := HK2.out; omega⟩, by repeat (first | exact Drawn0.refl _ | apply Drawn0.step)⟩
                      · rw [if_neg c13] at H
                        exact absurd H (by simp)
                    · rw [if_neg c12] at H
                      exact absurd H (by simp)
                  · rw [if_neg c11] at H
                    exact absurd H (by simp)
                · rw [if_neg c10] at H
                  exact absurd H (by simp)
              · rw [if_neg c9] at H
                exact absurd H (by simp)
            · rw [if_neg c8] at H
              have c8b0 : decide (x7_2 < (a0.size : Int)) = false := decide_eq_false c8
              clear c8
              have HC14 := Aside0.mk H
              clear H
              go_upto_region 10 with (fail)
              go_cut [9] (fun v9 wc => ∃ (kq : Nat) (x9_13 : Bool), v9 = .bool x9_13 ∧ Aside0 (patchworklaw5_GlobEnds.j2 kq a0 a1 x6_2 (wrap64 ((a1.size : Int) - (a0.size : Int))) x9_13 = some r) ∧ Aside0 (kq ≤ k2) ∧ Drawn0 w wc)
              case first =>
                have H := HC14.out
                clear HC14
                by_cases c15 : (wrap64 ((a1.size : Int) - (a0.size : Int))) ≥ 0
                · rw [if_pos c15] at H
                  have c15b0 : decide (0 ≤ (wrap64 ((a1.size : Int) - (a0.size : Int)))) = true := decide_eq_true c15
                  clear c15
                  (first | rw [c15b0] | (simp only [i64_w, i32_w]; rw [c15b0]) | skip)
                  obtain ⟨ji16, hji16⟩ : ∃ j_ : Int, (wrap64 ((a1.size : Int) - (a0.size : Int))) = j_ := ⟨_, rfl⟩
                  replace H : (if 0 ≤ (ji16) then (if (ji16) ≤ (a1.size : Int) then (patchworklaw5_GlobEnds.j2 k2 a0 a1 x6_2 ji16 ((a1.extract ((ji16) : Int).toNat a1.size).toList == a0.toList)) else (none)) else (none)) = some r := by first | (rw [hji16] at H; exact H) | (simp only [hji16] at H ⊢; exact H)
                  (try rw [hji16] at c15b0)
                  have hji16w : (IntKind.i64.wrap ((a1.size : Int) - (a0.size : Int))) = ji16 := (i64_w _).trans hji16
                  by_cases c17 : 0 ≤ (ji16)
                  · rw [if_pos c17] at H
                    have c17b0 := eq_true c17
                    have c17b1 : decide (0 ≤ (ji16)) = true := decide_eq_true c17
                    clear c17
                    by_cases c18 : (ji16) ≤ (a1.size : Int)
                    · rw [if_pos c18] at H
                      have c18b0 := eq_true c18
                      have c18b1 : decide ((ji16) ≤ (a1.size : Int)) = true := decide_eq_true c18
                      clear c18
                      have H' := Aside0.mk H
                      clear H
                      go_wp2
                      (first | go_meet | (simp only [← hji16]; go_meet))
                      case rel => exact ⟨_, (((a1.extract ((ji16) : Int).toNat a1.size).toList == a0.toList)), (by first | rfl | (simp; done) | (simp only [← hji16] <;> (first | rfl | simp)) | (simp [*]; done)), (by first | (with_reducible exact H') | (simp only [hji16]; with_reducible exact H') | (simp only [hji16] at H' ⊢; with_reducible exact H') | exact H'), ⟨by have := HJ3.out; have := HK2.out; first | omega | exact Nat.le_refl _⟩, by repeat (first | exact Drawn0.refl _ | apply Drawn0.step)⟩
                    · rw [if_neg c18] at H
                      exact absurd H (by simp)
                  · rw [if_neg c17] at H
                    exact absurd H (by simp)
                · rw [if_neg c15] at H
                  have c15b0 : decide (0 ≤ (wrap64 ((a1.size : Int) - (a0.size : Int)))) = false := decide_eq_false c15
                  clear c15
                  (first | rw [c15b0] | (simp only [i64_w, i32_w]; rw [c15b0]) | skip)
                  have H' := Aside0.mk H
                  clear H
                  go_wp2
                  go_meet
                  case rel => exact ⟨_, (false), (by first | rfl | (simp; done) | (simp [*]; done)), H', ⟨by have := HJ3.out; have := HK2.out; first | omega | exact Nat.le_refl _⟩, by repeat (first | exact Drawn0.refl _ | apply Drawn0.step)⟩
              case rest =>
                clear HC14
                try clear c1
                try clear c2
                try clear p2
                try clear c3
                try clear c5
                try clear c6
                try clear c6b0
                try clear c6b1
                try clear p6
                try clear c7
                try clear c8
                try clear c8b0
                try clear c9
                try clear c9b0
                try clear c9b1
                try clear c9b2
                try clear c10
                try clear c10b0
                try clear c10b1
                try clear c11
                try clear c11b0
                try clear c11b1
                try clear c12
                try clear c12b0
                try clear c12b1
                try clear c13
                try clear c13b0
                try clear c13b1
                try clear c13b2
                try clear c15
                try clear c15b0
                try clear c17
                try clear c17b0
                try clear c17b1
                try clear c18
                try clear c18b0
                try clear c18b1
                try clear p2
                obtain ⟨kq, x9_13, rfl, HA, HJ13, ⟨mc13, rfl⟩⟩ := hcut
                cases kq with
                | zero => exact absurd HA.out (by simp [patchworklaw5_GlobEnds.j2])
                | succ kj13 =>
                  have H := HA.out
                  clear HA
                  simp only [patchworklaw5_GlobEnds.j2] at H
                  have HC19 := Aside0.mk H
                  clear H
                  go_upto_region 11 with (fail)
                  go_cut [10] (fun v10 wc => ∃ (kq : Nat) (x10_18 : Bool), v10 = .bool x10_18 ∧ Aside0 (patchworklaw5_GlobEnds.j3 kq a0 a1 x6_2 (wrap64 ((a1.size : Int) - (a0.size : Int))) x9_13 x10_18 = some r) ∧ Aside0 (kq ≤ kj13) ∧ Drawn0 w wc)
                  case first =>
                    have H := HC19.out
                    clear HC19
                    by_cases c20 : (wrap64 ((a1.size : Int) - (a0.size : Int))) ≥ 0
                    · rw [if_pos c20] at H
                      have c20b0 : decide (0 ≤ (wrap64 ((a1.size : Int) - (a0.size : Int)))) = true := decide_eq_true c20
                      clear c20
                      (first | rw [c20b0] | (simp only [i64_w, i32_w]; rw [c20b0]) | skip)
                      by_cases c21 : 0 ≤ (a0.size : Int)
                      · rw [if_pos c21] at H
                        have c21b0 := eq_true c21
                        have c21b1 : decide (0 ≤ (a0.size : Int)) = true := decide_eq_true c21
                        clear c21
                        by_cases c22 : (a0.size : Int) ≤ (a1.size : Int)
                        · rw [if_pos c22] at H
                          have c22b0 := eq_true c22
                          have c22b1 : decide ((a0.size : Int) ≤ (a1.size : Int)) = true := decide_eq_true c22
                          clear c22
                          have H' := Aside0.mk H
                          clear H
                          go_wp2
                          go_meet
                          case rel => exact ⟨_, (((a1.extract 0 ((a0.size : Int) : Int).toNat).toList == a0.toList)), (by first | rfl | (simp; done) | (simp [*]; done)), H', ⟨by have := HJ3.out; have := HK2.out; have := HJ13.out; first | omega | exact Nat.le_refl _⟩, by repeat (first | exact Drawn0.refl _ | apply Drawn0.step)⟩
                        · rw [if_neg c22] at H
                          exact absurd H (by simp)
                      · rw [if_neg c21] at H
                        exact absurd H (by simp)
                    · rw [if_neg c20] at H
                      have c20b0 : decide (0 ≤ (wrap64 ((a1.size : Int) - (a0.size : Int)))) = false := decide_eq_false c20
                      clear c20
                      (first | rw [c20b0] | (simp only [i64_w, i32_w]; rw [c20b0]) | skip)
                      have H' := Aside0.mk H
                      clear H
                      go_wp2
                      go_meet
                      case rel => exact ⟨_, (false), (by first | rfl | (simp; done) | (simp [*]; done)), H', ⟨by have := HJ3.out; have := HK2.out; have := HJ13.out; first | omega | exact Nat.le_refl _⟩, by repeat (first | exact Drawn0.refl _ | apply Drawn0.step)⟩
                  case rest =>
                    clear HC19
                    try clear c1
                    try clear c2
                    try clear p2
                    try clear c3
                    try clear c5
                    try clear c6
                    try clear c6b0
                    try clear c6b1
                    try clear p6
                    try clear c7
                    try clear c8
                    try clear c8b0
                    try clear c9
                    try clear c9b0
                    try clear c9b1
                    try clear c9b2
                    try clear c10
                    try clear c10b0
                    try clear c10b1
                    try clear c11
                    try clear c11b0
                    try clear c11b1
                    try clear c12
                    try clear c12b0
                    try clear c12b1
                    try clear c13
                    try clear c13b0
                    try clear c13b1
                    try clear c13b2
                    try clear c15
                    try clear c15b0
                    try clear c17
                    try clear c17b0
                    try clear c17b1
                    try clear c18
                    try clear c18b0
                    try clear c18b1
                    try clear c20
                    try clear c20b0
                    try clear c21
                    try clear c21b0
                    try clear c21b1
                    try clear c22
                    try clear c22b0
                    try clear c22b1
                    try clear p2
                    try clear p6
                    obtain ⟨kq, x10_18, rfl, HA, HJ18, ⟨mc18, rfl⟩⟩ := hcut
                    cases kq with
                    | zero => exact absurd HA.out (by simp [patchworklaw5_GlobEnds.j3])
                    | succ kj18 =>
                      have H := HA.out
                      clear HA
                      simp only [patchworklaw5_GlobEnds.j3] at H
                      have H' := Aside0.mk H
                      clear H
                      go_wp2
                      go_loopg [9, 10, 11] kj18 (fun kq v9 v10 v11 w' => ∃ (x9_5 : Bool) (x10_5 : Bool) (x11_5 : Int), v9 = .bool x9_5 ∧ v10 = .bool x10_5 ∧ v11 = .int .i64 x11_5 ∧ Aside0 (patchworklaw5_GlobEnds.l1 kq a0 a1 x6_2 (wrap64 ((a1.size : Int) - (a0.size : Int))) x9_5 x10_5 x11_5 = some r) ∧ Aside0 (kq ≤ kj18) ∧ Drawn0 w w')
                      case atStart => exact ⟨(x9_13), (x10_18), (0), (by first | rfl | (simp; done) | (simp [*]; done)), (by first | rfl | (simp; done) | (simp [*]; done)), (by first | rfl | (simp; done) | (simp [*]; done)), H', ⟨Nat.le_refl _⟩, by repeat (first | exact Drawn0.refl _ | apply Drawn0.step)⟩
                      case round =>
                        clear H'
                        try clear c1
                        try clear c2
                        try clear p2
                        try clear c3
                        try clear c5
                        try clear c6
                        try clear c6b0
                        try clear c6b1
                        try clear p6
                        try clear c7
                        try clear c8
                        try clear c8b0
                        try clear c9
                        try clear c9b0
                        try clear c9b1
                        try clear c9b2
                        try clear c10
                        try clear c10b0
                        try clear c10b1
                        try clear c11
                        try clear c11b0
                        try clear c11b1
                        try clear c12
                        try clear c12b0
                        try clear c12b1
                        try clear c13
                        try clear c13b0
                        try clear c13b1
                        try clear c13b2
                        try clear c15
                        try clear c15b0
                        try clear c17
                        try clear c17b0
                        try clear c17b1
                        try clear c18
                        try clear c18b0
                        try clear c18b1
                        try clear c20
                        try clear c20b0
                        try clear c21
                        try clear c21b0
                        try clear c21b1
                        try clear c22
                        try clear c22b0
                        try clear c22b1
                        try clear p2
                        try clear p6
                        obtain ⟨x9_5, x10_5, x11_5, rfl, rfl, rfl, HA, HK5, ⟨m5, rfl⟩⟩ := hrel
                        cases gk with
                        | zero => exact absurd HA.out (by simp [patchworklaw5_GlobEnds.l1])
                        | succ k5 =>
                          have H := HA.out
                          clear HA
                          simp only [patchworklaw5_GlobEnds.l1] at H
                          by_cases c23 : x11_5 < (wrap64 ((a1.size : Int) - (a0.size : Int)))
                          · rw [if_pos c23] at H
                            have c23b0 : decide (x11_5 < (wrap64 ((a1.size : Int) - (a0.size : Int)))) = true := decide_eq_true c23
                            clear c23
                            by_cases c24 : x9_5 = true
                            · subst c24
                              have H1 : (if 0 ≤ x11_5 then (if x11_5 < (a1.size : Int) then (if x10_5 = true then (if 0 ≤ (wrap64 ((a0.size : Int) + x11_5)) then (if (wrap64 ((a0.size : Int) + x11_5)) < (a1.size : Int) then (patchworklaw5_GlobEnds.l1 k5 a0 a1 x6_2 (wrap64 ((a1.size : Int) - (a0.size : Int))) ((bt a1 x11_5) != 47) ((bt a1 (wrap64 ((a0.size : Int) + x11_5))) != 47) (wrap64 (x11_5 + 1))) else (none)) else (none)) else (patchworklaw5_GlobEnds.l1 k5 a0 a1 x6_2 (wrap64 ((a1.size : Int) - (a0.size : Int))) ((bt a1 x11_5) != 47) false (wrap64 (x11_5 + 1)))) else (none)) else (none)) = some r := by rw [if_pos rfl] at H; exact H
                              clear H
                              have H := H1
                              clear H1
                              by_cases c25 : 0 ≤ x11_5
                              · rw [if_pos c25] at H
                                have c25b0 : decide (0 ≤ x11_5) = true := decide_eq_true c25
                                clear c25
                                by_cases c26 : x11_5 < (a1.size : Int)
                                · rw [if_pos c26] at H
                                  have c26b0 : decide (x11_5 < (a1.size : Int)) = true := decide_eq_true c26
                                  clear c26
                                  by_cases c28 : x10_5 = true
                                  · subst c28
                                    have H1 : (if 0 ≤ (wrap64 ((a0.size : Int) + x11_5)) then (if (wrap64 ((a0.size : Int) + x11_5)) < (a1.size : Int) then (patchworklaw5_GlobEnds.l1 k5 a0 a1 x6_2 (wrap64 ((a1.size : Int) - (a0.size : Int))) ((bt a1 x11_5) != 47) ((bt a1 (wrap64 ((a0.size : Int) + x11_5))) != 47) (wrap64 (x11_5 + 1))) else (none)) else (none)) = some r := by rw [if_pos rfl] at H; exact H
                                    clear H
                                    have H := H1
                                    clear H1
                                    obtain ⟨ji29, hji29⟩ : ∃ j_ : Int, (wrap64 ((a0.size : Int) + x11_5)) = j_ := ⟨_, rfl⟩
                                    replace H : (if 0 ≤ (ji29) then (if (ji29) < (a1.size : Int) then (patchworklaw5_GlobEnds.l1 k5 a0 a1 x6_2 (wrap64 ((a1.size : Int) - (a0.size : Int))) ((bt a1 x11_5) != 47) ((bt a1 (ji29)) != 47) (wrap64 (x11_5 + 1))) else (none)) else (none)) = some r := by first | (rw [hji29] at H; exact H) | (simp only [hji29] at H ⊢; exact H)
                                    have hji29w : (IntKind.i64.wrap ((a0.size : Int) + x11_5)) = ji29 := (i64_w _).trans hji29
                                    by_cases c30 : 0 ≤ (ji29)
                                    · rw [if_pos c30] at H
                                      have c30b0 : decide (0 ≤ (ji29)) = true := decide_eq_true c30
                                      clear c30
                                      by_cases c31 : (ji29) < (a1.size : Int)
                                      · rw [if_pos c31] at H
                                        have c31b0 : decide ((ji29) < (a1.size : Int)) = true := decide_eq_true c31
                                        clear c31
                                        have H' := Aside0.mk H
                                        clear H
                                        have p27 : 0 ≤ (x11_5 : Int) := of_decide_eq_true (by first | (with_reducible assumption) | assumption)
                                        have q27 : x11_5 < (a1.size : Int) := of_decide_eq_true (by first | (with_reducible assumption) | assumption)
                                        have hx27 := bt_at a1 x11_5
                                        replace p27 := eq_true p27
                                        replace q27 := eq_true q27
                                        have p32 : 0 ≤ ((ji29) : Int) := of_decide_eq_true (by first | (with_reducible assumption) | assumption)
                                        have q32 : (ji29) < (a1.size : Int) := of_decide_eq_true (by first | (with_reducible assumption) | assumption)
                                        have hx32 := bt_at a1 (ji29)
                                        replace p32 := eq_true p32
                                        replace q32 := eq_true q32
                                        go_wp2
                                        (first | go_roundg k5 | (simp only [← hji29]; go_roundg k5))
                                        case measure => have := HJ3.out; have := HK2.out; have := HJ13.out; have := HJ18.out; have := HK5.out; omega
                                        case rel => exact ⟨(((bt a1 x11_5) != 47)), (((bt a1 (ji29)) != 47)), (wrap64 (x11_5 + 1)), (by first | rfl | (simp; done) | (simp [*]; done)), (by first | rfl | (simp; done) | (simp only [← hji29] <;> (first | rfl | simp)) | (simp [*]; done)), (by first | rfl | (simp; done) | (simp [*]; done)), (by first | (with_reducible exact H') | (simp only [hji29]; with_reducible exact H') | (simp only [hji29] at H' ⊢; with_reducible exact H') | exact H'), ⟨by have := HJ3.out; have := HK2.out; have := HJ13.out; have := HJ18.out; have := HK5.out; omega⟩, by repeat (first | exact Drawn0.refl _ | apply Drawn0.step)⟩
                                      · rw [if_neg c31] at H
                                        exact absurd H (by simp)
                                    · rw [if_neg c30] at H
                                      exact absurd H (by simp)
                                  · replace c28 := Bool.eq_false_iff.mpr c28
                                    subst c28
                                    have H1 : (patchworklaw5_GlobEnds.l1 k5 a0 a1 x6_2 (wrap64 ((a1.size : Int) - (a0.size : Int))) ((bt a1 x11_5) != 47) false (wrap64 (x11_5 + 1))) = some r := by rw [if_neg (show ¬ (false = true) by decide)] at H; exact H
                                    clear H
                                    have H := H1
                                    clear H1
                                    have H' := Aside0.mk H
                                    clear H
                                    have p27 : 0 ≤ (x11_5 : Int) := of_decide_eq_true (by first | (with_reducible assumption) | assumption)
                                    have q27 : x11_5 < (a1.size : Int) := of_decide_eq_true (by first | (with_reducible assumption) | assumption)
                                    have hx27 := bt_at a1 x11_5
                                    replace p27 := eq_true p27
                                    replace q27 := eq_true q27
                                    go_wp2
                                    go_roundg k5
                                    case measure => have := HJ3.out; have := HK2.out; have := HJ13.out; have := HJ18.out; have := HK5.out; omega
                                    case rel => exact ⟨(((bt a1 x11_5) != 47)), (false), (wrap64 (x11_5 + 1)), (by first | rfl | (simp; done) | (simp [*]; done)), (by first | rfl | (simp; done) | (simp [*]; done)), (by first | rfl | (simp; done) | (simp [*]; done)), H', ⟨by have := HJ3.out; have := HK2.out; have := HJ13.out; have := HJ18.out; have := HK5.out; omega⟩, by repeat (first | exact Drawn0.refl _ | apply Drawn0.step)⟩
                                · rw [if_neg c26] at H
                                  exact absurd H (by simp)
                              · rw [if_neg c25] at H
                                exact absurd H (by simp)
                            · replace c24 := Bool.eq_false_iff.mpr c24
                              subst c24
                              have H1 : (if x10_5 = true then (if 0 ≤ (wrap64 ((a0.size : Int) + x11_5)) then (if (wrap64 ((a0.size : Int) + x11_5)) < (a1.size : Int) then (patchworklaw5_GlobEnds.l1 k5 a0 a1 x6_2 (wrap64 ((a1.size : Int) - (a0.size : Int))) false ((bt a1 (wrap64 ((a0.size : Int) + x11_5))) != 47) (wrap64 (x11_5 + 1))) else (none)) else (none)) else (patchworklaw5_GlobEnds.l1 k5 a0 a1 x6_2 (wrap64 ((a1.size : Int) - (a0.size : Int))) false false (wrap64 (x11_5 + 1)))) = some r := by rw [if_neg (show ¬ (false = true) by decide)] at H; exact H
                              clear H
                              have H := H1
                              clear H1
                              by_cases c33 : x10_5 = true
                              · subst c33
                                have H1 : (if 0 ≤ (wrap64 ((a0.size : Int) + x11_5)) then (if (wrap64 ((a0.size : Int) + x11_5)) < (a1.size : Int) then (patchworklaw5_GlobEnds.l1 k5 a0 a1 x6_2 (wrap64 ((a1.size : Int) - (a0.size : Int))) false ((bt a1 (wrap64 ((a0.size : Int) + x11_5))) != 47) (wrap64 (x11_5 + 1))) else (none)) else (none)) = some r := by rw [if_pos rfl] at H; exact H
                                clear H
                                have H := H1
                                clear H1
                                obtain ⟨ji34, hji34⟩ : ∃ j_ : Int, (wrap64 ((a0.size : Int) + x11_5)) = j_ := ⟨_, rfl⟩
                                replace H : (if 0 ≤ (ji34) then (if (ji34) < (a1.size : Int) then (patchworklaw5_GlobEnds.l1 k5 a0 a1 x6_2 (wrap64 ((a1.size : Int) - (a0.size : Int))) false ((bt a1 (ji34)) != 47) (wrap64 (x11_5 + 1))) else (none)) else (none)) = some r := by first | (rw [hji34] at H; exact H) | (simp only [hji34] at H ⊢; exact H)
                                have hji34w : (IntKind.i64.wrap ((a0.size : Int) + x11_5)) = ji34 := (i64_w _).trans hji34
                                by_cases c35 : 0 ≤ (ji34)
                                · rw [if_pos c35] at H
                                  have c35b0 : decide (0 ≤ (ji34)) = true := decide_eq_true c35
                                  clear c35
                                  by_cases c36 : (ji34) < (a1.size : Int)
                                  · rw [if_pos c36] at H
                                    have c36b0 : decide ((ji34) < (a1.size : Int)) = true := decide_eq_true c36
                                    clear c36
                                    have H' := Aside0.mk H
                                    clear H
                                    have p37 : 0 ≤ ((ji34) : Int) := of_decide_eq_true (by first | (with_reducible assumption) | assumption)
                                    have q37 : (ji34) < (a1.size : Int) := of_decide_eq_true (by first | (with_reducible assumption) | assumption)
                                    have hx37 := bt_at a1 (ji34)
                                    replace p37 := eq_true p37
                                    replace q37 := eq_true q37
                                    go_wp2
                                    (first | go_roundg k5 | (simp only [← hji34]; go_roundg k5))
                                    case measure => have := HJ3.out; have := HK2.out; have := HJ13.out; have := HJ18.out; have := HK5.out; omega
                                    case rel => exact ⟨(false), (((bt a1 (ji34)) != 47)), (wrap64 (x11_5 + 1)), (by first | rfl | (simp; done) | (simp [*]; done)), (by first | rfl | (simp; done) | (simp only [← hji34] <;> (first | rfl | simp)) | (simp [*]; done)), (by first | rfl | (simp; done) | (simp [*]; done)), (by first | (with_reducible exact H') | (simp only [hji34]; with_reducible exact H') | (simp only [hji34] at H' ⊢; with_reducible exact H') | exact H'), ⟨by have := HJ3.out; have := HK2.out; have := HJ13.out; have := HJ18.out; have := HK5.out; omega⟩, by repeat (first | exact Drawn0.refl _ | apply Drawn0.step)⟩
                                  · rw [if_neg c36] at H
                                    exact absurd H (by simp)
                                · rw [if_neg c35] at H
                                  exact absurd H (by simp)
                              · replace c33 := Bool.eq_false_iff.mpr c33
                                subst c33
                                have H1 : (patchworklaw5_GlobEnds.l1 k5 a0 a1 x6_2 (wrap64 ((a1.size : Int) - (a0.size : Int))) false false (wrap64 (x11_5 + 1))) = some r := by rw [if_neg (show ¬ (false = true) by decide)] at H; exact H
                                clear H
                                have H := H1
                                clear H1
                                have H' := Aside0.mk H
                                clear H
                                go_wp2
                                go_roundg k5
                                case measure => have := HJ3.out; have := HK2.out; have := HJ13.out; have := HJ18.out; have := HK5.out; omega
                                case rel => exact ⟨(false), (false), (wrap64 (x11_5 + 1)), (by first | rfl | (simp; done) | (simp [*]; done)), (by first | rfl | (simp; done) | (simp [*]; done)), (by first | rfl | (simp; done) | (simp [*]; done)), H', ⟨by have := HJ3.out; have := HK2.out; have := HJ13.out; have := HJ18.out; have := HK5.out; omega⟩, by repeat (first | exact Drawn0.refl _ | apply Drawn0.step)⟩
                          · rw [if_neg c23] at H
                            have c23b0 : decide (x11_5 < (wrap64 ((a1.size : Int) - (a0.size : Int)))) = false := decide_eq_false c23
                            clear c23
                            by_cases c38 : 1 + x6_2.size ≤ 9223372036854775807
                            · rw [if_pos c38] at H
                              have c38b0 := eq_true c38
                              have c38b1 : decide (1 + x6_2.size ≤ 9223372036854775807) = true := decide_eq_true c38
                              try have c38b2 : (9223372036854775807 < 1 + x6_2.size) = False := eq_false (Nat.not_lt.2 c38)
                              replace H := Option.bind_eq_some_iff.mp H
                              obtain ⟨t225, A390, H⟩ := H
                              replace H : (if (t225 == x9_5) = true then (if x6_2.size + 1 ≤ 9223372036854775807 then ((glob_Match.f k5 (x6_2 ++ (⟨#[42]⟩ : ByteArray)) a1).bind fun t226 => (some (t226 == x10_5))) else (none)) else (some false)) = some r := H
                              have A39 := Aside0.mk A390
                              clear A390
                              by_cases c40 : (t225 == x9_5) = true
                              · rw [if_pos c40] at H
                                have c40b0 : (t225 == x9_5) = true := c40
                                (try (have c40b1 : decide (t225 = x9_5) = true := by simpa using c40))
                                (try (have c40b2 : (t225 == x9_5) = true := by simpa using c40))
                                clear c40
                                by_cases c41 : x6_2.size + 1 ≤ 9223372036854775807
                                · rw [if_pos c41] at H
                                  have c41b0 := eq_true c41
                                  have c41b1 : decide (x6_2.size + 1 ≤ 9223372036854775807) = true := decide_eq_true c41
                                  try have c41b2 : (9223372036854775807 < x6_2.size + 1) = False := eq_false (Nat.not_lt.2 c41)
                                  replace H := Option.bind_eq_some_iff.mp H
                                  obtain ⟨t226, A420, H⟩ := H
                                  replace H : (some (t226 == x10_5)) = some r := H
                                  have A42 := Aside0.mk A420
                                  clear A420
                                  obtain rfl := Option.some.inj H
                                  go_wp2_with (first | ((with_reducible refine gate_callee (f := 24) rfl ?_); refine goesL_ (some 89) rfl rfl Try.func24 (by kernel_rfl) rfl #[.string ((⟨#[42]⟩ : ByteArray) ++ x6_2), .string a1] rfl (by (try simp only [List.map_toArray, List.map_cons, List.map_nil]); first | done | rfl | (simp only [List.length_drop, List.length_take]; rfl)) ?_; (with_reducible refine (glob_Match.calls k5 ((⟨#[42]⟩ : ByteArray) ++ x6_2) a1 t225 _ ?side1 A39.out).mono ?_); (case side1 => first | exact hX | exact XW.drawn hX (by repeat (first | exact Drawn0.refl _ | apply Drawn0.step))); rintro e w' ⟨rfl, ⟨nd, rfl⟩⟩; refine ⟨_, rfl, ?_⟩) | (go_at_call 24; (with_reducible refine (glob_Match.calls k5 (x6_2 ++ (⟨#[42]⟩ : ByteArray)) a1 t226 _ ?side1 A42.out).mono ?_); (case side1 => first | exact hX | exact XW.drawn hX (by repeat (first | exact Drawn0.refl _ | apply Drawn0.step))); rintro e w' ⟨rfl, ⟨nd, rfl⟩⟩))
                                  go_ret
                                  exact ⟨by first | rfl | (simp; done) | (simp [*]; done), by repeat (first | exact Drawn0.refl _ | apply Drawn0.step)⟩
                                · rw [if_neg c41] at H
                                  exact absurd H (by simp)
                              · rw [if_neg c40] at H
                                have c40b0 : (t225 == x9_5) = false := by simpa using c40
                                (try (have c40b1 : decide (t225 = x9_5) = false := by simpa using c40))
                                (try (have c40b2 : (t225 == x9_5) = false := by simpa using c40))
                                (try (have c40b3 : ¬ (t225 = x9_5) := by simpa using c40))
                                clear c40
                                obtain rfl := Option.some.inj H
                                go_wp2_with (first | ((with_reducible refine gate_callee (f := 24) rfl ?_); refine goesL_ (some 89) rfl rfl Try.func24 (by kernel_rfl) rfl #[.string ((⟨#[42]⟩ : ByteArray) ++ x6_2), .string a1] rfl (by (try simp only [List.map_toArray, List.map_cons, List.map_nil]); first | done | rfl | (simp only [List.length_drop, List.length_take]; rfl)) ?_; (with_reducible refine (glob_Match.calls k5 ((⟨#[42]⟩ : ByteArray) ++ x6_2) a1 t225 _ ?side1 A39.out).mono ?_); (case side1 => first | exact hX | exact XW.drawn hX (by repeat (first | exact Drawn0.refl _ | apply Drawn0.step))); rintro e w' ⟨rfl, ⟨nd, rfl⟩⟩; refine ⟨_, rfl, ?_⟩))
                                go_ret
                                exact ⟨by first | rfl | (simp; done) | (simp [*]; done), by repeat (first | exact Drawn0.refl _ | apply Drawn0.step)⟩
                            · rw [if_neg c38] at H
                              exact absurd H (by simp)

/-- THE ONE PURE STATEMENT of patchworklaw5_GlobEnds: yours. -/
def patchworklaw5_GlobEnds.Pure : Prop := ∀ (a0 : ByteArray) (a1 : ByteArray), a0.size ≤ 140737488351232 → a1.size ≤ 140737488351232 → ∃ k, patchworklaw5_GlobEnds.f k a0 a1 = some true
theorem patchworklaw5_GlobEnds.walk (P : patchworklaw5_GlobEnds.Pure) (a0 : ByteArray) (a1 : ByteArray) (w : World) (w0 : a0.size ≤ 140737488351232) (w1 : a1.size ≤ 140737488351232) (hX : XW w) :
    Calls Try.prog 11 #[.string a0, .string a1] w fun e w' => e = .returned (.bool true) ∧ Below w.heap.size w w' := by
  obtain ⟨k, h⟩ := P a0 a1 w0 w1
  refine (patchworklaw5_GlobEnds.calls k a0 a1 true w hX h).mono ?_
  rintro e w' ⟨rfl, hd⟩
  exact ⟨rfl, hd.below⟩

end Go.Proofs.Ytahfoeichmfloaa.Gl
