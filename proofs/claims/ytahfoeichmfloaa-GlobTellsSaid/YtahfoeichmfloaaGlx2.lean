/- Functions of the given program in plain Lean, each with the proof that its call answers so; no condition. Written by a program of this session's own (a turned copy of the kit's printing program). -/
import Derived.Test.YtahfoeichmfloaaGlx0
import Derived.Test.YtahfoeichmfloaaGlx1
namespace Go.Proofs.Ytahfoeichmfloaa.Gl
open Go.RowKit Go.Proofs.YtahfoeichmfloaaW.PrintWords Go.Proofs.YtahfoeichmfloaaW.PrintLast Go.Proofs.YtahfoeichmfloaaW.PrintMore
attribute [local go_sem] max2_int min2_int max_two min_two max_three min_three max_four min_four   -- for this text's walks alone
set_option linter.unusedVariables false
set_option linter.unusedSimpArgs false

/-! ### glob_set: function 44 -/
mutual
def glob_set.j0 : Nat → ByteArray → Int → Int → Bool → Option (Bool × Int)
  | 0, _, _, _, _ => none
  | k + 1, x0, x1, x2, x8 => if x8 = true then (glob_set.j1 k x0 (wrap64 (x1 + 1)) x2 x8) else (glob_set.j1 k x0 x1 x2 x8)
def glob_set.j1 : Nat → ByteArray → Int → Int → Bool → Option (Bool × Int)
  | 0, _, _, _, _ => none
  | k + 1, x0, x1, x2, x8 => glob_set.l0 k x0 x1 x2 x8 false x1
def glob_set.l0 : Nat → ByteArray → Int → Int → Bool → Bool → Int → Option (Bool × Int)
  | 0, _, _, _, _, _, _ => none
  | k + 1, x0, x1, x2, x8, x9, x10 => if x1 < (x0.size : Int) then (if 0 ≤ x1 then (if (bt x0 x1) = 93 then (glob_set.j3 k x0 x1 x2 x8 x9 x10 (decide (x1 > x10))) else (glob_set.j3 k x0 x1 x2 x8 x9 x10 false)) else (none)) else (some (false, (-1)))
def glob_set.j3 : Nat → ByteArray → Int → Int → Bool → Bool → Int → Bool → Option (Bool × Int)
  | 0, _, _, _, _, _, _, _ => none
  | k + 1, x0, x1, x2, x8, x9, x10, x54 => if x54 = true then (if (x9 != x8) = true then (some ((x2 != 47), wrap64 (x1 + 1))) else (some (false, wrap64 (x1 + 1)))) else ((glob_Named.f k x0 x1).bind fun bt107 => (if bt107.2 ≥ 0 then ((glob_Class.f k bt107.1 x2).bind fun bt109 => (if x9 = true then (glob_set.l0 k x0 bt107.2 x2 x8 true x10) else (glob_set.l0 k x0 bt107.2 x2 x8 bt109.1 x10))) else ((glob_sign.f x0 x1).bind fun bt111 => (if (wrap64 (bt111.2 + 1)) < (x0.size : Int) then (if 0 ≤ bt111.2 then (if bt111.2 < (x0.size : Int) then (if (bt x0 bt111.2) = 45 then (if 0 ≤ (wrap64 (bt111.2 + 1)) then (glob_set.j4 k x0 x2 x8 x9 x10 bt111.1 bt111.2 bt111.1 ((bt x0 (wrap64 (bt111.2 + 1))) != 93)) else (none)) else (glob_set.j4 k x0 x2 x8 x9 x10 bt111.1 bt111.2 bt111.1 false)) else (none)) else (none)) else (glob_set.j4 k x0 x2 x8 x9 x10 bt111.1 bt111.2 bt111.1 false)))))
def glob_set.j4 : Nat → ByteArray → Int → Bool → Bool → Int → Int → Int → Int → Bool → Option (Bool × Int)
  | 0, _, _, _, _, _, _, _, _, _ => none
  | k + 1, x0, x2, x8, x9, x10, x15, x16, x17, x107 => if x107 = true then ((glob_Named.f k x0 (wrap64 (x16 + 1))).bind fun bt113 => (if bt113.2 < 0 then ((glob_sign.f x0 (wrap64 (x16 + 1))).bind fun bt115 => (if x9 = true then (glob_set.l0 k x0 bt115.2 x2 x8 true x10) else (if x2 ≥ x15 then (glob_set.l0 k x0 bt115.2 x2 x8 (decide (x2 ≤ bt115.1)) x10) else (glob_set.l0 k x0 bt115.2 x2 x8 false x10)))) else (if x9 = true then (glob_set.l0 k x0 x16 x2 x8 true x10) else (if x2 ≥ x15 then (glob_set.l0 k x0 x16 x2 x8 (decide (x2 ≤ x17)) x10) else (glob_set.l0 k x0 x16 x2 x8 false x10))))) else (if x9 = true then (glob_set.l0 k x0 x16 x2 x8 true x10) else (if x2 ≥ x15 then (glob_set.l0 k x0 x16 x2 x8 (decide (x2 ≤ x17)) x10) else (glob_set.l0 k x0 x16 x2 x8 false x10)))
end
def glob_set.f (k : Nat) (a0 : ByteArray) (a1 : Int) (a2 : Int) : Option (Bool × Int) := if (wrap64 (a1 + 1)) < (a0.size : Int) then (if 0 ≤ (wrap64 (a1 + 1)) then (if (bt a0 (wrap64 (a1 + 1))) = 33 then (glob_set.j0 k a0 (wrap64 (a1 + 1)) a2 true) else (glob_set.j0 k a0 (wrap64 (a1 + 1)) a2 ((bt a0 (wrap64 (a1 + 1))) == 94))) else (none)) else (glob_set.j0 k a0 (wrap64 (a1 + 1)) a2 false)
theorem glob_set.mono_l : ∀ k, (∀ y0 y1 y2 y3, LeO (glob_set.j0 k y0 y1 y2 y3) (glob_set.j0 (k + 1) y0 y1 y2 y3)) ∧ (∀ y0 y1 y2 y3, LeO (glob_set.j1 k y0 y1 y2 y3) (glob_set.j1 (k + 1) y0 y1 y2 y3)) ∧ (∀ y0 y1 y2 y3 y4 y5, LeO (glob_set.l0 k y0 y1 y2 y3 y4 y5) (glob_set.l0 (k + 1) y0 y1 y2 y3 y4 y5)) ∧ (∀ y0 y1 y2 y3 y4 y5 y6, LeO (glob_set.j3 k y0 y1 y2 y3 y4 y5 y6) (glob_set.j3 (k + 1) y0 y1 y2 y3 y4 y5 y6)) ∧ (∀ y0 y1 y2 y3 y4 y5 y6 y7 y8, LeO (glob_set.j4 k y0 y1 y2 y3 y4 y5 y6 y7 y8) (glob_set.j4 (k + 1) y0 y1 y2 y3 y4 y5 y6 y7 y8))
  | 0 => ⟨fun _ _ _ _ r h => by simp [glob_set.j0] at h, fun _ _ _ _ r h => by simp [glob_set.j1] at h, fun _ _ _ _ _ _ r h => by simp [glob_set.l0] at h, fun _ _ _ _ _ _ _ r h => by simp [glob_set.j3] at h, fun _ _ _ _ _ _ _ _ _ r h => by simp [glob_set.j4] at h⟩
  | k + 1 => by
    obtain ⟨ih0, ih1, ih2, ih3, ih4⟩ := glob_set.mono_l k
    refine ⟨?_, ?_, ?_, ?_, ?_⟩
    · intro y0 y1 y2 y3
      unfold glob_set.j0
      repeat' first
      | (with_reducible exact ih0 _ _ _ _)
      | (with_reducible exact ih1 _ _ _ _)
      | (with_reducible exact ih2 _ _ _ _ _ _)
      | (with_reducible exact ih3 _ _ _ _ _ _ _)
      | (with_reducible exact ih4 _ _ _ _ _ _ _ _ _)
      | (with_reducible exact glob_Class.mono _ _ _)
      | (with_reducible exact glob_Named.mono _ _ _)
      | (with_reducible exact LeO.refl _)
      | (with_reducible exact LeO.none _)
      | (with_reducible refine LeO.ite ?_ ?_)
      | (with_reducible refine LeO.bind ?_ (fun _ => ?_))
      | exact ih0 _ _ _ _
      | exact ih1 _ _ _ _
      | exact ih2 _ _ _ _ _ _
      | exact ih3 _ _ _ _ _ _ _
      | exact ih4 _ _ _ _ _ _ _ _ _
      | exact glob_Class.mono _ _ _
      | exact glob_Named.mono _ _ _
      | exact LeO.none _
      | refine LeO.ite ?_ ?_
      | refine LeO.bind ?_ (fun _ => ?_)
    · intro y0 y1 y2 y3
      unfold glob_set.j1
      repeat' first
      | (with_reducible exact ih0 _ _ _ _)
      | (with_reducible exact ih1 _ _ _ _)
      | (with_reducible exact ih2 _ _ _ _ _ _)
      | (with_reducible exact ih3 _ _ _ _ _ _ _)
      | (with_reducible exact ih4 _ _ _ _ _ _ _ _ _)
      | (with_reducible exact glob_Class.mono _ _ _)
      | (with_reducible exact glob_Named.mono _ _ _)
      | (with_reducible exact LeO.refl _)
      | (with_reducible exact LeO.none _)
      | (with_reducible refine LeO.ite ?_ ?_)
      | (with_reducible refine LeO.bind ?_ (fun _ => ?_))
      | exact ih0 _ _ _ _
      | exact ih1 _ _ _ _
      | exact ih2 _ _ _ _ _ _
      | exact ih3 _ _ _ _ _ _ _
      | exact ih4 _ _ _ _ _ _ _ _ _
      | exact glob_Class.mono _ _ _
      | exact glob_Named.mono _ _ _
      | exact LeO.none _
      | refine LeO.ite ?_ ?_
      | refine LeO.bind ?_ (fun _ => ?_)
    · intro y0 y1 y2 y3 y4 y5
      unfold glob_set.l0
      repeat' first
      | (with_reducible exact ih0 _ _ _ _)
      | (with_reducible exact ih1 _ _ _ _)
      | (with_reducible exact ih2 _ _ _ _ _ _)
      | (with_reducible exact ih3 _ _ _ _ _ _ _)
      | (with_reducible exact ih4 _ _ _ _ _ _ _ _ _)
      | (with_reducible exact glob_Class.mono _ _ _)
      | (with_reducible exact glob_Named.mono _ _ _)
      | (with_reducible exact LeO.refl _)
      | (with_reducible exact LeO.none _)
      | (with_reducible refine LeO.ite ?_ ?_)
      | (with_reducible refine LeO.bind ?_ (fun _ => ?_))
      | exact ih0 _ _ _ _
      | exact ih1 _ _ _ _
      | exact ih2 _ _ _ _ _ _
      | exact ih3 _ _ _ _ _ _ _
      | exact ih4 _ _ _ _ _ _ _ _ _
      | exact glob_Class.mono _ _ _
      | exact glob_Named.mono _ _ _
      | exact LeO.none _
      | refine LeO.ite ?_ ?_
      | refine LeO.bind ?_ (fun _ => ?_)
    · intro y0 y1 y2 y3 y4 y5 y6
      unfold glob_set.j3
      repeat' first
      | (with_reducible exact ih0 _ _ _ _)
      | (with_reducible exact ih1 _ _ _ _)
      | (with_reducible exact ih2 _ _ _ _ _ _)
      | (with_reducible exact ih3 _ _ _ _ _ _ _)
      | (with_reducible exact ih4 _ _ _ _ _ _ _ _ _)
      | (with_reducible exact glob_Class.mono _ _ _)
      | (with_reducible exact glob_Named.mono _ _ _)
      | (with_reducible exact LeO.refl _)
      | (with_reducible exact LeO.none _)
      | (with_reducible refine LeO.ite ?_ ?_)
      | (with_reducible refine LeO.bind ?_ (fun _ => ?_))
      | exact ih0 _ _ _ _
      | exact ih1 _ _ _ _
      | exact ih2 _ _ _ _ _ _
      | exact ih3 _ _ _ _ _ _ _
      | exact ih4 _ _ _ _ _ _ _ _ _
      | exact glob_Class.mono _ _ _
      | exact glob_Named.mono _ _ _
      | exact LeO.none _
      | refine LeO.ite ?_ ?_
      | refine LeO.bind ?_ (fun _ => ?_)
    · intro y0 y1 y2 y3 y4 y5 y6 y7 y8
      unfold glob_set.j4
      repeat' first
      | (with_reducible exact ih0 _ _ _ _)
      | (with_reducible exact ih1 _ _ _ _)
      | (with_reducible exact ih2 _ _ _ _ _ _)
      | (with_reducible exact ih3 _ _ _ _ _ _ _)
      | (with_reducible exact ih4 _ _ _ _ _ _ _ _ _)
      | (with_reducible exact glob_Class.mono _ _ _)
      | (with_reducible exact glob_Named.mono _ _ _)
      | (with_reducible exact LeO.refl _)
      | (with_reducible exact LeO.none _)
      | (with_reducible refine LeO.ite ?_ ?_)
      | (with_reducible refine LeO.bind ?_ (fun _ => ?_))
      | exact ih0 _ _ _ _
      | exact ih1 _ _ _ _
      | exact ih2 _ _ _ _ _ _
      | exact ih3 _ _ _ _ _ _ _
      | exact ih4 _ _ _ _ _ _ _ _ _
      | exact glob_Class.mono _ _ _
      | exact glob_Named.mono _ _ _
      | exact LeO.none _
      | refine LeO.ite ?_ ?_
      | refine LeO.bind ?_ (fun _ => ?_)
theorem glob_set.mono : ∀ a0 a1 a2 k, LeO (glob_set.f k a0 a1 a2) (glob_set.f (k + 1) a0 a1 a2) := by
  intro a0 a1 a2 k
  obtain ⟨ih0, ih1, ih2, ih3, ih4⟩ := glob_set.mono_l k
  unfold glob_set.f
  repeat' first
      | (with_reducible exact ih0 _ _ _ _)
      | (with_reducible exact ih1 _ _ _ _)
      | (with_reducible exact ih2 _ _ _ _ _ _)
      | (with_reducible exact ih3 _ _ _ _ _ _ _)
      | (with_reducible exact ih4 _ _ _ _ _ _ _ _ _)
      | (with_reducible exact glob_Class.mono _ _ _)
      | (with_reducible exact glob_Named.mono _ _ _)
      | (with_reducible exact LeO.refl _)
      | (with_reducible exact LeO.none _)
      | (with_reducible refine LeO.ite ?_ ?_)
      | (with_reducible refine LeO.bind ?_ (fun _ => ?_))
      | exact ih0 _ _ _ _
      | exact ih1 _ _ _ _
      | exact ih2 _ _ _ _ _ _
      | exact ih3 _ _ _ _ _ _ _
      | exact ih4 _ _ _ _ _ _ _ _ _
      | exact glob_Class.mono _ _ _
      | exact glob_Named.mono _ _ _
      | exact LeO.none _
      | refine LeO.ite ?_ ?_
      | refine LeO.bind ?_ (fun _ => ?_)
set_option maxHeartbeats 8000000 in
set_option maxRecDepth 100000 in
theorem glob_set.calls (k : Nat) (a0 : ByteArray) (a1 : Int) (a2 : Int) (r1 : Bool) (r2 : Int) (w : World) (hX : XW w) (h : glob_set.f k a0 a1 a2 = some (r1, r2)) :
    Calls Try.prog 44 #[.string a0, .int .i64 a1, .int .u8 a2] w fun e w' => e = .returned (.tuple #[.bool r1, .int .i64 r2]) ∧ Drawn0 w w' := by
  have H : (if (wrap64 (a1 + 1)) < (a0.size : Int) then (if 0 ≤ (wrap64 (a1 + 1)) then (if (bt a0 (wrap64 (a1 + 1))) = 33 then (glob_set.j0 k a0 (wrap64 (a1 + 1)) a2 true) else (glob_set.j0 k a0 (wrap64 (a1 + 1)) a2 ((bt a0 (wrap64 (a1 + 1))) == 94))) else (none)) else (glob_set.j0 k a0 (wrap64 (a1 + 1)) a2 false)) = some (r1, r2) := h
  clear h
  have HC4 := Aside0.mk H
  clear H
  go_enter Try.func44, Try.ntmps44
  go_upto_region 2 with (fail)
  go_cut [8] (fun v8 wc => ∃ (kq : Nat) (x8_3 : Bool), v8 = .bool x8_3 ∧ Aside0 (glob_set.j0 kq a0 (wrap64 (a1 + 1)) a2 x8_3 = some (r1, r2)) ∧ Aside0 (kq ≤ k) ∧ Drawn0 w wc)
  case first =>
    have H := HC4.out
    clear HC4
    by_cases c5 : (wrap64 (a1 + 1)) < (a0.size : Int)
    · rw [if_pos c5] at H
      have c5b0 : decide ((wrap64 (a1 + 1)) < (a0.size : Int)) = true := decide_eq_true c5
      clear c5
      (first | rw [c5b0] | (simp only [i64_w, i32_w]; rw [c5b0]) | skip)
      obtain ⟨ji6, hji6⟩ : ∃ j_ : Int, (wrap64 (a1 + 1)) = j_ := ⟨_, rfl⟩
      replace H : (if 0 ≤ (ji6) then (if (bt a0 (ji6)) = 33 then (glob_set.j0 k a0 ji6 a2 true) else (glob_set.j0 k a0 ji6 a2 ((bt a0 (ji6)) == 94))) else (none)) = some (r1, r2) := by first | (rw [hji6] at H; exact H) | (simp only [hji6] at H ⊢; exact H)
      (try rw [hji6] at c5b0)
      have hji6w : (IntKind.i64.wrap (a1 + 1)) = ji6 := (i64_w _).trans hji6
      by_cases c7 : 0 ≤ (ji6)
      · rw [if_pos c7] at H
        have c7b0 : decide (0 ≤ (ji6)) = true := decide_eq_true c7
        clear c7
        by_cases c9 : (bt a0 (ji6)) = 33
        · rw [if_pos c9] at H
          have c9b0 : ((bt a0 (ji6)) == 33) = true := beq_iff_eq.mpr c9
          have c9b1 : ((bt a0 (ji6)) != 33) = false := bne_eq_false_iff_eq.mpr c9
          clear c9
          have H' := Aside0.mk H
          clear H
          have p8 : 0 ≤ ((ji6) : Int) := of_decide_eq_true (by first | (with_reducible assumption) | assumption)
          have q8 : (ji6) < (a0.size : Int) := of_decide_eq_true (by first | (with_reducible assumption) | assumption)
          have hx8 := bt_at a0 (ji6)
          replace p8 := eq_true p8
          replace q8 := eq_true q8
          go_wp2
          (first | go_meet | (simp only [← hji6]; go_meet))
          case rel => exact ⟨_, (true), (by first | rfl | (simp; done) | (simp [*]; done)), (by first | (with_reducible exact H') | (simp only [hji6]; with_reducible exact H') | (simp only [hji6] at H' ⊢; with_reducible exact H') | exact H'), ⟨by first | omega | exact Nat.le_refl _⟩, by repeat (first | exact Drawn0.refl _ | apply Drawn0.step)⟩
        · rw [if_neg c9] at H
          have c9b0 : ((bt a0 (ji6)) == 33) = false := beq_eq_false_iff_ne.mpr c9
          have c9b1 : ((bt a0 (ji6)) != 33) = true := bne_iff_ne.mpr c9
          have H' := Aside0.mk H
          clear H
          have p8 : 0 ≤ ((ji6) : Int) := of_decide_eq_true (by first | (with_reducible assumption) | assumption)
          have q8 : (ji6) < (a0.size : Int) := of_decide_eq_true (by first | (with_reducible assumption) | assumption)
          have hx8 := bt_at a0 (ji6)
          replace p8 := eq_true p8
          replace q8 := eq_true q8
          have p10 : 0 ≤ ((ji6) : Int) := of_decide_eq_true (by first | (with_reducible assumption) | assumption)
          have q10 : (ji6) < (a0.size : Int) := of_decide_eq_true (by first | (with_reducible assumption) | assumption)
          have hx10 := bt_at a0 (ji6)
          replace p10 := eq_true p10
          replace q10 := eq_true q10
          go_wp2
          (first | go_meet | (simp only [← hji6]; go_meet))
          case rel => exact ⟨_, (((bt a0 (ji6)) == 94)), (by first | rfl | (simp; done) | (simp only [← hji6] <;> (first | rfl | simp)) | (simp [*]; done)), (by first | (with_reducible exact H') | (simp only [hji6]; with_reducible exact H') | (simp only [hji6] at H' ⊢; with_reducible exact H') | exact H'), ⟨by first | omega | exact Nat.le_refl _⟩, by repeat (first | exact Drawn0.refl _ | apply Drawn0.step)⟩
      · rw [if_neg c7] at H
        exact absurd H (by simp)
    · rw [if_neg c5] at H
      have c5b0 : decide ((wrap64 (a1 + 1)) < (a0.size : Int)) = false := decide_eq_false c5
      clear c5
      (first | rw [c5b0] | (simp only [i64_w, i32_w]; rw [c5b0]) | skip)
      have H' := Aside0.mk H
      clear H
      go_wp2
      go_meet
      case rel => exact ⟨_, (false), (by first | rfl | (simp; done) | (simp [*]; done)), H', ⟨by first | omega | exact Nat.le_refl _⟩, by repeat (first | exact Drawn0.refl _ | apply Drawn0.step)⟩
  case rest =>
    clear HC4
    try clear p1
    try clear q1
    try clear hx1
    try clear p2
    try clear c4
    try clear c5
    try clear c5b0
    try clear p6
    try clear c7
    try clear c7b0
    try clear p8
    try clear q8
    try clear hx8
    try clear c9
    try clear c9b0
    try clear c9b1
    try clear p10
    try clear q10
    try clear hx10
    try clear p10
    try clear p8
    try clear q10
    try clear q8
    obtain ⟨kq, x8_3, rfl, HA, HJ3, ⟨mc3, rfl⟩⟩ := hcut
    cases kq with
    | zero => exact absurd HA.out (by simp [glob_set.j0])
    | succ kj3 =>
      have H := HA.out
      clear HA
      simp only [glob_set.j0] at H
      have HC11 := Aside0.mk H
      clear H
      go_upto_if 38 with (fail)
      go_cut [1] (fun v1 wc => ∃ (kq : Nat) (x1_10 : Int), v1 = .int .i64 x1_10 ∧ Aside0 (glob_set.j1 kq a0 x1_10 a2 x8_3 = some (r1, r2)) ∧ Aside0 (kq ≤ kj3) ∧ Drawn0 w wc)
      case first =>
        have H := HC11.out
        clear HC11
        by_cases c12 : x8_3 = true
        · subst c12
          have H1 : (glob_set.j1 kj3 a0 (wrap64 ((wrap64 (a1 + 1)) + 1)) a2 true) = some (r1, r2) := by rw [if_pos rfl] at H; exact H
          clear H
          have H := H1
          clear H1
          have H' := Aside0.mk H
          clear H
          go_wp2
          go_meet
          case rel => exact ⟨_, (wrap64 ((wrap64 (a1 + 1)) + 1)), (by first | rfl | (simp; done) | (simp [*]; done)), H', ⟨by have := HJ3.out; first | omega | exact Nat.le_refl _⟩, by repeat (first | exact Drawn0.refl _ | apply Drawn0.step)⟩
        · replace c12 := Bool.eq_false_iff.mpr c12
          subst c12
          have H1 : (glob_set.j1 kj3 a0 (wrap64 (a1 + 1)) a2 false) = some (r1, r2) := by rw [if_neg (show ¬ (false = true) by decide)] at H; exact H
          clear H
          have H := H1
          clear H1
          have H' := Aside0.mk H
          clear H
          go_wp2
          go_meet
          case rel => exact ⟨_, ((wrap64 (a1 + 1))), (by first | rfl | (simp; done) | (simp [*]; done)), H', ⟨by have := HJ3.out; first | omega | exact Nat.le_refl _⟩, by repeat (first | exact Drawn0.refl _ | apply Drawn0.step)⟩
      case rest =>
        clear HC11
        try clear c1
        try clear p1
        try clear q1
        try clear hx1
        try clear p2
        try clear c3
        try clear c4
        try clear c5
        try clear c5b0
        try clear p6
        try clear c7
        try clear c7b0
        try clear p8
        try clear q8
        try clear hx8
        try clear c9
        try clear c9b0
        try clear c9b1
        try clear p10
        try clear q10
        try clear hx10
        try clear c12
        try clear p1
        try clear p10
        try clear p2
        try clear p6
        try clear p8
        try clear q1
        try clear q10
        try clear q8
        obtain ⟨kq, x1_10, rfl, HA, HJ10, ⟨mc10, rfl⟩⟩ := hcut
        cases kq with
        | zero => exact absurd HA.out (by simp [glob_set.j1])
        | succ kj10 =>
          have H := HA.out
          clear HA
          simp only [glob_set.j1] at H
          have H' := Aside0.mk H
          clear H
          go_wp2
          go_loopg [1, 9] kj10 (fun kq v1 v9 w' => ∃ (x1_3 : Int) (x9_3 : Bool), v1 = .int .i64 x1_3 ∧ v9 = .bool x9_3 ∧ Aside0 (glob_set.l0 kq a0 x1_3 a2 x8_3 x9_3 x1_10 = some (r1, r2)) ∧ Aside0 (kq ≤ kj10) ∧ Drawn0 w w')
          case atStart => exact ⟨(x1_10), (false), (by first | rfl | (simp; done) | (simp [*]; done)), (by first | rfl | (simp; done) | (simp [*]; done)), H', ⟨Nat.le_refl _⟩, by repeat (first | exact Drawn0.refl _ | apply Drawn0.step)⟩
          case round =>
            clear H'
            try clear c1
            try clear p1
            try clear q1
            try clear hx1
            try clear p2
            try clear c3
            try clear c4
            try clear c5
            try clear c5b0
            try clear p6
            try clear c7
            try clear c7b0
            try clear p8
            try clear q8
            try clear hx8
            try clear c9
            try clear c9b0
            try clear c9b1
            try clear c10
            try clear p10
            try clear q10
            try clear hx10
            try clear c12
            try clear p1
            try clear p10
            try clear p2
            try clear p6
            try clear p8
            try clear q1
            try clear q10
            try clear q8
            obtain ⟨x1_3, x9_3, rfl, rfl, HA, HK3, ⟨m3, rfl⟩⟩ := hrel
            cases gk with
            | zero => exact absurd HA.out (by simp [glob_set.l0])
            | succ k3 =>
              have H := HA.out
              clear HA
              simp only [glob_set.l0] at H
              by_cases c13 : x1_3 < (a0.size : Int)
              · rw [if_pos c13] at H
                have c13b0 : decide (x1_3 < (a0.size : Int)) = true := decide_eq_true c13
                clear c13
                have HC14 := Aside0.mk H
                clear H
                go_upto_region 8 with (fail)
                go_cut [54] (fun v54 wc => ∃ (kq : Nat) (x54_13 : Bool), v54 = .bool x54_13 ∧ Aside0 (glob_set.j3 kq a0 x1_3 a2 x8_3 x9_3 x1_10 x54_13 = some (r1, r2)) ∧ Aside0 (kq ≤ k3) ∧ Drawn0 w wc)
                case first =>
                  have H := HC14.out
                  clear HC14
                  by_cases c15 : 0 ≤ x1_3
                  · rw [if_pos c15] at H
                    have c15b0 : decide (0 ≤ x1_3) = true := decide_eq_true c15
                    clear c15
                    (first | rw [c15b0] | (simp only [i64_w, i32_w]; rw [c15b0]) | skip)
                    by_cases c17 : (bt a0 x1_3) = 93
                    · rw [if_pos c17] at H
                      have c17b0 : ((bt a0 x1_3) == 93) = true := beq_iff_eq.mpr c17
                      have c17b1 : ((bt a0 x1_3) != 93) = false := bne_eq_false_iff_eq.mpr c17
                      clear c17
                      have H' := Aside0.mk H
                      clear H
                      have p16 : 0 ≤ (x1_3 : Int) := of_decide_eq_true (by first | (with_reducible assumption) | assumption)
                      have q16 : x1_3 < (a0.size : Int) := of_decide_eq_true (by first | (with_reducible assumption) | assumption)
                      have hx16 := bt_at a0 x1_3
                      replace p16 := eq_true p16
                      replace q16 := eq_true q16
                      go_wp2
                      go_meet
                      case rel => exact ⟨_, (decide (x1_3 > x1_10)), (by first | rfl | (simp; done) | (simp [*]; done)), H', ⟨by have := HJ3.out; have := HJ10.out; have := HK3.out; first | omega | exact Nat.le_refl _⟩, by repeat (first | exact Drawn0.refl _ | apply Drawn0.step)⟩
                    · rw [if_neg c17] at H
                      have c17b0 : ((bt a0 x1_3) == 93) = false := beq_eq_false_iff_ne.mpr c17
                      have c17b1 : ((bt a0 x1_3) != 93) = true := bne_iff_ne.mpr c17
                      have H' := Aside0.mk H
                      clear H
                      have p16 : 0 ≤ (x1_3 : Int) := of_decide_eq_true (by first | (with_reducible assumption) | assumption)
                      have q16 : x1_3 < (a0.size : Int) := of_decide_eq_true (by first | (with_reducible assumption) | assumption)
                      have hx16 := bt_at a0 x1_3
                      replace p16 := eq_true p16
                      replace q16 := eq_true q16
                      go_wp2
                      go_meet
                      case rel => exact ⟨_, (false), (by first | rfl | (simp; done) | (simp [*]; done)), H', ⟨by have := HJ3.out; have := HJ10.out; have := HK3.out; first | omega | exact Nat.le_refl _⟩, by repeat (first | exact Drawn0.refl _ | apply Drawn0.step)⟩
                  · rw [if_neg c15] at H
                    exact absurd H (by simp)
                case rest =>
                  clear HC14
                  try clear c1
                  try clear p1
                  try clear q1
                  try clear hx1
                  try clear p2
                  try clear c3
                  try clear c4
                  try clear c5
                  try clear c5b0
                  try clear p6
                  try clear c7
                  try clear c7b0
                  try clear p8
                  try clear q8
                  try clear hx8
                  try clear c9
                  try clear c9b0
                  try clear c9b1
                  try clear c10
                  try clear p10
                  try clear q10
                  try clear hx10
                  try clear c12
                  try clear c13
                  try clear c13b0
                  try clear c15
                  try clear c15b0
                  try clear p16
                  try clear q16
                  try clear hx16
                  try clear c17
                  try clear c17b0
                  try clear c17b1
                  try clear p1
                  try clear p10
                  try clear p16
                  try clear p2
                  try clear p6
                  try clear p8
                  try clear q1
                  try clear q10
                  try clear q16
                  try clear q8
                  obtain ⟨kq, x54_13, rfl, HA, HJ13, ⟨mc13, rfl⟩⟩ := hcut
                  cases kq with
                  | zero => exact absurd HA.out (by simp [glob_set.j3])
                  | succ kj13 =>
                    have H := HA.out
                    clear HA
                    simp only [glob_set.j3] at H
                    by_cases c18 : x54_13 = true
                    · subst c18
                      have H1 : (if (x9_3 != x8_3) = true then (some ((a2 != 47), wrap64 (x1_3 + 1))) else (some (false, wrap64 (x1_3 + 1)))) = some (r1, r2) := by rw [if_pos rfl] at H; exact H
                      clear H
                      have H := H1
                      clear H1
                      by_cases c19 : (x9_3 != x8_3) = true
                      · rw [if_pos c19] at H
                        have c19b0 : (x9_3 != x8_3) = true := c19
                        (try (have c19b1 : decide (x9_3 = x8_3) = false := by simpa using c19))
                        (try (have c19b2 : (x9_3 == x8_3) = false := by simpa using c19))
                        (try (have c19b3 : ¬ (x9_3 = x8_3) := by simpa using c19))
                        clear c19
                        simp only [Option.some.injEq, Prod.mk.injEq] at H
                        obtain ⟨rfl, rfl⟩ := H
                        go_wp2
                        go_ret2
                        exact ⟨by first | rfl | (simp; done) | (simp [*]; done), by repeat (first | exact Drawn0.refl _ | apply Drawn0.step)⟩
                      · rw [if_neg c19] at H
                        have c19b0 : (x9_3 != x8_3) = false := by simpa using c19
                        (try (have c19b1 : decide (x9_3 = x8_3) = true := by simpa using c19))
                        (try (have c19b2 : (x9_3 == x8_3) = true := by simpa using c19))
                        clear c19
                        simp only [Option.some.injEq, Prod.mk.injEq] at H
                        obtain ⟨rfl, rfl⟩ := H
                        go_wp2
                        go_ret2
                        exact ⟨by first | rfl | (simp; done) | (simp [*]; done), by repeat (first | exact Drawn0.refl _ | apply Drawn0.step)⟩
                    · replace c18 := Bool.eq_false_iff.mpr c18
                      subst c18
                      have H1 : ((glob_Named.f kj13 a0 x1_3).bind fun bt107 => (if bt107.2 ≥ 0 then ((glob_Class.f kj13 bt107.1 a2).bind fun bt109 => (if x9_3 = true then (glob_set.l0 kj13 a0 bt107.2 a2 x8_3 true x1_10) else (glob_set.l0 kj13 a0 bt107.2 a2 x8_3 bt109.1 x1_10))) else ((glob_sign.f a0 x1_3).bind fun bt111 => (if (wrap64 (bt111.2 + 1)) < (a0.size : Int) then (if 0 ≤ bt111.2 then (if bt111.2 < (a0.size : Int) then (if (bt a0 bt111.2) = 45 then (if 0 ≤ (wrap64 (bt111.2 + 1)) then (glob_set.j4 kj13 a0 a2 x8_3 x9_3 x1_10 bt111.1 bt111.2 bt111.1 ((bt a0 (wrap64 (bt111.2 + 1))) != 93)) else (none)) else (glob_set.j4 kj13 a0 a2 x8_3 x9_3 x1_10 bt111.1 bt111.2 bt111.1 false)) else (none)) else (none)) else (glob_set.j4 kj13 a0 a2 x8_3 x9_3 x1_10 bt111.1 bt111.2 bt111.1 false))))) = some (r1, r2) := by rw [if_neg (show ¬ (false = true) by decide)] at H; exact H
                      clear H
                      have H := H1
                      clear H1
                      replace H := Option.bind_eq_some_iff.mp H
                      obtain ⟨⟨t107, t108⟩, A200, H⟩ := H
                      replace H : (if t108 ≥ 0 then ((glob_Class.f kj13 t107 a2).bind fun bt109 => (if x9_3 = true then (glob_set.l0 kj13 a0 t108 a2 x8_3 true x1_10) else (glob_set.l0 kj13 a0 t108 a2 x8_3 bt109.1 x1_10))) else ((glob_sign.f a0 x1_3).bind fun bt111 => (if (wrap64 (bt111.2 + 1)) < (a0.size : Int) then (if 0 ≤ bt111.2 then (if bt111.2 < (a0.size : Int) then (if (bt a0 bt111.2) = 45 then (if 0 ≤ (wrap64 (bt111.2 + 1)) then (glob_set.j4 kj13 a0 a2 x8_3 x9_3 x1_10 bt111.1 bt111.2 bt111.1 ((bt a0 (wrap64 (bt111.2 + 1))) != 93)) else (none)) else (glob_set.j4 kj13 a0 a2 x8_3 x9_3 x1_10 bt111.1 bt111.2 bt111.1 false)) else (none)) else (none)) else (glob_set.j4 kj13 a0 a2 x8_3 x9_3 x1_10 bt111.1 bt111.2 bt111.1 false)))) = some (r1, r2) := H
                      have A20 := Aside0.mk A200
                      clear A200
                      by_cases c21 : t108 ≥ 0
                      · rw [if_pos c21] at H
                        have c21b0 : decide (0 ≤ t108) = true := decide_eq_true c21
                        clear c21
                        replace H := Option.bind_eq_some_iff.mp H
                        obtain ⟨⟨t109, t110⟩, A220, H⟩ := H
                        replace H : (if x9_3 = true then (glob_set.l0 kj13 a0 t108 a2 x8_3 true x1_10) else (glob_set.l0 kj13 a0 t108 a2 x8_3 t109 x1_10)) = some (r1, r2) := H
                        have A22 := Aside0.mk A220
                        clear A220
                        by_cases c23 : x9_3 = true
                        · subst c23
                          have H1 : (glob_set.l0 kj13 a0 t108 a2 x8_3 true x1_10) = some (r1, r2) := by rw [if_pos rfl] at H; exact H
                          clear H
                          have H := H1
                          clear H1
                          have H' := Aside0.mk H
                          clear H
                          go_wp2_with (first | ((with_reducible refine gate_callee (f := 49) rfl ?_); refine goesL_ (some 67) rfl rfl Try.func49 (by kernel_rfl) rfl #[.string a0, .int .i64 x1_3] rfl (by (try simp only [List.map_toArray, List.map_cons, List.map_nil]); first | done | rfl | (simp only [List.length_drop, List.length_take]; rfl)) ?_; (with_reducible refine (glob_Named.calls kj13 a0 x1_3 t107 t108 _ ?side1 A20.out).mono ?_); (case side1 => first | exact hX | exact XW.drawn hX (by repeat (first | exact Drawn0.refl _ | apply Drawn0.step))); rintro e w' ⟨rfl, ⟨nd, rfl⟩⟩; refine ⟨_, rfl, ?_⟩) | ((with_reducible refine gate_callee (f := 50) rfl ?_); refine goesL_ (some 75) rfl rfl Try.func50 (by kernel_rfl) rfl #[.string t107, .int .u8 a2] rfl (by (try simp only [List.map_toArray, List.map_cons, List.map_nil]); first | done | rfl | (simp only [List.length_drop, List.length_take]; rfl)) ?_; (with_reducible refine (glob_Class.calls kj13 t107 a2 t109 t110 _ A22.out).mono ?_); rintro e w' ⟨rfl, ⟨nd, rfl⟩⟩; refine ⟨_, rfl, ?_⟩))
                          go_roundg kj13
                          case measure => have := HJ3.out; have := HJ10.out; have := HK3.out; have := HJ13.out; omega
                          case rel => exact ⟨(t108), (true), (by first | rfl | (simp; done) | (simp [*]; done)), (by first | rfl | (simp; done) | (simp [*]; done)), H', ⟨by have := HJ3.out; have := HJ10.out; have := HK3.out; have := HJ13.out; omega⟩, by repeat (first | exact Drawn0.refl _ | apply Drawn0.step)⟩
                        · replace c23 := Bool.eq_false_iff.mpr c23
                          subst c23
                          have H1 : (glob_set.l0 kj13 a0 t108 a2 x8_3 t109 x1_10) = some (r1, r2) := by rw [if_neg (show ¬ (false = true) by decide)] at H; exact H
                          clear H
                          have H := H1
                          clear H1
                          have H' := Aside0.mk H
                          clear H
                          go_wp2_with (first | ((with_reducible refine gate_callee (f := 49) rfl ?_); refine goesL_ (some 67) rfl rfl Try.func49 (by kernel_rfl) rfl #[.string a0, .int .i64 x1_3] rfl (by (try simp only [List.map_toArray, List.map_cons, List.map_nil]); first | done | rfl | (simp only [List.length_drop, List.length_take]; rfl)) ?_; (with_reducible refine (glob_Named.calls kj13 a0 x1_3 t107 t108 _ ?side1 A20.out).mono ?_); (case side1 => first | exact hX | exact XW.drawn hX (by repeat (first | exact Drawn0.refl _ | apply Drawn0.step))); rintro e w' ⟨rfl, ⟨nd, rfl⟩⟩; refine ⟨_, rfl, ?_⟩) | ((with_reducible refine gate_callee (f := 50) rfl ?_); refine goesL_ (some 75) rfl rfl Try.func50 (by kernel_rfl) rfl #[.string t107, .int .u8 a2] rfl (by (try simp only [List.map_toArray, List.map_cons, List.map_nil]); first | done | rfl | (simp only [List.length_drop, List.length_take]; rfl)) ?_; (with_reducible refine (glob_Class.calls kj13 t107 a2 t109 t110 _ A22.out).mono ?_); rintro e w' ⟨rfl, ⟨nd, rfl⟩⟩; refine ⟨_, rfl, ?_⟩))
                          go_roundg kj13
                          case measure => have := HJ3.out; have := HJ10.out; have := HK3.out; have := HJ13.out; omega
                          case rel => exact ⟨(t108), (t109), (by first | rfl | (simp; done) | (simp [*]; done)), (by first | rfl | (simp; done) | (simp [*]; done)), H', ⟨by have := HJ3.out; have := HJ10.out; have := HK3.out; have := HJ13.out; omega⟩, by repeat (first | exact Drawn0.refl _ | apply Drawn0.step)⟩
                      · rw [if_neg c21] at H
                        have c21b0 : decide (0 ≤ t108) = false := decide_eq_false c21
                        clear c21
                        replace H := Option.bind_eq_some_iff.mp H
                        obtain ⟨⟨t111, t112⟩, A240, H⟩ := H
                        replace H : (if (wrap64 (t112 + 1)) < (a0.size : Int) then (if 0 ≤ t112 then (if t112 < (a0.size : Int) then (if (bt a0 t112) = 45 then (if 0 ≤ (wrap64 (t112 + 1)) then (glob_set.j4 kj13 a0 a2 x8_3 x9_3 x1_10 t111 t112 t111 ((bt a0 (wrap64 (t112 + 1))) != 93)) else (none)) else (glob_set.j4 kj13 a0 a2 x8_3 x9_3 x1_10 t111 t112 t111 false)) else (none)) else (none)) else (glob_set.j4 kj13 a0 a2 x8_3 x9_3 x1_10 t111 t112 t111 false)) = some (r1, r2) := H
                        have A24 := Aside0.mk A240
                        clear A240
                        have HC25 := Aside0.mk H
                        clear H
                        go_upto_region 16 with (first | ((with_reducible refine gate_callee (f := 49) rfl ?_); refine goesL_ (some 67) rfl rfl Try.func49 (by kernel_rfl) rfl #[.string a0, .int .i64 x1_3] rfl (by (try simp only [List.map_toArray, List.map_cons, List.map_nil]); first | done | rfl | (simp only [List.length_drop, List.length_take]; rfl)) ?_; (with_reducible refine (glob_Named.calls kj13 a0 x1_3 t107 t108 _ ?side1 A20.out).mono ?_); (case side1 => first | exact hX | exact XW.drawn hX (by repeat (first | exact Drawn0.refl _ | apply Drawn0.step))); rintro e w' ⟨rfl, ⟨nd, rfl⟩⟩; refine ⟨_, rfl, ?_⟩) | ((with_reducible refine gate_callee (f := 45) rfl ?_); refine goesL_ (some 86) rfl rfl Try.func45 (by kernel_rfl) rfl #[.string a0, .int .i64 x1_3] rfl (by (try simp only [List.map_toArray, List.map_cons, List.map_nil]); first | done | rfl | (simp only [List.length_drop, List.length_take]; rfl)) ?_; (with_reducible refine (glob_sign.calls a0 x1_3 t111 t112 _ A24.out).mono ?_); rintro e w' ⟨rfl, ⟨nd, rfl⟩⟩; refine ⟨_, rfl, ?_⟩))
                        (try simp only [Act.put, List.setIfInBounds_toArray, List.set_cons_zero, List.set_cons_succ])
                        go_cut [107] (fun v107 wc => ∃ (kq : Nat) (x107_24 : Bool), v107 = .bool x107_24 ∧ Aside0 (glob_set.j4 kq a0 a2 x8_3 x9_3 x1_10 t111 t112 t111 x107_24 = some (r1, r2)) ∧ Aside0 (kq ≤ kj13) ∧ Drawn0 w wc)
                        case first =>
                          have H := HC25.out
                          clear HC25
                          by_cases c26 : (wrap64 (t112 + 1)) < (a0.size : Int)
                          · rw [if_pos c26] at H
                            have c26b0 : decide ((wrap64 (t112 + 1)) < (a0.size : Int)) = true := decide_eq_true c26
                            clear c26
                            (first | rw [c26b0] | (simp only [i64_w, i32_w]; rw [c26b0]) | skip)
                            by_cases c27 : 0 ≤ t112
                            · rw [if_pos c27] at H
                              have c27b0 : decide (0 ≤ t112) = true := decide_eq_true c27
                              clear c27
                              by_cases c28 : t112 < (a0.size : Int)
                              · rw [if_pos c28] at H
                                have c28b0 : decide (t112 < (a0.size : Int)) = true := decide_eq_true c28
                                clear c28
                                by_cases c30 : (bt a0 t112) = 45
                                · rw [if_pos c30] at H
                                  have c30b0 : ((bt a0 t112) == 45) = true := beq_iff_eq.mpr c30
                                  have c30b1 : ((bt a0 t112) != 45) = false := bne_eq_false_iff_eq.mpr c30
                                  clear c30
                                  obtain ⟨ji31, hji31⟩ : ∃ j_ : Int, (wrap64 (t112 + 1)) = j_ := ⟨_, rfl⟩
                                  replace H : (if 0 ≤ (ji31) then (glob_set.j4 kj13 a0 a2 x8_3 x9_3 x1_10 t111 t112 t111 ((bt a0 (ji31)) != 93)) else (none)) = some (r1, r2) := by first | (rw [hji31] at H; exact H) | (simp only [hji31] at H ⊢; exact H)
                                  (try rw [hji31] at c26b0)
                                  have hji31w : (IntKind.i64.wrap (t112 + 1)) = ji31 := (i64_w _).trans hji31
                                  by_cases c32 : 0 ≤ (ji31)
                                  · rw [if_pos c32] at H
                                    have c32b0 : decide (0 ≤ (ji31)) = true := decide_eq_true c32
                                    clear c32
                                    have H' := Aside0.mk H
                                    clear H
                                    have p29 : 0 ≤ (t112 : Int) := of_decide_eq_true (by first | (with_reducible assumption) | assumption)
                                    have q29 : t112 < (a0.size : Int) := of_decide_eq_true (by first | (with_reducible assumption) | assumption)
                                    have hx29 := bt_at a0 t112
                                    replace p29 := eq_true p29
                                    replace q29 := eq_true q29
                                    have p33 : 0 ≤ ((ji31) : Int) := of_decide_eq_true (by first | (with_reducible assumption) | assumption)
                                    have q33 : (ji31) < (a0.size : Int) := of_decide_eq_true (by first | (with_reducible assumption) | assumption)
                                    have hx33 := bt_at a0 (ji31)
                                    replace p33 := eq_true p33
                                    replace q33 := eq_true q33
                                    go_wp2
                                    (first | go_meet | (simp only [← hji31]; go_meet))
                                    case rel => exact ⟨_, (((bt a0 (ji31)) != 93)), (by first | rfl | (simp; done) | (simp only [← hji31] <;> (first | rfl | simp)) | (simp [*]; done)), (by first | (with_reducible exact H') | (simp only [hji31]; with_reducible exact H') | (simp only [hji31] at H' ⊢; with_reducible exact H') | exact H'), ⟨by have := HJ3.out; have := HJ10.out; have := HK3.out; have := HJ13.out; first | omega | exact Nat.le_refl _⟩, by repeat (first | exact Drawn0.refl _ | apply Drawn0.step)⟩
                                  · rw [if_neg c32] at H
                                    exact absurd H (by simp)
                                · rw [if_neg c30] at H
                                  have c30b0 : ((bt a0 t112) == 45) = false := beq_eq_false_iff_ne.mpr c30
                                  have c30b1 : ((bt a0 t112) != 45) = true := bne_iff_ne.mpr c30
                                  have H' := Aside0.mk H
                                  clear H
                                  have p29 : 0 ≤ (t112 : Int) := of_decide_eq_true (by first | (with_reducible assumption) | assumption)
                                  have q29 : t112 < (a0.size : Int) := of_decide_eq_true (by first | (with_reducible assumption) | assumption)
                                  have hx29 := bt_at a0 t112
                                  replace p29 := eq_true p29
                                  replace q29 := eq_true q29
                                  go_wp2
                                  go_meet
                                  case rel => exact ⟨_, (false), (by first | rfl | (simp; done) | (simp [*]; done)), H', ⟨by have := HJ3.out; have := HJ10.out; have := HK3.out; have := HJ13.out; first | omega | exact Nat.le_refl _⟩, by repeat (first | exact Drawn0.refl _ | apply Drawn0.step)⟩
                              · rw [if_neg c28] at H
                                exact absurd H (by simp)
                            · rw [if_neg c27] at H
                              exact absurd H (by simp)
                          · rw [if_neg c26] at H
                            have c26b0 : decide ((wrap64 (t112 + 1)) < (a0.size : Int)) = false := decide_eq_false c26
                            clear c26
                            (first | rw [c26b0] | (simp only [i64_w, i32_w]; rw [c26b0]) | skip)
                            have H' := Aside0.mk H
                            clear H
                            go_wp2
                            go_meet
                            case rel => exact ⟨_, (false), (by first | rfl | (simp; done) | (simp [*]; done)), H', ⟨by have := HJ3.out; have := HJ10.out; have := HK3.out; have := HJ13.out; first | omega | exact Nat.le_refl _⟩, by repeat (first | exact Drawn0.refl _ | apply Drawn0.step)⟩
                        case rest =>
                          clear HC25
                          try clear c1
                          try clear p1
                          try clear q1
                          try clear hx1
                          try clear c2
                          try clear p2
                          try clear q2
                          try clear hx2
                          try clear c3
                          try clear p3
                          try clear q3
                          try clear hx3
                          try clear c4
                          try clear c5
                          try clear c5b0
                          try clear p6
                          try clear c7
                          try clear c7b0
                          try clear p8
                          try clear q8
                          try clear hx8
                          try clear c9
                          try clear c9b0
                          try clear c9b1
                          try clear c10
                          try clear p10
                          try clear q10
                          try clear hx10
                          try clear c12
                          try clear c13
                          try clear c13b0
                          try clear c15
                          try clear c15b0
                          try clear p16
                          try clear q16
                          try clear hx16
                          try clear c17
                          try clear c17b0
                          try clear c17b1
                          try clear c18
                          try clear c19
                          try clear c19b0
                          try clear c19b1
                          try clear c19b2
                          try clear c21
                          try clear c21b0
                          try clear c23
                          try clear c26
                          try clear c26b0
                          try clear c27
                          try clear c27b0
                          try clear c28
                          try clear c28b0
                          try clear p29
                          try clear q29
                          try clear hx29
                          try clear c30
                          try clear c30b0
                          try clear c30b1
                          try clear c32
                          try clear c32b0
                          try clear p33
                          try clear q33
                          try clear hx33
                          try clear p1
                          try clear p10
                          try clear p16
                          try clear p2
                          try clear p29
                          try clear p33
                          try clear p6
                          try clear p8
                          try clear q1
                          try clear q10
                          try clear q16
                          try clear q29
                          try clear q33
                          try clear q8
                          obtain ⟨kq, x107_24, rfl, HA, HJ24, ⟨mc24, rfl⟩⟩ := hcut
                          cases kq with
                          | zero => exact absurd HA.out (by simp [glob_set.j4])
                          | succ kj24 =>
                            have H := HA.out
                            clear HA
                            simp only [glob_set.j4] at H
                            by_cases c34 : x107_24 = true
                            · subst c34
                              have H1 : ((glob_Named.f kj24 a0 (wrap64 (t112 + 1))).bind fun bt113 => (if bt113.2 < 0 then ((glob_sign.f a0 (wrap64 (t112 + 1))).bind fun bt115 => (if x9_3 = true then (glob_set.l0 kj24 a0 bt115.2 a2 x8_3 true x1_10) else (if a2 ≥ t111 then (glob_set.l0 kj24 a0 bt115.2 a2 x8_3 (decide (a2 ≤ bt115.1)) x1_10) else (glob_set.l0 kj24 a0 bt115.2 a2 x8_3 false x1_10)))) else (if x9_3 = true then (glob_set.l0 kj24 a0 t112 a2 x8_3 true x1_10) else (if a2 ≥ t111 then (glob_set.l0 kj24 a0 t112 a2 x8_3 (decide (a2 ≤ t111)) x1_10) else (glob_set.l0 kj24 a0 t112 a2 x8_3 false x1_10))))) = some (r1, r2) := by rw [if_pos rfl] at H; exact H
                              clear H
                              have H := H1
                              clear H1
                              replace H := Option.bind_eq_some_iff.mp H
                              obtain ⟨⟨t113, t114⟩, A350, H⟩ := H
                              replace H : (if t114 < 0 then ((glob_sign.f a0 (wrap64 (t112 + 1))).bind fun bt115 => (if x9_3 = true then (glob_set.l0 kj24 a0 bt115.2 a2 x8_3 true x1_10) else (if a2 ≥ t111 then (glob_set.l0 kj24 a0 bt115.2 a2 x8_3 (decide (a2 ≤ bt115.1)) x1_10) else (glob_set.l0 kj24 a0 bt115.2 a2 x8_3 false x1_10)))) else (if x9_3 = true then (glob_set.l0 kj24 a0 t112 a2 x8_3 true x1_10) else (if a2 ≥ t111 then (glob_set.l0 kj24 a0 t112 a2 x8_3 (decide (a2 ≤ t111)) x1_10) else (glob_set.l0 kj24 a0 t112 a2 x8_3 false x1_10)))) = some (r1, r2) := H
                              have A35 := Aside0.mk A350
                              clear A350
                              by_cases c36 : t114 < 0
                              · rw [if_pos c36] at H
                                have c36b0 : decide (t114 < 0) = true := decide_eq_true c36
                                clear c36
                                replace H := Option.bind_eq_some_iff.mp H
                                obtain ⟨⟨t115, t116⟩, A370, H⟩ := H
                                replace H : (if x9_3 = true then (glob_set.l0 kj24 a0 t116 a2 x8_3 true x1_10) else (if a2 ≥ t111 then (glob_set.l0 kj24 a0 t116 a2 x8_3 (decide (a2 ≤ t115)) x1_10) else (glob_set.l0 kj24 a0 t116 a2 x8_3 false x1_10))) = some (r1, r2) := H
                                have A37 := Aside0.mk A370
                                clear A370
                                by_cases c38 : x9_3 = true
                                · subst c38
                                  have H1 : (glob_set.l0 kj24 a0 t116 a2 x8_3 true x1_10) = some (r1, r2) := by rw [if_pos rfl] at H; exact H
                                  clear H
                                  have H := H1
                                  clear H1
                                  have H' := Aside0.mk H
                                  clear H
                                  go_wp2_with (first | ((with_reducible refine gate_callee (f := 49) rfl ?_); refine goesL_ (some 112) rfl rfl Try.func49 (by kernel_rfl) rfl #[.string a0, .int .i64 (wrap64 (t112 + 1))] rfl (by (try simp only [List.map_toArray, List.map_cons, List.map_nil]); first | done | rfl | (simp only [List.length_drop, List.length_take]; rfl)) ?_; (with_reducible refine (glob_Named.calls kj24 a0 (wrap64 (t112 + 1)) t113 t114 _ ?side1 A35.out).mono ?_); (case side1 => first | exact hX | exact XW.drawn hX (by repeat (first | exact Drawn0.refl _ | apply Drawn0.step))); rintro e w' ⟨rfl, ⟨nd, rfl⟩⟩; refine ⟨_, rfl, ?_⟩) | ((with_reducible refine gate_callee (f := 45) rfl ?_); refine goesL_ (some 121) rfl rfl Try.func45 (by kernel_rfl) rfl #[.string a0, .int .i64 (wrap64 (t112 + 1))] rfl (by (try simp only [List.map_toArray, List.map_cons, List.map_nil]); first | done | rfl | (simp only [List.length_drop, List.length_take]; rfl)) ?_; (with_reducible refine (glob_sign.calls a0 (wrap64 (t112 + 1)) t115 t116 _ A37.out).mono ?_); rintro e w' ⟨rfl, ⟨nd, rfl⟩⟩; refine ⟨_, rfl, ?_⟩))
                                  go_roundg kj24
                                  case measure => have := HJ3.out; have := HJ10.out; have := HK3.out; have := HJ13.out; have := HJ24.out; omega
                                  case rel => exact ⟨(t116), (true), (by first | rfl | (simp; done) | (simp [*]; done)), (by first | rfl | (simp; done) | (simp [*]; done)), H', ⟨by have := HJ3.out; have := HJ10.out; have := HK3.out; have := HJ13.out; have := HJ24.out; omega⟩, by repeat (first | exact Drawn0.refl _ | apply Drawn0.step)⟩
                                · replace c38 := Bool.eq_false_iff.mpr c38
                                  subst c38
                                  have H1 : (if a2 ≥ t111 then (glob_set.l0 kj24 a0 t116 a2 x8_3 (decide (a2 ≤ t115)) x1_10) else (glob_set.l0 kj24 a0 t116 a2 x8_3 false x1_10)) = some (r1, r2) := by rw [if_neg (show ¬ (false = true) by decide)] at H; exact H
                                  clear H
                                  have H := H1
                                  clear H1
                                  by_cases c39 : a2 ≥ t111
                                  · rw [if_pos c39] at H
                                    have c39b0 : decide (t111 ≤ a2) = true := decide_eq_true c39
                                    clear c39
                                    have H' := Aside0.mk H
                                    clear H
                                    go_wp2_with (first | ((with_reducible refine gate_callee (f := 49) rfl ?_); refine goesL_ (some 112) rfl rfl Try.func49 (by kernel_rfl) rfl #[.string a0, .int .i64 (wrap64 (t112 + 1))] rfl (by (try simp only [List.map_toArray, List.map_cons, List.map_nil]); first | done | rfl | (simp only [List.length_drop, List.length_take]; rfl)) ?_; (with_reducible refine (glob_Named.calls kj24 a0 (wrap64 (t112 + 1)) t113 t114 _ ?side1 A35.out).mono ?_); (case side1 => first | exact hX | exact XW.drawn hX (by repeat (first | exact Drawn0.refl _ | apply Drawn0.step))); rintro e w' ⟨rfl, ⟨nd, rfl⟩⟩; refine ⟨_, rfl, ?_⟩) | ((with_reducible refine gate_callee (f := 45) rfl ?_); refine goesL_ (some 121) rfl rfl Try.func45 (by kernel_rfl) rfl #[.string a0, .int .i64 (wrap64 (t112 + 1))] rfl (by (try simp only [List.map_toArray, List.map_cons, List.map_nil]); first | done | rfl | (simp only [List.length_drop, List.length_take]; rfl)) ?_; (with_reducible refine (glob_sign.calls a0 (wrap64 (t112 + 1)) t115 t116 _ A37.out).mono ?_); rintro e w' ⟨rfl, ⟨nd, rfl⟩⟩; refine ⟨_, rfl, ?_⟩))
                                    go_roundg kj24
                                    case measure => have := HJ3.out; have := HJ10.out; have := HK3.out; have := HJ13.out; have := HJ24.out; omega
                                    case rel => exact ⟨(t116), (decide (a2 ≤ t115)), (by first | rfl | (simp; done) | (simp [*]; done)), (by first | rfl | (simp; done) | (simp [*]; done)), H', ⟨by have := HJ3.out; have := HJ10.out; have := HK3.out; have := HJ13.out; have := HJ24.out; omega⟩, by repeat (first | exact Drawn0.refl _ | apply Drawn0.step)⟩
                                  · rw [if_neg c39] at H
                                    have c39b0 : decide (t111 ≤ a2) = false := decide_eq_false c39
                                    clear c39
                                    have H' := Aside0.mk H
                                    clear H
                                    go_wp2_with (first | ((with_reducible refine gate_callee (f := 49) rfl ?_); refine goesL_ (some 112) rfl rfl Try.func49 (by kernel_rfl) rfl #[.string a0, .int .i64 (wrap64 (t112 + 1))] rfl (by (try simp only [List.map_toArray, List.map_cons, List.map_nil]); first | done | rfl | (simp only [List.length_drop, List.length_take]; rfl)) ?_; (with_reducible refine (glob_Named.calls kj24 a0 (wrap64 (t112 + 1)) t113 t114 _ ?side1 A35.out).mono ?_); (case side1 => first | exact hX | exact XW.drawn hX (by repeat (first | exact Drawn0.refl _ | apply Drawn0.step))); rintro e w' ⟨rfl, ⟨nd, rfl⟩⟩; refine ⟨_, rfl, ?_⟩) | ((with_reducible refine gate_callee (f := 45) rfl ?_); refine goesL_ (some 121) rfl rfl Try.func45 (by kernel_rfl) rfl #[.string a0, .int .i64 (wrap64 (t112 + 1))] rfl (by (try simp only [List.map_toArray, List.map_cons, List.map_nil]); first | done | rfl | (simp only [List.length_drop, List.length_take]; rfl)) ?_; (with_reducible refine (glob_sign.calls a0 (wrap64 (t112 + 1)) t115 t116 _ A37.out).mono ?_); rintro e w' ⟨rfl, ⟨nd, rfl⟩⟩; refine ⟨_, rfl, ?_⟩))
                                    go_roundg kj24
                                    case measure => have := HJ3.out; have := HJ10.out; have := HK3.out; have := HJ13.out; have := HJ24.out; omega
                                    case rel => exact ⟨(t116), (false), (by first | rfl | (simp; done) | (simp [*]; done)), (by first | rfl | (simp; done) | (simp [*]; done)), H', ⟨by have := HJ3.out; have := HJ10.out; have := HK3.out; have := HJ13.out; have := HJ24.out; omega⟩, by repeat (first | exact Drawn0.refl _ | apply Drawn0.step)⟩
                              · rw [if_neg c36] at H
                                have c36b0 : decide (t114 < 0) = false := decide_eq_false c36
                                clear c36
                                by_cases c40 : x9_3 = true
                                · subst c40
                                  have H1 : (glob_set.l0 kj24 a0 t112 a2 x8_3 true x1_10) = some (r1, r2) := by rw [if_pos rfl] at H; exact H
                                  clear H
                                  have H := H1
                                  clear H1
                                  have H' := Aside0.mk H
                                  clear H
                                  go_wp2_with (first | ((with_reducible refine gate_callee (f := 49) rfl ?_); refine goesL_ (some 112) rfl rfl Try.func49 (by kernel_rfl) rfl #[.string a0, .int .i64 (wrap64 (t112 + 1))] rfl (by (try simp only [List.map_toArray, List.map_cons, List.map_nil]); first | done | rfl | (simp only [List.length_drop, List.length_take]; rfl)) ?_; (with_reducible refine (glob_Named.calls kj24 a0 (wrap64 (t112 + 1)) t113 t114 _ ?side1 A35.out).mono ?_); (case side1 => first | exact hX | exact XW.drawn hX (by repeat (first | exact Drawn0.refl _ | apply Drawn0.step))); rintro e w' ⟨rfl, ⟨nd, rfl⟩⟩; refine ⟨_, rfl, ?_⟩))
                                  go_roundg kj24
                                  case measure => have := HJ3.out; have := HJ10.out; have := HK3.out; have := HJ13.out; have := HJ24.out; omega
                                  case rel => exact ⟨(t112), (true), (by first | rfl | (simp; done) | (simp [*]; done)), (by first | rfl | (simp; done) | (simp [*]; done)), H', ⟨by have := HJ3.out; have := HJ10.out; have := HK3.out; have := HJ13.out; have := HJ24.out; omega⟩, by repeat (first | exact Drawn0.refl _ | apply Drawn0.step)⟩
                                · replace c40 := Bool.eq_false_iff.mpr c40
                                  subst c40
                                  have H1 : (if a2 ≥ t111 then (glob_set.l0 kj24 a0 t112 a2 x8_3 (decide (a2 ≤ t111)) x1_10) else (glob_set.l0 kj24 a0 t112 a2 x8_3 false x1_10)) = some (r1, r2) := by rw [if_neg (show ¬ (false = true) by decide)] at H; exact H
                                  clear H
                                  have H := H1
                                  clear H1
                                  by_cases c41 : a2 ≥ t111
                                  · rw [if_pos c41] at H
                                    have c41b0 : decide (t111 ≤ a2) = true := decide_eq_true c41
                                    clear c41
                                    have H' := Aside0.mk H
                                    clear H
                                    go_wp2_with (first | ((with_reducible refine gate_callee (f := 49) rfl ?_); refine goesL_ (some 112) rfl rfl Try.func49 (by kernel_rfl) rfl #[.string a0, .int .i64 (wrap64 (t112 + 1))] rfl (by (try simp only [List.map_toArray, List.map_cons, List.map_nil]); first | done | rfl | (simp only [List.length_drop, List.length_take]; rfl)) ?_; (with_reducible refine (glob_Named.calls kj24 a0 (wrap64 (t112 + 1)) t113 t114 _ ?side1 A35.out).mono ?_); (case side1 => first | exact hX | exact XW.drawn hX (by repeat (first | exact Drawn0.refl _ | apply Drawn0.step))); rintro e w' ⟨rfl, ⟨nd, rfl⟩⟩; refine ⟨_, rfl, ?_⟩))
                                    go_roundg kj24
                                    case measure => have := HJ3.out; have := HJ10.out; have := HK3.out; have := HJ13.out; have := HJ24.out; omega
                                    case rel => exact ⟨(t112), (decide (a2 ≤ t111)), (by first | rfl | (simp; done) | (simp [*]; done)), (by first | rfl | (simp; done) | (simp [*]; done)), H', ⟨by have := HJ3.out; have := HJ10.out; have := HK3.out; have := HJ13.out; have := HJ24.out; omega⟩, by repeat (first | exact Drawn0.refl _ | apply Drawn0.step)⟩
                                  · rw [if_neg c41] at H
                                    have c41b0 : decide (t111 ≤ a2) = false := decide_eq_false c41
                                    clear c41
                                    have H' := Aside0.mk H
                                    clear H
                                    go_wp2_with (first | ((with_reducible refine gate_callee (f := 49) rfl ?_); refine goesL_ (some 112) rfl rfl Try.func49 (by kernel_rfl) rfl #[.string a0, .int .i64 (wrap64 (t112 + 1))] rfl (by (try simp only [List.map_toArray, List.map_cons, List.map_nil]); first | done | rfl | (simp only [List.length_drop, List.length_take]; rfl)) ?_; (with_reducible refine (glob_Named.calls kj24 a0 (wrap64 (t112 + 1)) t113 t114 _ ?side1 A35.out).mono ?_); (case side1 => first | exact hX | exact XW.drawn hX (by repeat (first | exact Drawn0.refl _ | apply Drawn0.step))); rintro e w' ⟨rfl, ⟨nd, rfl⟩⟩; refine ⟨_, rfl, ?_⟩))
                                    go_roundg kj24
                                    case measure => have := HJ3.out; have := HJ10.out; have := HK3.out; have := HJ13.out; have := HJ24.out; omega
                                    case rel => exact ⟨(t112), (false), (by first | rfl | (simp; done) | (simp [*]; done)), (by first | rfl | (simp; done) | (simp [*]; done)), H', ⟨by have := HJ3.out; have := HJ10.out; have := HK3.out; have := HJ13.out; have := HJ24.out; omega⟩, by repeat (first | exact Drawn0.refl _ | apply Drawn0.step)⟩
                            · replace c34 := Bool.eq_false_iff.mpr c34
                              subst c34
                              have H1 : (if x9_3 = true then (glob_set.l0 kj24 a0 t112 a2 x8_3 true x1_10) else (if a2 ≥ t111 then (glob_set.l0 kj24 a0 t112 a2 x8_3 (decide (a2 ≤ t111)) x1_10) else (glob_set.l0 kj24 a0 t112 a2 x8_3 false x1_10))) = some (r1, r2) := by rw [if_neg (show ¬ (false = true) by decide)] at H; exact H
                              clear H
                              have H := H1
                              clear H1
                              by_cases c42 : x9_3 = true
                              · subst c42
                                have H1 : (glob_set.l0 kj24 a0 t112 a2 x8_3 true x1_10) = some (r1, r2) := by rw [if_pos rfl] at H; exact H
                                clear H
                                have H := H1
                                clear H1
                                have H' := Aside0.mk H
                                clear H
                                go_wp2
                                go_roundg kj24
                                case measure => have := HJ3.out; have := HJ10.out; have := HK3.out; have := HJ13.out; have := HJ24.out; omega
                                case rel => exact ⟨(t112), (true), (by first | rfl | (simp; done) | (simp [*]; done)), (by first | rfl | (simp; done) | (simp [*]; done)), H', ⟨by have := HJ3.out; have := HJ10.out; have := HK3.out; have := HJ13.out; have := HJ24.out; omega⟩, by repeat (first | exact Drawn0.refl _ | apply Drawn0.step)⟩
                              · replace c42 := Bool.eq_false_iff.mpr c42
                                subst c42
                                have H1 : (if a2 ≥ t111 then (glob_set.l0 kj24 a0 t112 a2 x8_3 (decide (a2 ≤ t111)) x1_10) else (glob_set.l0 kj24 a0 t112 a2 x8_3 false x1_10)) = some (r1, r2) := by rw [if_neg (show ¬ (false = true) by decide)] at H; exact H
                                clear H
                                have H := H1
                                clear H1
                                by_cases c43 : a2 ≥ t111
                                · rw [if_pos c43] at H
                                  have c43b0 : decide (t111 ≤ a2) = true := decide_eq_true c43
                                  clear c43
                                  have H' := Aside0.mk H
                                  clear H
                                  go_wp2
                                  go_roundg kj24
                                  case measure => have := HJ3.out; have := HJ10.out; have := HK3.out; have := HJ13.out; have := HJ24.out; omega
                                  case rel => exact ⟨(t112), (decide (a2 ≤ t111)), (by first | rfl | (simp; done) | (simp [*]; done)), (by first | rfl | (simp; done) | (simp [*]; done)), H', ⟨by have := HJ3.out; have := HJ10.out; have := HK3.out; have := HJ13.out; have := HJ24.out; omega⟩, by repeat (first | exact Drawn0.refl _ | apply Drawn0.step)⟩
                                · rw [if_neg c43] at H
                                  have c43b0 : decide (t111 ≤ a2) = false := decide_eq_false c43
                                  clear c43
                                  have H' := Aside0.mk H
                                  clear H
                                  go_wp2
                                  go_roundg kj24
                                  case measure => have := HJ3.out; have := HJ10.out; have := HK3.out; have := HJ13.out; have := HJ24.out; omega
                                  case rel => exact ⟨(t112), (false), (by first | rfl | (simp; done) | (simp [*]; done)), (by first | rfl | (simp; done) | (simp [*]; done)), H', ⟨by have := HJ3.out; have := HJ10.out; have := HK3.out; have := HJ13.out; have := HJ24.out; omega⟩, by repeat (first | exact Drawn0.refl _ | apply Drawn0.step)⟩
              · rw [if_neg c13] at H
                have c13b0 : decide (x1_3 < (a0.size : Int)) = false := decide_eq_false c13
                clear c13
                simp only [Option.some.injEq, Prod.mk.injEq] at H
                obtain ⟨rfl, rfl⟩ := H
                go_wp2
                go_ret2
                exact ⟨by first | rfl | (simp; done) | (simp [*]; done), by repeat (first | exact Drawn0.refl _ | apply Drawn0.step)⟩

end Go.Proofs.Ytahfoeichmfloaa.Gl
