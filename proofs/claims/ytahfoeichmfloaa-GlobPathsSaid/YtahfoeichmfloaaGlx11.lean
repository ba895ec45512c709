/- Functions of the given program in plain Lean, each with the proof that its call answers so; no condition. Written by a program of this session's own (a turned copy of the kit's printing program). -/
import Derived.Test.YtahfoeichmfloaaGlx0
import Derived.Test.YtahfoeichmfloaaGlx3
namespace Go.Proofs.Ytahfoeichmfloaa.Gl
open Go.RowKit Go.Proofs.YtahfoeichmfloaaW.PrintWords Go.Proofs.YtahfoeichmfloaaW.PrintLast Go.Proofs.YtahfoeichmfloaaW.PrintMore
attribute [local go_sem] max2_int min2_int max_two min_two max_three min_three max_four min_four   -- for this text's walks alone
set_option linter.unusedVariables false
set_option linter.unusedSimpArgs false

/-! ### patchworklaw5_GlobPaths: function 10 -/
mutual
def patchworklaw5_GlobPaths.j0 : Nat → ByteArray → ByteArray → ByteArray → Bool → Bool → Option (Bool)
  | 0, _, _, _, _, _ => none
  | k + 1, x0, x1, x2, x7, x29 => if x29 = true then (some x7) else (patchworklaw5_GlobPaths.l0 k x0 x1 x2 0)
def patchworklaw5_GlobPaths.l0 : Nat → ByteArray → ByteArray → ByteArray → Int → Option (Bool)
  | 0, _, _, _, _ => none
  | k + 1, x0, x1, x2, x8 => if x0.size + x1.size ≤ 9223372036854775807 then (if x8 < ((x0 ++ x1).size : Int) then (if 0 ≤ x8 then (if (bt (x0 ++ x1) x8) = 91 then (some true) else (if (bt (x0 ++ x1) x8) = 92 then (some true) else (if (bt (x0 ++ x1) x8) = 47 then (some true) else (patchworklaw5_GlobPaths.l0 k x0 x1 x2 (wrap64 (x8 + 1)))))) else (none)) else (patchworklaw5_GlobPaths.l1 k x0 x1 x2 false 0)) else (none)
def patchworklaw5_GlobPaths.l1 : Nat → ByteArray → ByteArray → ByteArray → Bool → Int → Option (Bool)
  | 0, _, _, _, _, _ => none
  | k + 1, x0, x1, x2, x10, x11 => if x11 < (x2.size : Int) then (if x10 = true then (patchworklaw5_GlobPaths.l1 k x0 x1 x2 true (wrap64 (x11 + 1))) else (if 0 ≤ x11 then (if (bt x2 x11) = 47 then (if x11 ≤ (x2.size : Int) then ((glob_Match.f k x0 (x2.extract 0 (x11 : Int).toNat)).bind fun t221 => (if t221 = true then (if 0 ≤ (wrap64 (x11 + 1)) then (if (wrap64 (x11 + 1)) ≤ (x2.size : Int) then ((glob_Match.f k x1 (x2.extract ((wrap64 (x11 + 1)) : Int).toNat x2.size)).bind fun t222 => (patchworklaw5_GlobPaths.l1 k x0 x1 x2 t222 (wrap64 (x11 + 1)))) else (none)) else (none)) else (patchworklaw5_GlobPaths.l1 k x0 x1 x2 false (wrap64 (x11 + 1))))) else (none)) else (patchworklaw5_GlobPaths.l1 k x0 x1 x2 false (wrap64 (x11 + 1)))) else (none))) else (if x0.size + 1 ≤ 9223372036854775807 then (if (x0 ++ (⟨#[47]⟩ : ByteArray)).size + x1.size ≤ 9223372036854775807 then ((glob_Match.f k ((x0 ++ (⟨#[47]⟩ : ByteArray)) ++ x1) x2).bind fun t223 => (some (t223 == x10))) else (none)) else (none))
end
def patchworklaw5_GlobPaths.f (k : Nat) (a0 : ByteArray) (a1 : ByteArray) (a2 : ByteArray) : Option (Bool) := (patchworklaw5_alive.f k).bind fun t220 => (if t220 = true then (if (a0.size : Int) > 20 then (patchworklaw5_GlobPaths.j0 k a0 a1 a2 t220 true) else (if (a1.size : Int) > 20 then (patchworklaw5_GlobPaths.j0 k a0 a1 a2 t220 true) else (patchworklaw5_GlobPaths.j0 k a0 a1 a2 t220 (decide ((a2.size : Int) > 40))))) else (patchworklaw5_GlobPaths.j0 k a0 a1 a2 t220 true))
theorem patchworklaw5_GlobPaths.mono_l : ∀ k, (∀ y0 y1 y2 y3 y4, LeO (patchworklaw5_GlobPaths.j0 k y0 y1 y2 y3 y4) (patchworklaw5_GlobPaths.j0 (k + 1) y0 y1 y2 y3 y4)) ∧ (∀ y0 y1 y2 y3, LeO (patchworklaw5_GlobPaths.l0 k y0 y1 y2 y3) (patchworklaw5_GlobPaths.l0 (k + 1) y0 y1 y2 y3)) ∧ (∀ y0 y1 y2 y3 y4, LeO (patchworklaw5_GlobPaths.l1 k y0 y1 y2 y3 y4) (patchworklaw5_GlobPaths.l1 (k + 1) y0 y1 y2 y3 y4))
  | 0 => ⟨fun _ _ _ _ _ r h => by simp [patchworklaw5_GlobPaths.j0] at h, fun _ _ _ _ r h => by simp [patchworklaw5_GlobPaths.l0] at h, fun _ _ _ _ _ r h => by simp [patchworklaw5_GlobPaths.l1] at h⟩
  | k + 1 => by
    obtain ⟨ih0, ih1, ih2⟩ := patchworklaw5_GlobPaths.mono_l k
    refine ⟨?_, ?_, ?_⟩
    · intro y0 y1 y2 y3 y4
      unfold patchworklaw5_GlobPaths.j0
      repeat' first
      | (with_reducible exact ih0 _ _ _ _ _)
      | (with_reducible exact ih1 _ _ _ _)
      | (with_reducible exact ih2 _ _ _ _ _)
      | (with_reducible exact glob_Match.mono _ _ _)
      | (with_reducible exact patchworklaw5_alive.mono _)
      | (with_reducible exact LeO.refl _)
      | (with_reducible exact LeO.none _)
      | (with_reducible refine LeO.ite ?_ ?_)
      | (with_reducible refine LeO.bind ?_ (fun _ => ?_))
      | exact ih0 _ _ _ _ _
      | exact ih1 _ _ _ _
      | exact ih2 _ _ _ _ _
      | exact glob_Match.mono _ _ _
      | exact patchworklaw5_alive.mono _
      | exact LeO.none _
      | refine LeO.ite ?_ ?_
      | refine LeO.bind ?_ (fun _ => ?_)
    · intro y0 y1 y2 y3
      unfold patchworklaw5_GlobPaths.l0
      repeat' first
      | (with_reducible exact ih0 _ _ _ _ _)
      | (with_reducible exact ih1 _ _ _ _)
      | (with_reducible exact ih2 _ _ _ _ _)
      | (with_reducible exact glob_Match.mono _ _ _)
      | (with_reducible exact patchworklaw5_alive.mono _)
      | (with_reducible exact LeO.refl _)
      | (with_reducible exact LeO.none _)
      | (with_reducible refine LeO.ite ?_ ?_)
      | (with_reducible refine LeO.bind ?_ (fun _ => ?_))
      | exact ih0 _ _ _ _ _
      | exact ih1 _ _ _ _
      | exact ih2 _ _ _ _ _
      | exact glob_Match.mono _ _ _
      | exact patchworklaw5_alive.mono _
      | exact LeO.none _
      | refine LeO.ite ?_ ?_
      | refine LeO.bind ?_ (fun _ => ?_)
    · intro y0 y1 y2 y3 y4
      unfold patchworklaw5_GlobPaths.l1
      repeat' first
      | (with_reducible exact ih0 _ _ _ _ _)
      | (with_reducible exact ih1 _ _ _ _)
      | (with_reducible exact ih2 _ _ _ _ _)
      | (with_reducible exact glob_Match.mono _ _ _)
      | (with_reducible exact patchworklaw5_alive.mono _)
      | (with_reducible exact LeO.refl _)
      | (with_reducible exact LeO.none _)
      | (with_reducible refine LeO.ite ?_ ?_)
      | (with_reducible refine LeO.bind ?_ (fun _ => ?_))
      | exact ih0 _ _ _ _ _
      | exact ih1 _ _ _ _
      | exact ih2 _ _ _ _ _
      | exact glob_Match.mono _ _ _
      | exact patchworklaw5_alive.mono _
      | exact LeO.none _
      | refine LeO.ite ?_ ?_
      | refine LeO.bind ?_ (fun _ => ?_)
theorem patchworklaw5_GlobPaths.mono : ∀ a0 a1 a2 k, LeO (patchworklaw5_GlobPaths.f k a0 a1 a2) (patchworklaw5_GlobPaths.f (k + 1) a0 a1 a2) := by
  intro a0 a1 a2 k
  obtain ⟨ih0, ih1, ih2⟩ := patchworklaw5_GlobPaths.mono_l k
  unfold patchworklaw5_GlobPaths.f
  repeat' first
      | (with_reducible exact ih0 _ _ _ _ _)
      | (with_reducible exact ih1 _ _ _ _)
      | (with_reducible exact ih2 _ _ _ _ _)
      | (with_reducible exact glob_Match.mono _ _ _)
      | (with_reducible exact patchworklaw5_alive.mono _)
      | (with_reducible exact LeO.refl _)
      | (with_reducible exact LeO.none _)
      | (with_reducible refine LeO.ite ?_ ?_)
      | (with_reducible refine LeO.bind ?_ (fun _ => ?_))
      | exact ih0 _ _ _ _ _
      | exact ih1 _ _ _ _
      | exact ih2 _ _ _ _ _
      | exact glob_Match.mono _ _ _
      | exact patchworklaw5_alive.mono _
      | exact LeO.none _
      | refine LeO.ite ?_ ?_
      | refine LeO.bind ?_ (fun _ => ?_)
set_option maxHeartbeats 8000000 in
set_option maxRecDepth 100000 in
theorem patchworklaw5_GlobPaths.calls (k : Nat) (a0 : ByteArray) (a1 : ByteArray) (a2 : ByteArray) (r : Bool) (w : World) (hX : XW w) (h : patchworklaw5_GlobPaths.f k a0 a1 a2 = some r) :
    Calls Try.prog 10 #[.string a0, .string a1, .string a2] w fun e w' => e = .returned (.bool r) ∧ Drawn0 w w' := by
  have H : ((patchworklaw5_alive.f k).bind fun t220 => (if t220 = true then (if (a0.size : Int) > 20 then (patchworklaw5_GlobPaths.j0 k a0 a1 a2 t220 true) else (if (a1.size : Int) > 20 then (patchworklaw5_GlobPaths.j0 k a0 a1 a2 t220 true) else (patchworklaw5_GlobPaths.j0 k a0 a1 a2 t220 (decide ((a2.size : Int) > 40))))) else (patchworklaw5_GlobPaths.j0 k a0 a1 a2 t220 true))) = some r := h
  clear h
  replace H := Option.bind_eq_some_iff.mp H
  obtain ⟨t220, A40, H⟩ := H
  replace H : (if t220 = true then (if (a0.size : Int) > 20 then (patchworklaw5_GlobPaths.j0 k a0 a1 a2 t220 true) else (if (a1.size : Int) > 20 then (patchworklaw5_GlobPaths.j0 k a0 a1 a2 t220 true) else (patchworklaw5_GlobPaths.j0 k a0 a1 a2 t220 (decide ((a2.size : Int) > 40))))) else (patchworklaw5_GlobPaths.j0 k a0 a1 a2 t220 true)) = some r := H
  have A4 := Aside0.mk A40
  clear A40
  have HC5 := Aside0.mk H
  clear H
  go_enter Try.func10, Try.ntmps10
  go_upto_region 2 with (first | ((with_reducible refine gate_callee (f := 23) rfl ?_); refine goesL_ (some 12) rfl rfl Try.func23 (by kernel_rfl) rfl #[] rfl (by (try simp only [List.map_toArray, List.map_cons, List.map_nil]); first | done | rfl | (simp only [List.length_drop, List.length_take]; rfl)) ?_; (with_reducible refine (patchworklaw5_alive.calls k  t220 _ ?side1 A4.out).mono ?_); (case side1 => first | exact hX | exact XW.drawn hX (by repeat (first | exact Drawn0.refl _ | apply Drawn0.step))); rintro e w' ⟨rfl, ⟨nd, rfl⟩⟩; refine ⟨_, rfl, ?_⟩))
  (try simp only [Act.put, List.setIfInBounds_toArray, List.set_cons_zero, List.set_cons_succ])
  go_cut [29] (fun v29 wc => ∃ (kq : Nat) (x29_4 : Bool), v29 = .bool x29_4 ∧ Aside0 (patchworklaw5_GlobPaths.j0 kq a0 a1 a2 t220 x29_4 = some r) ∧ Aside0 (kq ≤ k) ∧ Drawn0 w wc)
  case first =>
    have H := HC5.out
    clear HC5
    by_cases c6 : t220 = true
    · subst c6
      have H1 : (if (a0.size : Int) > 20 then (patchworklaw5_GlobPaths.j0 k a0 a1 a2 true true) else (if (a1.size : Int) > 20 then (patchworklaw5_GlobPaths.j0 k a0 a1 a2 true true) else (patchworklaw5_GlobPaths.j0 k a0 a1 a2 true (decide ((a2.size : Int) > 40))))) = some r := by rw [if_pos rfl] at H; exact H
      clear H
      have H := H1
      clear H1
      by_cases c7 : (a0.size : Int) > 20
      · rw [if_pos c7] at H
        have c7b0 : decide (20 < (a0.size : Int)) = true := decide_eq_true c7
        have c7b1 : decide (20 < a0.size) = true := decide_eq_true (by omega)
        clear c7
        (first | rw [c7b0] | (simp only [i64_w, i32_w]; rw [c7b0]) | skip)
        have H' := Aside0.mk H
        clear H
        go_wp2
        go_meet
        case rel => exact ⟨_, (true), (by first | rfl | (simp; done) | (simp [*]; done)), H', ⟨by first | omega | exact Nat.le_refl _⟩, by repeat (first | exact Drawn0.refl _ | apply Drawn0.step)⟩
      · rw [if_neg c7] at H
        have c7b0 : decide (20 < (a0.size : Int)) = false := decide_eq_false c7
        have c7b1 : decide (20 < a0.size) = false := decide_eq_false (by omega)
        clear c7
        (first | rw [c7b0] | (simp only [i64_w, i32_w]; rw [c7b0]) | skip)
        by_cases c8 : (a1.size : Int) > 20
        · rw [if_pos c8] at H
          have c8b0 : decide (20 < (a1.size : Int)) = true := decide_eq_true c8
          have c8b1 : decide (20 < a1.size) = true := decide_eq_true (by omega)
          clear c8
          have H' := Aside0.mk H
          clear H
          go_wp2
          go_meet
          case rel => exact ⟨_, (true), (by first | rfl | (simp; done) | (simp [*]; done)), H', ⟨by first | omega | exact Nat.le_refl _⟩, by repeat (first | exact Drawn0.refl _ | apply Drawn0.step)⟩
        · rw [if_neg c8] at H
          have c8b0 : decide (20 < (a1.size : Int)) = false := decide_eq_false c8
          have c8b1 : decide (20 < a1.size) = false := decide_eq_false (by omega)
          clear c8
          have H' := Aside0.mk H
          clear H
          go_wp2
          go_meet
          case rel => exact ⟨_, (decide ((a2.size : Int) > 40)), (by first | rfl | (simp; done) | (simp [*]; done)), H', ⟨by first | omega | exact Nat.le_refl _⟩, by repeat (first | exact Drawn0.refl _ | apply Drawn0.step)⟩
    · replace c6 := Bool.eq_false_iff.mpr c6
      subst c6
      have H1 : (patchworklaw5_GlobPaths.j0 k a0 a1 a2 false true) = some r := by rw [if_neg (show ¬ (false = true) by decide)] at H; exact H
      clear H
      have H := H1
      clear H1
      have H' := Aside0.mk H
      clear H
      go_wp2
      go_meet
      case rel => exact ⟨_, (true), (by first | rfl | (simp; done) | (simp [*]; done)), H', ⟨by first | omega | exact Nat.le_refl _⟩, by repeat (first | exact Drawn0.refl _ | apply Drawn0.step)⟩
  case rest =>
    clear HC5
    try clear c1
    try clear c2
    try clear p2
    try clear c6
    try clear c7
    try clear c7b0
    try clear c7b1
    try clear c8
    try clear c8b0
    try clear c8b1
    obtain ⟨kq, x29_4, rfl, HA, HJ4, ⟨mc4, rfl⟩⟩ := hcut
    cases kq with
    | zero => exact absurd HA.out (by simp [patchworklaw5_GlobPaths.j0])
    | succ kj4 =>
      have H := HA.out
      clear HA
      simp only [patchworklaw5_GlobPaths.j0] at H
      by_cases c9 : x29_4 = true
      · subst c9
        have H1 : (some t220) = some r := by rw [if_pos rfl] at H; exact H
        clear H
        have H := H1
        clear H1
        obtain rfl := Option.some.inj H
        go_wp2
        go_ret
        exact ⟨by first | rfl | (simp; done) | (simp [*]; done), by repeat (first | exact Drawn0.refl _ | apply Drawn0.step)⟩
      · replace c9 := Bool.eq_false_iff.mpr c9
        subst c9
        have H1 : (patchworklaw5_GlobPaths.l0 kj4 a0 a1 a2 0) = some r := by rw [if_neg (show ¬ (false = true) by decide)] at H; exact H
        clear H
        have H := H1
        clear H1
        have H' := Aside0.mk H
        clear H
        go_wp2
        go_loopg [8] kj4 (fun kq v8 w' => ∃ (x8_2 : Int), v8 = .int .i64 x8_2 ∧ Aside0 (patchworklaw5_GlobPaths.l0 kq a0 a1 a2 x8_2 = some r) ∧ Aside0 (kq ≤ kj4) ∧ Drawn0 w w')
        case atStart => exact ⟨(0), (by first | rfl | (simp; done) | (simp [*]; done)), H', ⟨Nat.le_refl _⟩, by repeat (first | exact Drawn0.refl _ | apply Drawn0.step)⟩
        case round =>
          clear H'
          try clear c1
          try clear c2
          try clear p2
          try clear c4
          try clear c6
          try clear c7
          try clear c7b0
          try clear c7b1
          try clear c8
          try clear c8b0
          try clear c8b1
          try clear c9
          try clear p2
          obtain ⟨x8_2, rfl, HA, HK2, ⟨m2, rfl⟩⟩ := hrel
          cases gk with
          | zero => exact absurd HA.out (by simp [patchworklaw5_GlobPaths.l0])
          | succ k2 =>
            have H := HA.out
            clear HA
            simp only [patchworklaw5_GlobPaths.l0] at H
            by_cases c10 : a0.size + a1.size ≤ 9223372036854775807
            · rw [if_pos c10] at H
              have c10b0 := eq_true c10
              have c10b1 : decide (a0.size + a1.size ≤ 9223372036854775807) = true := decide_eq_true c10
              try have c10b2 : (9223372036854775807 < a0.size + a1.size) = False := eq_false (Nat.not_lt.2 c10)
              by_cases c11 : x8_2 < ((a0 ++ a1).size : Int)
              · rw [if_pos c11] at H
                have c11b0 : decide (x8_2 < ((a0 ++ a1).size : Int)) = true := decide_eq_true c11
                try (have c11b0n := c11b0; simp only [ByteArray.size_append, ba_size_lit, List.length_cons, List.length_nil, Nat.zero_add, Nat.reduceAdd, Int.natCast_add, Int.natCast_one, Int.cast_ofNat_Int] at c11b0n)
                clear c11
                by_cases c12 : 0 ≤ x8_2
                · rw [if_pos c12] at H
                  have c12b0 : decide (0 ≤ x8_2) = true := decide_eq_true c12
                  clear c12
                  by_cases c14 : (bt (a0 ++ a1) x8_2) = 91
                  · rw [if_pos c14] at H
                    have c14b0 : ((bt (a0 ++ a1) x8_2) == 91) = true := beq_iff_eq.mpr c14
                    have c14b1 : ((bt (a0 ++ a1) x8_2) != 91) = false := bne_eq_false_iff_eq.mpr c14
                    clear c14
                    obtain rfl := Option.some.inj H
                    have p13 : 0 ≤ (x8_2 : Int) := of_decide_eq_true (by first | (with_reducible assumption) | assumption)
                    have q13 : x8_2 < ((a0 ++ a1).size : Int) := of_decide_eq_true (by first | (with_reducible assumption) | assumption)
                    try (have q13n := q13; simp only [ByteArray.size_append, ba_size_lit, List.length_cons, List.length_nil, Nat.zero_add, Nat.reduceAdd, Int.natCast_add, Int.natCast_one, Int.cast_ofNat_Int] at q13n)
                    have hx13 := bt_at (a0 ++ a1) x8_2
                    replace p13 := eq_true p13
                    replace q13 := eq_true q13
                    go_wp2
                    go_ret
                    exact ⟨by first | rfl | (simp; done) | (simp [*]; done), by repeat (first | exact Drawn0.refl _ | apply Drawn0.step)⟩
                  · rw [if_neg c14] at H
                    have c14b0 : ((bt (a0 ++ a1) x8_2) == 91) = false := beq_eq_false_iff_ne.mpr c14
                    have c14b1 : ((bt (a0 ++ a1) x8_2) != 91) = true := bne_iff_ne.mpr c14
                    by_cases c15 : (bt (a0 ++ a1) x8_2) = 92
                    · rw [if_pos c15] at H
                      have c15b0 : ((bt (a0 ++ a1) x8_2) == 92) = true := beq_iff_eq.mpr c15
                      have c15b1 : ((bt (a0 ++ a1) x8_2) != 92) = false := bne_eq_false_iff_eq.mpr c15
                      clear c15
                      obtain rfl := Option.some.inj H
                      have p13 : 0 ≤ (x8_2 : Int) := of_decide_eq_true (by first | (with_reducible assumption) | assumption)
                      have q13 : x8_2 < ((a0 ++ a1).size : Int) := of_decide_eq_true (by first | (with_reducible assumption) | assumption)
                      try (have q13n := q13; simp only [ByteArray.size_append, ba_size_lit, List.length_cons, List.length_nil, Nat.zero_add, Nat.reduceAdd, Int.natCast_add, Int.natCast_one, Int.cast_ofNat_Int] at q13n)
                      have hx13 := bt_at (a0 ++ a1) x8_2
                      replace p13 := eq_true p13
                      replace q13 := eq_true q13
                      go_wp2
                      go_ret
                      exact ⟨by first | rfl | (simp; done) | (simp [*]; done), by repeat (first | exact Drawn0.refl _ | apply Drawn0.step)⟩
                    · rw [if_neg c15] at H
                      have c15b0 : ((bt (a0 ++ a1) x8_2) == 92) = false := beq_eq_false_iff_ne.mpr c15
                      have c15b1 : ((bt (a0 ++ a1) x8_2) != 92) = true := bne_iff_ne.mpr c15
                      by_cases c16 : (bt (a0 ++ a1) x8_2) = 47
                      · rw [if_pos c16] at H
                        have c16b0 : ((bt (a0 ++ a1) x8_2) == 47) = true := beq_iff_eq.mpr c16
                        have c16b1 : ((bt (a0 ++ a1) x8_2) != 47) = false := bne_eq_false_iff_eq.mpr c16
                        clear c16
                        obtain rfl := Option.some.inj H
                        have p13 : 0 ≤ (x8_2 : Int) := of_decide_eq_true (by first | (with_reducible assumption) | assumption)
                        have q13 : x8_2 < ((a0 ++ a1).size : Int) := of_decide_eq_true (by first | (with_reducible assumption) | assumption)
                        try (have q13n := q13; simp only [ByteArray.size_append, ba_size_lit, List.length_cons, List.length_nil, Nat.zero_add, Nat.reduceAdd, Int.natCast_add, Int.natCast_one, Int.cast_ofNat_Int] at q13n)
                        have hx13 := bt_at (a0 ++ a1) x8_2
                        replace p13 := eq_true p13
                        replace q13 := eq_true q13
                        go_wp2
                        go_ret
                        exact ⟨by first | rfl | (simp; done) | (simp [*]; done), by repeat (first | exact Drawn0.refl _ | apply Drawn0.step)⟩
                      · rw [if_neg c16] at H
                        have c16b0 : ((bt (a0 ++ a1) x8_2) == 47) = false := beq_eq_false_iff_ne.mpr c16
                        have c16b1 : ((bt (a0 ++ a1) x8_2) != 47) = true := bne_iff_ne.mpr c16
                        have H' := Aside0.mk H
                        clear H
                        have p13 : 0 ≤ (x8_2 : Int) := of_decide_eq_true (by first | (with_reducible assumption) | assumption)
                        have q13 : x8_2 < ((a0 ++ a1).size : Int) := of_decide_eq_true (by first | (with_reducible assumption) | assumption)
                        try (have q13n := q13; simp only [ByteArray.size_append, ba_size_lit, List.length_cons, List.length_nil, Nat.zero_add, Nat.reduceAdd, Int.natCast_add, Int.natCast_one, Int.cast_ofNat_Int] at q13n)
                        have hx13 := bt_at (a0 ++ a1) x8_2
                        replace p13 := eq_true p13
                        replace q13 := eq_true q13
                        go_wp2
                        go_roundg k2
                        case measure => have := HJ4.out; have := HK2.out; omega
                        case rel => exact ⟨(wrap64 (x8_2 + 1)), (by first | rfl | (simp; done) | (simp [*]; done)), H', ⟨by have := HJ4.out; have := HK2.out; omega⟩, by repeat (first | exact Drawn0.refl _ | apply Drawn0.step)⟩
                · rw [if_neg c12] at H
                  exact absurd H (by simp)
              · rw [if_neg c11] at H
                have c11b0 : decide (x8_2 < ((a0 ++ a1).size : Int)) = false := decide_eq_false c11
                try (have c11b0n := c11b0; simp only [ByteArray.size_append, ba_size_lit, List.length_cons, List.length_nil, Nat.zero_add, Nat.reduceAdd, Int.natCast_add, Int.natCast_one, Int.cast_ofNat_Int] at c11b0n)
                clear c11
                have H' := Aside0.mk H
                clear H
                go_wp2
                go_loopg [10, 11] k2 (fun kq v10 v11 w' => ∃ (x10_3 : Bool) (x11_3 : Int), v10 = .bool x10_3 ∧ v11 = .int .i64 x11_3 ∧ Aside0 (patchworklaw5_GlobPaths.l1 kq a0 a1 a2 x10_3 x11_3 = some r) ∧ Aside0 (kq ≤ k2) ∧ Drawn0 w w')
                case atStart => exact ⟨(false), (0), (by first | rfl | (simp; done) | (simp [*]; done)), (by first | rfl | (simp; done) | (simp [*]; done)), H', ⟨Nat.le_refl _⟩, by repeat (first | exact Drawn0.refl _ | apply Drawn0.step)⟩
                case round =>
                  clear H'
                  try clear c1
                  try clear p1
                  try clear q1
                  try clear hx1
                  try clear c2
                  try clear p2
                  try clear c4
                  try clear c6
                  try clear p6
                  try clear c7
                  try clear c7b0
                  try clear c7b1
                  try clear c8
                  try clear c8b0
                  try clear c8b1
                  try clear c9
                  try clear c10
                  try clear c10b0
                  try clear c10b1
                  try clear c10b2
                  try clear c11
                  try clear c11b0
                  try clear c12
                  try clear c12b0
                  try clear p13
                  try clear q13
                  try clear hx13
                  try clear c14
                  try clear c14b0
                  try clear c14b1
                  try clear c15
                  try clear c15b0
                  try clear c15b1
                  try clear c16
                  try clear c16b0
                  try clear c16b1
                  try clear p13
                  try clear p2
                  try clear q13
                  obtain ⟨x10_3, x11_3, rfl, rfl, HA, HK3, ⟨m3, rfl⟩⟩ := hrel
                  cases gk with
                  | zero => exact absurd HA.out (by simp [patchworklaw5_GlobPaths.l1])
                  | succ k3 =>
                    have H := HA.out
                    clear HA
                    simp only [patchworklaw5_GlobPaths.l1] at H
                    by_cases c17 : x11_3 < (a2.size : Int)
                    · rw [if_pos c17] at H
                      have c17b0 : decide (x11_3 < (a2.size : Int)) = true := decide_eq_true c17
                      clear c17
                      by_cases c18 : x10_3 = true
                      · subst c18
                        have H1 : (patchworklaw5_GlobPaths.l1 k3 a0 a1 a2 true (wrap64 (x11_3 + 1))) = some r := by rw [if_pos rfl] at H; exact H
                        clear H
                        have H := H1
                        clear H1
                        have H' := Aside0.mk H
                        clear H
                        go_wp2
                        go_roundg k3
                        case measure => have := HJ4.out; have := HK2.out; have := HK3.out; omega
                        case rel => exact ⟨(true), (wrap64 (x11_3 + 1)), (by first | rfl | (simp; done) | (simp [*]; done)), (by first | rfl | (simp; done) | (simp [*]; done)), H', ⟨by have := HJ4.out; have := HK2.out; have := HK3.out; omega⟩, by repeat (first | exact Drawn0.refl _ | apply Drawn0.step)⟩
                      · replace c18 := Bool.eq_false_iff.mpr c18
                        subst c18
                        have H1 : (if 0 ≤ x11_3 then (if (bt a2 x11_3) = 47 then (if x11_3 ≤ (a2.size : Int) then ((glob_Match.f k3 a0 (a2.extract 0 (x11_3 : Int).toNat)).bind fun t221 => (if t221 = true then (if 0 ≤ (wrap64 (x11_3 + 1)) then (if (wrap64 (x11_3 + 1)) ≤ (a2.size : Int) then ((glob_Match.f k3 a1 (a2.extract ((wrap64 (x11_3 + 1)) : Int).toNat a2.size)).bind fun t222 => (patchworklaw5_GlobPaths.l1 k3 a0 a1 a2 t222 (wrap64 (x11_3 + 1)))) else (none)) else (none)) else (patchworklaw5_GlobPaths.l1 k3 a0 a1 a2 false (wrap64 (x11_3 + 1))))) else (none)) else (patchworklaw5_GlobPaths.l1 k3 a0 a1 a2 false (wrap64 (x11_3 + 1)))) else (none)) = some r := by rw [if_neg (show ¬ (false = true) by decide)] at H; exact H
                        clear H
                        have H := H1
                        clear H1
                        by_cases c19 : 0 ≤ x11_3
                        · rw [if_pos c19] at H
                          have c19b0 : decide (0 ≤ x11_3) = true := decide_eq_true c19
                          clear c19
                          by_cases c21 : (bt a2 x11_3) = 47
                          · rw [if_pos c21] at H
                            have c21b0 : ((bt a2 x11_3) == 47) = true := beq_iff_eq.mpr c21
                            have c21b1 : ((bt a2 x11_3) != 47) = false := bne_eq_false_iff_eq.mpr c21
                            clear c21
                            have c22b0 := eq_true (of_decide_eq_true (by first | (with_reducible assumption) | assumption) : 0 ≤ x11_3)
                            by_cases c23 : x11_3 ≤ (a2.size : Int)
                            · rw [if_pos c23] at H
                              have c23b0 := eq_true c23
                              have c23b1 : decide (x11_3 ≤ (a2.size : Int)) = true := decide_eq_true c23
                              clear c23
                              replace H := Option.bind_eq_some_iff.mp H
                              obtain ⟨t221, A240, H⟩ := H
                              replace H : (if t221 = true then (if 0 ≤ (wrap64 (x11_3 + 1)) then (if (wrap64 (x11_3 + 1)) ≤ (a2.size : Int) then ((glob_Match.f k3 a1 (a2.extract ((wrap64 (x11_3 + 1)) : Int).toNat a2.size)).bind fun t222 => (patchworklaw5_GlobPaths.l1 k3 a0 a1 a2 t222 (wrap64 (x11_3 + 1)))) else (none)) else (none)) else (patchworklaw5_GlobPaths.l1 k3 a0 a1 a2 false (wrap64 (x11_3 + 1)))) = some r := H
                              have A24 := Aside0.mk A240
                              clear A240
                              by_cases c25 : t221 = true
                              · subst c25
                                have H1 : (if 0 ≤ (wrap64 (x11_3 + 1)) then (if (wrap64 (x11_3 + 1)) ≤ (a2.size : Int) then ((glob_Match.f k3 a1 (a2.extract ((wrap64 (x11_3 + 1)) : Int).toNat a2.size)).bind fun t222 => (patchworklaw5_GlobPaths.l1 k3 a0 a1 a2 t222 (wrap64 (x11_3 + 1)))) else (none)) else (none)) = some r := by rw [if_pos rfl] at H; exact H
                                clear H
                                have H := H1
                                clear H1
                                obtain ⟨ji26, hji26⟩ : ∃ j_ : Int, (wrap64 (x11_3 + 1)) = j_ := ⟨_, rfl⟩
                                replace H : (if 0 ≤ (ji26) then (if (ji26) ≤ (a2.size : Int) then ((glob_Match.f k3 a1 (a2.extract ((ji26) : Int).toNat a2.size)).bind fun t222 => (patchworklaw5_GlobPaths.l1 k3 a0 a1 a2 t222 ji26)) else (none)) else (none)) = some r := by first | (rw [hji26] at H; exact H) | (simp only [hji26] at H ⊢; exact H)
                                (try rw [hji26] at A24)
                                have hji26w : (IntKind.i64.wrap (x11_3 + 1)) = ji26 := (i64_w _).trans hji26
                                by_cases c27 : 0 ≤ (ji26)
                                · rw [if_pos c27] at H
                                  have c27b0 := eq_true c27
                                  have c27b1 : decide (0 ≤ (ji26)) = true := decide_eq_true c27
                                  clear c27
                                  by_cases c28 : (ji26) ≤ (a2.size : Int)
                                  · rw [if_pos c28] at H
                                    have c28b0 := eq_true c28
                                    have c28b1 : decide ((ji26) ≤ (a2.size : Int)) = true := decide_eq_true c28
                                    clear c28
                                    replace H := Option.bind_eq_some_iff.mp H
                                    obtain ⟨t222, A290, H⟩ := H
                                    replace H : (patchworklaw5_GlobPaths.l1 k3 a0 a1 a2 t222 ji26) = some r := H
                                    have A29 := Aside0.mk A290
                                    clear A290
                                    have H' := Aside0.mk H
                                    clear H
                                    have p20 : 0 ≤ (x11_3 : Int) := of_decide_eq_true (by first | (with_reducible assumption) | assumption)
                                    have q20 : x11_3 < (a2.size : Int) := of_decide_eq_true (by first | (with_reducible assumption) | assumption)
                                    have hx20 := bt_at a2 x11_3
                                    replace p20 := eq_true p20
                                    replace q20 := eq_true q20
                                    go_wp2_with (first | (go_at_call 24; (with_reducible refine (glob_Match.calls k3 a0 (a2.extract 0 (x11_3 : Int).toNat) true _ ?side1 A24.out).mono ?_); (case side1 => first | exact hX | exact XW.drawn hX (by repeat (first | exact Drawn0.refl _ | apply Drawn0.step))); rintro e w' ⟨rfl, ⟨nd, rfl⟩⟩) | (go_at_call 24; (with_reducible refine (glob_Match.calls k3 a1 (a2.extract ((ji26) : Int).toNat a2.size) t222 _ ?side1 A29.out).mono ?_); (case side1 => first | exact hX | exact XW.drawn hX (by repeat (first | exact Drawn0.refl _ | apply Drawn0.step))); rintro e w' ⟨rfl, ⟨nd, rfl⟩⟩))
                                    (first | go_roundg k3 | (simp only [← hji26]; go_roundg k3))
                                    case measure => have := HJ4.out; have := HK2.out; have := HK3.out; omega
                                    case rel => exact ⟨(t222), (ji26), (by first | rfl | (simp; done) | (simp [*]; done)), (by first | rfl | (simp; done) | (simp only [← hji26] <;> (first | rfl | simp)) | (simp [*]; done)), (by first | (with_reducible exact H') | (simp only [hji26]; with_reducible exact H') | (simp only [hji26] at H' ⊢; with_reducible exact H') | exact H'), ⟨by have := HJ4.out; have := HK2.out; have := HK3.out; omega⟩, by repeat (first | exact Drawn0.refl _ | apply Drawn0.step)⟩
                                  · rw [if_neg c28] at H
                                    exact absurd H (by simp)
                                · rw [if_neg c27] at H
                                  exact absurd H (by simp)
                              · replace c25 := Bool.eq_false_iff.mpr c25
                                subst c25
                                have H1 : (patchworklaw5_GlobPaths.l1 k3 a0 a1 a2 false (wrap64 (x11_3 + 1))) = some r := by rw [if_neg (show ¬ (false = true) by decide)] at H; exact H
                                clear H
                                have H := H1
                                clear H1
                                have H' := Aside0.mk H
                                clear H
                                have p20 : 0 ≤ (x11_3 : Int) := of_decide_eq_true (by first | (with_reducible assumption) | assumption)
                                have q20 : x11_3 < (a2.size : Int) := of_decide_eq_true (by first | (with_reducible assumption) | assumption)
                                have hx20 := bt_at a2 x11_3
                                replace p20 := eq_true p20
                                replace q20 := eq_true q20
                                go_wp2_with (first | (go_at_call 24; (with_reducible refine (glob_Match.calls k3 a0 (a2.extract 0 (x11_3 : Int).toNat) false _ ?side1 A24.out).mono ?_); (case side1 => first | exact hX | exact XW.drawn hX (by repeat (first | exact Drawn0.refl _ | apply Drawn0.step))); rintro e w' ⟨rfl, ⟨nd, rfl⟩⟩))
                                go_roundg k3
                                case measure => have := HJ4.out; have := HK2.out; have := HK3.out; omega
                                case rel => exact ⟨(false), (wrap64 (x11_3 + 1)), (by first | rfl | (simp; done) | (simp [*]; done)), (by first | rfl | (simp; done) | (simp [*]; done)), H', ⟨by have := HJ4.out; have := HK2.out; have := HK3.out; omega⟩, by repeat (first | exact Drawn0.refl _ | apply Drawn0.step)⟩
                            · rw [if_neg c23] at H
                              exact absurd H (by simp)
                          · rw [if_neg c21] at H
                            have c21b0 : ((bt a2 x11_3) == 47) = false := beq_eq_false_iff_ne.mpr c21
                            have c21b1 : ((bt a2 x11_3) != 47) = true := bne_iff_ne.mpr c21
                            have H' := Aside0.mk H
                            clear H
                            have p20 : 0 ≤ (x11_3 : Int) := of_decide_eq_true (by first | (with_reducible assumption) | assumption)
                            have q20 : x11_3 < (a2.size : Int) := of_decide_eq_true (by first | (with_reducible assumption) | assumption)
                            have hx20 := bt_at a2 x11_3
                            replace p20 := eq_true p20
                            replace q20 := eq_true q20
                            go_wp2
                            go_roundg k3
                            case measure => have := HJ4.out; have := HK2.out; have := HK3.out; omega
                            case rel => exact ⟨(false), (wrap64 (x11_3 + 1)), (by first | rfl | (simp; done) | (simp [*]; done)), (by first | rfl | (simp; done) | (simp [*]; done)), H', ⟨by have := HJ4.out; have := HK2.out; have := HK3.out; omega⟩, by repeat (first | exact Drawn0.refl _ | apply Drawn0.step)⟩
                        · rw [if_neg c19] at H
                          exact absurd H (by simp)
                    · rw [if_neg c17] at H
                      have c17b0 : decide (x11_3 < (a2.size : Int)) = false := decide_eq_false c17
                      clear c17
                      by_cases c30 : a0.size + 1 ≤ 9223372036854775807
                      · rw [if_pos c30] at H
                        have c30b0 := eq_true c30
                        have c30b1 : decide (a0.size + 1 ≤ 9223372036854775807) = true := decide_eq_true c30
                        try have c30b2 : (9223372036854775807 < a0.size + 1) = False := eq_false (Nat.not_lt.2 c30)
                        by_cases c31 : (a0 ++ (⟨#[47]⟩ : ByteArray)).size + a1.size ≤ 9223372036854775807
                        · rw [if_pos c31] at H
                          have c31b0 := eq_true c31
                          have c31b1 : decide ((a0 ++ (⟨#[47]⟩ : ByteArray)).size + a1.size ≤ 9223372036854775807) = true := decide_eq_true c31
                          try (have c31b1n := c31b1; simp only [ByteArray.size_append, ba_size_lit, List.length_cons, List.length_nil, Nat.zero_add, Nat.reduceAdd, Int.natCast_add, Int.natCast_one, Int.cast_ofNat_Int] at c31b1n)
                          try have c31b2 : (9223372036854775807 < (a0 ++ (⟨#[47]⟩ : ByteArray)).size + a1.size) = False := eq_false (Nat.not_lt.2 c31)
                          try (have c31b3 := c31b2; simp only [ByteArray.size_append, ba_size_lit, List.length_cons, List.length_nil, Nat.zero_add, Nat.reduceAdd] at c31b3)
                          replace H := Option.bind_eq_some_iff.mp H
                          obtain ⟨t223, A320, H⟩ := H
                          replace H : (some (t223 == x10_3)) = some r := H
                          have A32 := Aside0.mk A320
                          clear A320
                          obtain rfl := Option.some.inj H
                          go_wp2_with (first | ((with_reducible refine gate_callee (f := 24) rfl ?_); refine goesL_ (some 87) rfl rfl Try.func24 (by kernel_rfl) rfl #[.string ((a0 ++ (⟨#[47]⟩ : ByteArray)) ++ a1), .string a2] rfl (by (try simp only [List.map_toArray, List.map_cons, List.map_nil]); first | done | rfl | (simp only [List.length_drop, List.length_take]; rfl)) ?_; (with_reducible refine (glob_Match.calls k3 ((a0 ++ (⟨#[47]⟩ : ByteArray)) ++ a1) a2 t223 _ ?side1 A32.out).mono ?_); (case side1 => first | exact hX | exact XW.drawn hX (by repeat (first | exact Drawn0.refl _ | apply Drawn0.step))); rintro e w' ⟨rfl, ⟨nd, rfl⟩⟩; refine ⟨_, rfl, ?_⟩))
                          go_ret
                          exact ⟨by first | rfl | (simp; done) | (simp [*]; done), by repeat (first | exact Drawn0.refl _ | apply Drawn0.step)⟩
                        · rw [if_neg c31] at H
                          exact absurd H (by simp)
                      · rw [if_neg c30] at H
                        exact absurd H (by simp)
            · rw [if_neg c10] at H
              exact absurd H (by simp)

/-- THE ONE PURE STATEMENT of patchworklaw5_GlobPaths: yours. -/
def patchworklaw5_GlobPaths.Pure : Prop := ∀ (a0 : ByteArray) (a1 : ByteArray) (a2 : ByteArray), a0.size ≤ 140737488351232 → a1.size ≤ 140737488351232 → a2.size ≤ 140737488351232 → ∃ k, patchworklaw5_GlobPaths.f k a0 a1 a2 = some true
theorem patchworklaw5_GlobPaths.walk (P : patchworklaw5_GlobPaths.Pure) (a0 : ByteArray) (a1 : ByteArray) (a2 : ByteArray) (w : World) (w0 : a0.size ≤ 140737488351232) (w1 : a1.size ≤ 140737488351232) (w2 : a2.size ≤ 140737488351232) (hX : XW w) :
    Calls Try.prog 10 #[.string a0, .string a1, .string a2] w fun e w' => e = .returned (.bool true) ∧ Below w.heap.size w w' := by
  obtain ⟨k, h⟩ := P a0 a1 a2 w0 w1 w2
  refine (patchworklaw5_GlobPaths.calls k a0 a1 a2 true w hX h).mono ?_
  rintro e w' ⟨rfl, hd⟩
  exact ⟨rfl, hd.below⟩

end Go.Proofs.Ytahfoeichmfloaa.Gl
