/- Functions of the given program in plain Lean, each with the proof that its call answers so; no condition. Written by a program of this session's own (a turned copy of the kit's printing program). -/
import Derived.Test.YtahfoeichmfloaaGlx0
import Derived.Test.YtahfoeichmfloaaGlx3
namespace Go.Proofs.Ytahfoeichmfloaa.Gl
open Go.RowKit Go.Proofs.YtahfoeichmfloaaW.PrintWords Go.Proofs.YtahfoeichmfloaaW.PrintLast Go.Proofs.YtahfoeichmfloaaW.PrintMore
attribute [local go_sem] max2_int min2_int max_two min_two max_three min_three max_four min_four   -- for this text's walks alone
set_option linter.unusedVariables false
set_option linter.unusedSimpArgs false

/-! ### patchworklaw5_GlobSelf: function 8 -/
mutual
def patchworklaw5_GlobSelf.j0 : Nat → ByteArray → ByteArray → Bool → Bool → Bool → Option (Bool)
  | 0, _, _, _, _, _ => none
  | k + 1, x0, x1, x2, x7, x26 => if x26 = true then (some x7) else (patchworklaw5_GlobSelf.l0 k x0 x1 x2 (⟨#[]⟩ : ByteArray) 0)
def patchworklaw5_GlobSelf.l0 : Nat → ByteArray → ByteArray → Bool → ByteArray → Int → Option (Bool)
  | 0, _, _, _, _, _ => none
  | k + 1, x0, x1, x2, x8, x9 => if x9 < (x0.size : Int) then (if x2 = true then (if x8.size + 1 ≤ 9223372036854775807 then (if (x8 ++ (⟨#[42]⟩ : ByteArray)).size + 1 ≤ 9223372036854775807 then (if 0 ≤ x9 then (if x9 ≤ (wrap64 (x9 + 1)) then (if (wrap64 (x9 + 1)) ≤ (x0.size : Int) then (if ((x8 ++ (⟨#[42]⟩ : ByteArray)) ++ (⟨#[92]⟩ : ByteArray)).size + (x0.extract (x9 : Int).toNat ((wrap64 (x9 + 1)) : Int).toNat).size ≤ 9223372036854775807 then (patchworklaw5_GlobSelf.l0 k x0 x1 x2 (((x8 ++ (⟨#[42]⟩ : ByteArray)) ++ (⟨#[92]⟩ : ByteArray)) ++ (x0.extract (x9 : Int).toNat ((wrap64 (x9 + 1)) : Int).toNat)) (wrap64 (x9 + 1))) else (none)) else (none)) else (none)) else (none)) else (none)) else (none)) else (if x8.size + 1 ≤ 9223372036854775807 then (if 0 ≤ x9 then (if x9 ≤ (wrap64 (x9 + 1)) then (if (wrap64 (x9 + 1)) ≤ (x0.size : Int) then (if (x8 ++ (⟨#[92]⟩ : ByteArray)).size + (x0.extract (x9 : Int).toNat ((wrap64 (x9 + 1)) : Int).toNat).size ≤ 9223372036854775807 then (patchworklaw5_GlobSelf.l0 k x0 x1 x2 ((x8 ++ (⟨#[92]⟩ : ByteArray)) ++ (x0.extract (x9 : Int).toNat ((wrap64 (x9 + 1)) : Int).toNat)) (wrap64 (x9 + 1))) else (none)) else (none)) else (none)) else (none)) else (none))) else (if x2 = true then (if x8.size + 1 ≤ 9223372036854775807 then ((glob_Match.f k (x8 ++ (⟨#[42]⟩ : ByteArray)) x0).bind fun t195 => (if t195 = true then (patchworklaw5_GlobSelf.l1 k x0 x1 (x8 ++ (⟨#[42]⟩ : ByteArray)) 0) else (some false))) else (none)) else ((glob_Match.f k x8 x0).bind fun t193 => (if t193 = true then ((glob_Match.f k x8 x1).bind fun t194 => (some (t194 == (x0.toList == x1.toList)))) else (some false))))
def patchworklaw5_GlobSelf.l1 : Nat → ByteArray → ByteArray → ByteArray → Int → Option (Bool)
  | 0, _, _, _, _ => none
  | k + 1, x0, x1, x8, x10 => if x10 < (x0.size : Int) then (if 0 ≤ x10 then (if (bt x0 x10) = 47 then (some true) else (patchworklaw5_GlobSelf.l1 k x0 x1 x8 (wrap64 (x10 + 1)))) else (none)) else (patchworklaw5_GlobSelf.l2 k x0 x1 x8 0 true 0)
def patchworklaw5_GlobSelf.l2 : Nat → ByteArray → ByteArray → ByteArray → Int → Bool → Int → Option (Bool)
  | 0, _, _, _, _, _, _ => none
  | k + 1, x0, x1, x8, x11, x12, x13 => if x13 < (x1.size : Int) then (if x12 = true then (if 0 ≤ x13 then (if x11 < (x0.size : Int) then (if 0 ≤ x11 then (if (bt x1 x13) = (bt x0 x11) then (patchworklaw5_GlobSelf.l2 k x0 x1 x8 (wrap64 (x11 + 1)) ((bt x1 x13) != 47) (wrap64 (x13 + 1))) else (patchworklaw5_GlobSelf.l2 k x0 x1 x8 x11 ((bt x1 x13) != 47) (wrap64 (x13 + 1)))) else (none)) else (patchworklaw5_GlobSelf.l2 k x0 x1 x8 x11 ((bt x1 x13) != 47) (wrap64 (x13 + 1)))) else (none)) else (if x11 < (x0.size : Int) then (if 0 ≤ x13 then (if 0 ≤ x11 then (if (bt x1 x13) = (bt x0 x11) then (patchworklaw5_GlobSelf.l2 k x0 x1 x8 (wrap64 (x11 + 1)) false (wrap64 (x13 + 1))) else (patchworklaw5_GlobSelf.l2 k x0 x1 x8 x11 false (wrap64 (x13 + 1)))) else (none)) else (none)) else (patchworklaw5_GlobSelf.l2 k x0 x1 x8 x11 false (wrap64 (x13 + 1))))) else ((glob_Match.f k x8 x1).bind fun t196 => (if x12 = true then (some (t196 == (x11 == (x0.size : Int)))) else (some (t196 == false))))
end
def patchworklaw5_GlobSelf.f (k : Nat) (a0 : ByteArray) (a1 : ByteArray) (a2 : Bool) : Option (Bool) := (patchworklaw5_alive.f k).bind fun t192 => (if t192 = true then (if (a0.size : Int) > 40 then (patchworklaw5_GlobSelf.j0 k a0 a1 a2 t192 true) else (patchworklaw5_GlobSelf.j0 k a0 a1 a2 t192 (decide ((a1.size : Int) > 60)))) else (patchworklaw5_GlobSelf.j0 k a0 a1 a2 t192 true))
theorem patchworklaw5_GlobSelf.mono_l : ∀ k, (∀ y0 y1 y2 y3 y4, LeO (patchworklaw5_GlobSelf.j0 k y0 y1 y2 y3 y4) (patchworklaw5_GlobSelf.j0 (k + 1) y0 y1 y2 y3 y4)) ∧ (∀ y0 y1 y2 y3 y4, LeO (patchworklaw5_GlobSelf.l0 k y0 y1 y2 y3 y4) (patchworklaw5_GlobSelf.l0 (k + 1) y0 y1 y2 y3 y4)) ∧ (∀ y0 y1 y2 y3, LeO (patchworklaw5_GlobSelf.l1 k y0 y1 y2 y3) (patchworklaw5_GlobSelf.l1 (k + 1) y0 y1 y2 y3)) ∧ (∀ y0 y1 y2 y3 y4 y5, LeO (patchworklaw5_GlobSelf.l2 k y0 y1 y2 y3 y4 y5) (patchworklaw5_GlobSelf.l2 (k + 1) y0 y1 y2 y3 y4 y5))
  | 0 => ⟨fun _ _ _ _ _ r h => by simp [patchworklaw5_GlobSelf.j0] at h, fun _ _ _ _ _ r h => by simp [patchworklaw5_GlobSelf.l0] at h, fun _ _ _ _ r h => by simp [patchworklaw5_GlobSelf.l1] at h, fun _ _ _ _ _ _ r h => by simp [patchworklaw5_GlobSelf.l2] at h⟩
  | k + 1 => by
    obtain ⟨ih0, ih1, ih2, ih3⟩ := patchworklaw5_GlobSelf.mono_l k
    refine ⟨?_, ?_, ?_, ?_⟩
    · intro y0 y1 y2 y3 y4
      unfold patchworklaw5_GlobSelf.j0
      repeat' first
      | (with_reducible exact ih0 _ _ _ _ _)
      | (with_reducible exact ih1 _ _ _ _ _)
      | (with_reducible exact ih2 _ _ _ _)
      | (with_reducible exact ih3 _ _ _ _ _ _)
      | (with_reducible exact glob_Match.mono _ _ _)
      | (with_reducible exact patchworklaw5_alive.mono _)
      | (with_reducible exact LeO.refl _)
      | (with_reducible exact LeO.none _)
      | (with_reducible refine LeO.ite ?_ ?_)
      | (with_reducible refine LeO.bind ?_ (fun _ => ?_))
      | exact ih0 _ _ _ _ _
      | exact ih1 _ _ _ _ _
      | exact ih2 _ _ _ _
      | exact ih3 _ _ _ _ _ _
      | exact glob_Match.mono _ _ _
      | exact patchworklaw5_alive.mono _
      | exact LeO.none _
      | refine LeO.ite ?_ ?_
      | refine LeO.bind ?_ (fun _ => ?_)
    · intro y0 y1 y2 y3 y4
      unfold patchworklaw5_GlobSelf.l0
      repeat' first
      | (with_reducible exact ih0 _ _ _ _ _)
      | (with_reducible exact ih1 _ _ _ _ _)
      | (with_reducible exact ih2 _ _ _ _)
      | (with_reducible exact ih3 _ _ _ _ _ _)
      | (with_reducible exact glob_Match.mono _ _ _)
      | (with_reducible exact patchworklaw5_alive.mono _)
      | (with_reducible exact LeO.refl _)
      | (with_reducible exact LeO.none _)
      | (with_reducible refine LeO.ite ?_ ?_)
      | (with_reducible refine LeO.bind ?_ (fun _ => ?_))
      | exact ih0 _ _ _ _ _
      | exact ih1 _ _ _ _ _
      | exact ih2 _ _ _ _
      | exact ih3 _ _ _ _ _ _
      | exact glob_Match.mono _ _ _
      | exact patchworklaw5_alive.mono _
      | exact LeO.none _
      | refine LeO.ite ?_ ?_
      | refine LeO.bind ?_ (fun _ => ?_)
    · intro y0 y1 y2 y3
      unfold patchworklaw5_GlobSelf.l1
      repeat' first
      | (with_reducible exact ih0 _ _ _ _ _)
      | (with_reducible exact ih1 _ _ _ _ _)
      | (with_reducible exact ih2 _ _ _ _)
      | (with_reducible exact ih3 _ _ _ _ _ _)
      | (with_reducible exact glob_Match.mono _ _ _)
      | (with_reducible exact patchworklaw5_alive.mono _)
      | (with_reducible exact LeO.refl _)
      | (with_reducible exact LeO.none _)
      | (with_reducible refine LeO.ite ?_ ?_)
      | (with_reducible refine LeO.bind ?_ (fun _ => ?_))
      | exact ih0 _ _ _ _ _
      | exact ih1 _ _ _ _ _
      | exact ih2 _ _ _ _
      | exact ih3 _ _ _ _ _ _
      | exact glob_Match.mono _ _ _
      | exact patchworklaw5_alive.mono _
      | exact LeO.none _
      | refine LeO.ite ?_ ?_
      | refine LeO.bind ?_ (fun _ => ?_)
    · intro y0 y1 y2 y3 y4 y5
      unfold patchworklaw5_GlobSelf.l2
      repeat' first
      | (with_reducible exact ih0 _ _ _ _ _)
      | (with_reducible exact ih1 _ _ _ _ _)
      | (with_reducible exact ih2 _ _ _ _)
      | (with_reducible exact ih3 _ _ _ _ _ _)
      | (with_reducible exact glob_Match.mono _ _ _)
      | (with_reducible exact patchworklaw5_alive.mono _)
      | (with_reducible exact LeO.refl _)
      | (with_reducible exact LeO.none _)
      | (with_reducible refine LeO.ite ?_ ?_)
      | (with_reducible refine LeO.bind ?_ (fun _ => ?_))
      | exact ih0 _ _ _ _ _
      | exact ih1 _ _ _ _ _
      | exact ih2 _ _ _ _
      | exact ih3 _ _ _ _ _ _
      | exact glob_Match.mono _ _ _
      | exact patchworklaw5_alive.mono _
      | exact LeO.none _
      | refine LeO.ite ?_ ?_
      | refine LeO.bind ?_ (fun _ => ?_)
theorem patchworklaw5_GlobSelf.mono : ∀ a0 a1 a2 k, LeO (patchworklaw5_GlobSelf.f k a0 a1 a2) (patchworklaw5_GlobSelf.f (k + 1) a0 a1 a2) := by
  intro a0 a1 a2 k
  obtain ⟨ih0, ih1, ih2, ih3⟩ := patchworklaw5_GlobSelf.mono_l k
  unfold patchworklaw5_GlobSelf.f
  repeat' first
      | (with_reducible exact ih0 _ _ _ _ _)
      | (with_reducible exact ih1 _ _ _ _ _)
      | (with_reducible exact ih2 _ _ _ _)
      | (with_reducible exact ih3 _ _ _ _ _ _)
      | (with_reducible exact glob_Match.mono _ _ _)
      | (with_reducible exact patchworklaw5_alive.mono _)
      | (with_reducible exact LeO.refl _)
      | (with_reducible exact LeO.none _)
      | (with_reducible refine LeO.ite ?_ ?_)
      | (with_reducible refine LeO.bind ?_ (fun _ => ?_))
      | exact ih0 _ _ _ _ _
      | exact ih1 _ _ _ _ _
      | exact ih2 _ _ _ _
      | exact ih3 _ _ _ _ _ _
      | exact glob_Match.mono _ _ _
      | exact patchworklaw5_alive.mono _
      | exact LeO.none _
      | refine LeO.ite ?_ ?_
      | refine LeO.bind ?_ (fun _ => ?_)
set_option maxHeartbeats 8000000 in
set_option maxRecDepth 100000 in
theorem patchworklaw5_GlobSelf.calls (k : Nat) (a0 : ByteArray) (a1 : ByteArray) (a2 : Bool) (r : Bool) (w : World) (hX : XW w) (h : patchworklaw5_GlobSelf.f k a0 a1 a2 = some r) :
    Calls Try.prog 8 #[.string a0, .string a1, .bool a2] w fun e w' => e = .returned (.bool r) ∧ Drawn0 w w' := by
  have H : ((patchworklaw5_alive.f k).bind fun t192 => (if t192 = true then (if (a0.size : Int) > 40 then (patchworklaw5_GlobSelf.j0 k a0 a1 a2 t192 true) else (patchworklaw5_GlobSelf.j0 k a0 a1 a2 t192 (decide ((a1.size : Int) > 60)))) else (patchworklaw5_GlobSelf.j0 k a0 a1 a2 t192 true))) = some r := h
  clear h
  replace H := Option.bind_eq_some_iff.mp H
  obtain ⟨t192, A40, H⟩ := H
  replace H : (if t192 = true then (if (a0.size : Int) > 40 then (patchworklaw5_GlobSelf.j0 k a0 a1 a2 t192 true) else (patchworklaw5_GlobSelf.j0 k a0 a1 a2 t192 (decide ((a1.size : Int) > 60)))) else (patchworklaw5_GlobSelf.j0 k a0 a1 a2 t192 true)) = some r := H
  have A4 := Aside0.mk A40
  clear A40
  have HC5 := Aside0.mk H
  clear H
  go_enter Try.func8, Try.ntmps8
  go_upto_region 2 with (first | (go_at_call 23; (with_reducible refine (patchworklaw5_alive.calls k  t192 _ ?side1 A4.out).mono ?_); (case side1 => first | exact hX | exact XW.drawn hX (by repeat (first | exact Drawn0.refl _ | apply Drawn0.step))); rintro e w' ⟨rfl, ⟨nd, rfl⟩⟩; (try first | exact ⟨rfl, _, World.drewN_drewN _ _ _⟩ | exact ⟨rfl, _, Eq.trans (World.drewN_drewN _ _ _) (congrArg (World.drewN _) (Nat.add_assoc _ _ _))⟩)))
  repeat (go_quiet (first | (go_at_call 23; (with_reducible refine (patchworklaw5_alive.calls k  t192 _ ?side1 A4.out).mono ?_); (case side1 => first | exact hX | exact XW.drawn hX (by repeat (first | exact Drawn0.refl _ | apply Drawn0.step))); rintro e w' ⟨rfl, ⟨nd, rfl⟩⟩; (try first | exact ⟨rfl, _, World.drewN_drewN _ _ _⟩ | exact ⟨rfl, _, Eq.trans (World.drewN_drewN _ _ _) (congrArg (World.drewN _) (Nat.add_assoc _ _ _))⟩))); go_upto_region 2 with (first | (go_at_call 23; (with_reducible refine (patchworklaw5_alive.calls k  t192 _ ?side1 A4.out).mono ?_); (case side1 => first | exact hX | exact XW.drawn hX (by repeat (first | exact Drawn0.refl _ | apply Drawn0.step))); rintro e w' ⟨rfl, ⟨nd, rfl⟩⟩; (try first | exact ⟨rfl, _, World.drewN_drewN _ _ _⟩ | exact ⟨rfl, _, Eq.trans (World.drewN_drewN _ _ _) (congrArg (World.drewN _) (Nat.add_assoc _ _ _))⟩))))
  (try simp only [Act.put, List.setIfInBounds_toArray, List.set_cons_zero, List.set_cons_succ])
  go_cut [26] (fun v26 wc => ∃ (kq : Nat) (x26_4 : Bool), v26 = .bool x26_4 ∧ Aside0 (patchworklaw5_GlobSelf.j0 kq a0 a1 a2 t192 x26_4 = some r) ∧ Aside0 (kq ≤ k) ∧ Drawn0 w wc)
  case first =>
    have H := HC5.out
    clear HC5
    by_cases c6 : t192 = true
    · subst c6
      have H1 : (if (a0.size : Int) > 40 then (patchworklaw5_GlobSelf.j0 k a0 a1 a2 true true) else (patchworklaw5_GlobSelf.j0 k a0 a1 a2 true (decide ((a1.size : Int) > 60)))) = some r := by rw [if_pos rfl] at H; exact H
      clear H
      have H := H1
      clear H1
      by_cases c7 : (a0.size : Int) > 40
      · rw [if_pos c7] at H
        have c7b0 : decide (40 < (a0.size : Int)) = true := decide_eq_true c7
        have c7b1 : decide (40 < a0.size) = true := decide_eq_true (by omega)
        clear c7
        (first | rw [c7b0] | (simp only [i64_w, i32_w]; rw [c7b0]) | skip)
        have H' := Aside0.mk H
        clear H
        go_wp2
        repeat (go_quiet (fail); try go_wp2)
        go_meet
        case rel => exact ⟨_, (true), (by first | rfl | (simp; done) | (simp [*]; done)), H', ⟨by first | omega | exact Nat.le_refl _⟩, by repeat (first | exact Drawn0.refl _ | apply Drawn0.step)⟩
      · rw [if_neg c7] at H
        have c7b0 : decide (40 < (a0.size : Int)) = false := decide_eq_false c7
        have c7b1 : decide (40 < a0.size) = false := decide_eq_false (by omega)
        clear c7
        (first | rw [c7b0] | (simp only [i64_w, i32_w]; rw [c7b0]) | skip)
        have H' := Aside0.mk H
        clear H
        go_wp2
        repeat (go_quiet (fail); try go_wp2)
        go_meet
        case rel => exact ⟨_, (decide ((a1.size : Int) > 60)), (by first | rfl | (simp; done) | (simp [*]; done)), H', ⟨by first | omega | exact Nat.le_refl _⟩, by repeat (first | exact Drawn0.refl _ | apply Drawn0.step)⟩
    · replace c6 := Bool.eq_false_iff.mpr c6
      subst c6
      have H1 : (patchworklaw5_GlobSelf.j0 k a0 a1 a2 false true) = some r := by rw [if_neg (show ¬ (false = true) by decide)] at H; exact H
      clear H
      have H := H1
      clear H1
      have H' := Aside0.mk H
      clear H
      go_wp2
      repeat (go_quiet (fail); try go_wp2)
      go_meet
      case rel => exact ⟨_, (true), (by first | rfl | (simp; done) | (simp [*]; done)), H', ⟨by first | omega | exact Nat.le_refl _⟩, by repeat (first | exact Drawn0.refl _ | apply Drawn0.step)⟩
  case rest =>
    clear HC5
    try clear p2
    try clear c6
    try clear c7
    try clear c7b0
    try clear c7b1
    obtain ⟨kq, x26_4, rfl, HA, HJ4, ⟨mc4, rfl⟩⟩ := hcut
    cases kq with
    | zero => exact absurd HA.out (by simp [patchworklaw5_GlobSelf.j0])
    | succ kj4 =>
      have H := HA.out
      clear HA
      simp only [patchworklaw5_GlobSelf.j0] at H
      by_cases c8 : x26_4 = true
      · subst c8
        have H1 : (some t192) = some r := by rw [if_pos rfl] at H; exact H
        clear H
        have H := H1
        clear H1
        obtain rfl := Option.some.inj H
        go_wp2
        repeat (go_quiet (fail); try go_wp2)
        go_ret
        exact ⟨by first | rfl | (simp; done) | (simp [*]; done), by repeat (first | exact Drawn0.refl _ | apply Drawn0.step)⟩
      · replace c8 := Bool.eq_false_iff.mpr c8
        subst c8
        have H1 : (patchworklaw5_GlobSelf.l0 kj4 a0 a1 a2 (⟨#[]⟩ : ByteArray) 0) = some r := by rw [if_neg (show ¬ (false = true) by decide)] at H; exact H
        clear H
        have H := H1
        clear H1
        have H' := Aside0.mk H
        clear H
        go_wp2
        repeat (go_quiet (fail); try go_wp2)
        go_loopg [8, 9] kj4 (fun kq v8 v9 w' => ∃ (x8_2 : ByteArray) (x9_2 : Int), v8 = .string x8_2 ∧ v9 = .int .i64 x9_2 ∧ Aside0 (patchworklaw5_GlobSelf.l0 kq a0 a1 a2 x8_2 x9_2 = some r) ∧ Aside0 (kq ≤ kj4) ∧ Drawn0 w w')
        case atStart => exact ⟨((⟨#[]⟩ : ByteArray)), (0), (by first | rfl | (simp; done) | (simp [*]; done)), (by first | rfl | (simp; done) | (simp [*]; done)), H', ⟨Nat.le_refl _⟩, by repeat (first | exact Drawn0.refl _ | apply Drawn0.step)⟩
        case round =>
          clear H'
          try clear p2
          try clear c4
          try clear c6
          try clear c7
          try clear c7b0
          try clear c7b1
          try clear c8
          try clear p2
          obtain ⟨x8_2, x9_2, rfl, rfl, HA, HK2, ⟨m2, rfl⟩⟩ := hrel
          cases gk with
          | zero => exact absurd HA.out (by simp [patchworklaw5_GlobSelf.l0])
          | succ k2 =>
            have H := HA.out
            clear HA
            simp only [patchworklaw5_GlobSelf.l0] at H
            by_cases c9 : x9_2 < (a0.size : Int)
            · rw [if_pos c9] at H
              have c9b0 : decide (x9_2 < (a0.size : Int)) = true := decide_eq_true c9
              clear c9
              by_cases c10 : a2 = true
              · subst c10
                have H1 : (if x8_2.size + 1 ≤ 9223372036854775807 then (if (x8_2 ++ (⟨#[42]⟩ : ByteArray)).size + 1 ≤ 9223372036854775807 then (if 0 ≤ x9_2 then (if x9_2 ≤ (wrap64 (x9_2 + 1)) then (if (wrap64 (x9_2 + 1)) ≤ (a0.size : Int) then (if ((x8_2 ++ (⟨#[42]⟩ : ByteArray)) ++ (⟨#[92]⟩ : ByteArray)).size + (a0.extract (x9_2 : Int).toNat ((wrap64 (x9_2 + 1)) : Int).toNat).size ≤ 9223372036854775807 then (patchworklaw5_GlobSelf.l0 k2 a0 a1 true (((x8_2 ++ (⟨#[42]⟩ : ByteArray)) ++ (⟨#[92]⟩ : ByteArray)) ++ (a0.extract (x9_2 : Int).toNat ((wrap64 (x9_2 + 1)) : Int).toNat)) (wrap64 (x9_2 + 1))) else (none)) else (none)) else (none)) else (none)) else (none)) else (none)) = some r := by rw [if_pos rfl] at H; exact H
                clear H
                have H := H1
                clear H1
                by_cases c11 : x8_2.size + 1 ≤ 9223372036854775807
                · rw [if_pos c11] at H
                  have c11b0 := eq_true c11
                  have c11b1 : decide (x8_2.size + 1 ≤ 9223372036854775807) = true := decide_eq_true c11
                  try have c11b2 : (9223372036854775807 < x8_2.size + 1) = False := eq_false (Nat.not_lt.2 c11)
                  by_cases c12 : (x8_2 ++ (⟨#[42]⟩ : ByteArray)).size + 1 ≤ 9223372036854775807
                  · rw [if_pos c12] at H
                    have c12b0 := eq_true c12
                    have c12b1 : decide ((x8_2 ++ (⟨#[42]⟩ : ByteArray)).size + 1 ≤ 9223372036854775807) = true := decide_eq_true c12
                    try (have c12b1n := c12b1; simp only [ByteArray.size_append, ba_size_lit, List.length_cons, List.length_nil, Nat.zero_add, Nat.reduceAdd, Int.natCast_add, Int.natCast_one, Int.cast_ofNat_Int] at c12b1n)
                    try have c12b2 : (9223372036854775807 < (x8_2 ++ (⟨#[42]⟩ : ByteArray)).size + 1) = False := eq_false (Nat.not_lt.2 c12)
                    try (have c12b3 := c12b2; simp only [ByteArray.size_append, ba_size_lit, List.length_cons, List.length_nil, Nat.zero_add, Nat.reduceAdd] at c12b3)
                    by_cases c13 : 0 ≤ x9_2
                    · rw [if_pos c13] at H
                      have c13b0 := eq_true c13
                      have c13b1 : decide (0 ≤ x9_2) = true := decide_eq_true c13
                      clear c13
                      by_cases c14 : x9_2 ≤ (wrap64 (x9_2 + 1))
                      · rw [if_pos c14] at H
                        have c14b0 := eq_true c14
                        have c14b1 : decide (x9_2 ≤ (wrap64 (x9_2 + 1))) = true := decide_eq_true c14
                        by_cases c15 : (wrap64 (x9_2 + 1)) ≤ (a0.size : Int)
                        · rw [if_pos c15] at H
                          have c15b0 := eq_true c15
                          have c15b1 : decide ((wrap64 (x9_2 + 1)) ≤ (a0.size : Int)) = true := decide_eq_true c15
                          by_cases c16 : ((x8_2 ++ (⟨#[42]⟩ : ByteArray)) ++ (⟨#[92]⟩ : ByteArray)).size + (a0.extract (x9_2 : Int).toNat ((wrap64 (x9_2 + 1)) : Int).toNat).size ≤ 9223372036854775807
                          · rw [if_pos c16] at H
                            have c16b0 := eq_true c16
                            have c16b1 : decide (((x8_2 ++ (⟨#[42]⟩ : ByteArray)) ++ (⟨#[92]⟩ : ByteArray)).size + (a0.extract (x9_2 : Int).toNat ((wrap64 (x9_2 + 1)) : Int).toNat).size ≤ 9223372036854775807) = true := decide_eq_true c16
                            try (have c16b1n := c16b1; simp only [ByteArray.size_append, ba_size_lit, List.length_cons, List.length_nil, Nat.zero_add, Nat.reduceAdd, Int.natCast_add, Int.natCast_one, Int.cast_ofNat_Int] at c16b1n)
                            try have c16b2 : (9223372036854775807 < ((x8_2 ++ (⟨#[42]⟩ : ByteArray)) ++ (⟨#[92]⟩ : ByteArray)).size + (a0.extract (x9_2 : Int).toNat ((wrap64 (x9_2 + 1)) : Int).toNat).size) = False := eq_false (Nat.not_lt.2 c16)
                            try (have c16b3 := c16b2; simp only [ByteArray.size_append, ba_size_lit, List.length_cons, List.length_nil, Nat.zero_add, Nat.reduceAdd] at c16b3)
                            have H' := Aside0.mk H
                            clear H
                            go_wp2
                            repeat (go_quiet (fail); try go_wp2)
                            go_roundg k2
                            case measure => have := HJ4.out; have := HK2.out; omega
                            case rel => exact ⟨(((x8_2 ++ (⟨#[42]⟩ : ByteArray)) ++ (⟨#[92]⟩ : ByteArray)) ++ (a0.extract (x9_2 : Int).toNat ((wrap64 (x9_2 + 1)) : Int).toNat)), (wrap64 (x9_2 + 1)), (by first | rfl | (simp; done) | (simp [*]; done)), (by first | rfl | (simp; done) | (simp [*]; done)), H', ⟨by have := HJ4.out; have := HK2.out; omega⟩, by repeat (first | exact Drawn0.refl _ | apply Drawn0.step)⟩
                          · rw [if_neg c16] at H
                            exact absurd H (by simp)
                        · rw [if_neg c15] at H
                          exact absurd H (by simp)
                      · rw [if_neg c14] at H
                        exact absurd H (by simp)
                    · rw [if_neg c13] at H
                      exact absurd H (by simp)
                  · rw [if_neg c12] at H
                    exact absurd H (by simp)
                · rw [if_neg c11] at H
                  exact absurd H (by simp)
              · replace c10 := Bool.eq_false_iff.mpr c10
                subst c10
                have H1 : (if x8_2.size + 1 ≤ 9223372036854775807 then (if 0 ≤ x9_2 then (if x9_2 ≤ (wrap64 (x9_2 + 1)) then (if (wrap64 (x9_2 + 1)) ≤ (a0.size : Int) then (if (x8_2 ++ (⟨#[92]⟩ : ByteArray)).size + (a0.extract (x9_2 : Int).toNat ((wrap64 (x9_2 + 1)) : Int).toNat).size ≤ 9223372036854775807 then (patchworklaw5_GlobSelf.l0 k2 a0 a1 false ((x8_2 ++ (⟨#[92]⟩ : ByteArray)) ++ (a0.extract (x9_2 : Int).toNat ((wrap64 (x9_2 + 1)) : Int).toNat)) (wrap64 (x9_2 + 1))) else (none)) else (none)) else (none)) else (none)) else (none)) = some r := by rw [if_neg (show ¬ (false = true) by decide)] at H; exact H
                clear H
                have H := H1
                clear H1
                by_cases c17 : x8_2.size + 1 ≤ 9223372036854775807
                · rw [if_pos c17] at H
                  have c17b0 := eq_true c17
                  have c17b1 : decide (x8_2.size + 1 ≤ 9223372036854775807) = true := decide_eq_true c17
                  try have c17b2 : (9223372036854775807 < x8_2.size + 1) = False := eq_false (Nat.not_lt.2 c17)
                  by_cases c18 : 0 ≤ x9_2
                  · rw [if_pos c18] at H
                    have c18b0 := eq_true c18
                    have c18b1 : decide (0 ≤ x9_2) = true := decide_eq_true c18
                    clear c18
                    by_cases c19 : x9_2 ≤ (wrap64 (x9_2 + 1))
                    · rw [if_pos c19] at H
                      have c19b0 := eq_true c19
                      have c19b1 : decide (x9_2 ≤ (wrap64 (x9_2 + 1))) = true := decide_eq_true c19
                      by_cases c20 : (wrap64 (x9_2 + 1)) ≤ (a0.size : Int)
                      · rw [if_pos c20] at H
                        have c20b0 := eq_true c20
                        have c20b1 : decide ((wrap64 (x9_2 + 1)) ≤ (a0.size : Int)) = true := decide_eq_true c20
                        by_cases c21 : (x8_2 ++ (⟨#[92]⟩ : ByteArray)).size + (a0.extract (x9_2 : Int).toNat ((wrap64 (x9_2 + 1)) : Int).toNat).size ≤ 9223372036854775807
                        · rw [if_pos c21] at H
                          have c21b0 := eq_true c21
                          have c21b1 : decide ((x8_2 ++ (⟨#[92]⟩ : ByteArray)).size + (a0.extract (x9_2 : Int).toNat ((wrap64 (x9_2 + 1)) : Int).toNat).size ≤ 9223372036854775807) = true := decide_eq_true c21
                          try (have c21b1n := c21b1; simp only [ByteArray.size_append, ba_size_lit, List.length_cons, List.length_nil, Nat.zero_add, Nat.reduceAdd, Int.natCast_add, Int.natCast_one, Int.cast_ofNat_Int] at c21b1n)
                          try have c21b2 : (9223372036854775807 < (x8_2 ++ (⟨#[92]⟩ : ByteArray)).size + (a0.extract (x9_2 : Int).toNat ((wrap64 (x9_2 + 1)) : Int).toNat).size) = False := eq_false (Nat.not_lt.2 c21)
                          try (have c21b3 := c21b2; simp only [ByteArray.size_append, ba_size_lit, List.length_cons, List.length_nil, Nat.zero_add, Nat.reduceAdd] at c21b3)
                          have H' := Aside0.mk H
                          clear H
                          go_wp2
                          repeat (go_quiet (fail); try go_wp2)
                          go_roundg k2
                          case measure => have := HJ4.out; have := HK2.out; omega
                          case rel => exact ⟨((x8_2 ++ (⟨#[92]⟩ : ByteArray)) ++ (a0.extract (x9_2 : Int).toNat ((wrap64 (x9_2 + 1)) : Int).toNat)), (wrap64 (x9_2 + 1)), (by first | rfl | (simp; done) | (simp [*]; done)), (by first | rfl | (simp; done) | (simp [*]; done)), H', ⟨by have := HJ4.out; have := HK2.out; omega⟩, by repeat (first | exact Drawn0.refl _ | apply Drawn0.step)⟩
                        · rw [if_neg c21] at H
                          exact absurd H (by simp)
                      · rw [if_neg c20] at H
                        exact absurd H (by simp)
                    · rw [if_neg c19] at H
                      exact absurd H (by simp)
                  · rw [if_neg c18] at H
                    exact absurd H (by simp)
                · rw [if_neg c17] at H
                  exact absurd H (by simp)
            · rw [if_neg c9] at H
              have c9b0 : decide (x9_2 < (a0.size : Int)) = false := decide_eq_false c9
              clear c9
              by_cases c22 : a2 = true
              · subst c22
                have H1 : (if x8_2.size + 1 ≤ 9223372036854775807 then ((glob_Match.f k2 (x8_2 ++ (⟨#[42]⟩ : ByteArray)) a0).bind fun t195 => (if t195 = true then (patchworklaw5_GlobSelf.l1 k2 a0 a1 (x8_2 ++ (⟨#[42]⟩ : ByteArray)) 0) else (some false))) else (none)) = some r := by rw [if_pos rfl] at H; exact H
                clear H
                have H := H1
                clear H1
                by_cases c23 : x8_2.size + 1 ≤ 9223372036854775807
                · rw [if_pos c23] at H
                  have c23b0 := eq_true c23
                  have c23b1 : decide (x8_2.size + 1 ≤ 9223372036854775807) = true := decide_eq_true c23
                  try have c23b2 : (9223372036854775807 < x8_2.size + 1) = False := eq_false (Nat.not_lt.2 c23)
                  replace H := Option.bind_eq_some_iff.mp H
                  obtain ⟨t195, A240, H⟩ := H
                  replace H : (if t195 = true then (patchworklaw5_GlobSelf.l1 k2 a0 a1 (x8_2 ++ (⟨#[42]⟩ : ByteArray)) 0) else (some false)) = some r := H
                  have A24 := Aside0.mk A240
                  clear A240
                  by_cases c25 : t195 = true
                  · subst c25
                    have H1 : (patchworklaw5_GlobSelf.l1 k2 a0 a1 (x8_2 ++ (⟨#[42]⟩ : ByteArray)) 0) = some r := by rw [if_pos rfl] at H; exact H
                    clear H
                    have H := H1
                    clear H1
                    have H' := Aside0.mk H
                    clear H
                    go_wp2_with (first | (go_at_call 24; (with_reducible refine (glob_Match.calls k2 (x8_2 ++ (⟨#[42]⟩ : ByteArray)) a0 true _ ?side1 A24.out).mono ?_); (case side1 => first | exact hX | exact XW.drawn hX (by repeat (first | exact Drawn0.refl _ | apply Drawn0.step))); rintro e w' ⟨rfl, ⟨nd, rfl⟩⟩; (try first | exact ⟨rfl, _, World.drewN_drewN _ _ _⟩ | exact ⟨rfl, _, Eq.trans (World.drewN_drewN _ _ _) (congrArg (World.drewN _) (Nat.add_assoc _ _ _))⟩)))
                    repeat (go_quiet (first | (go_at_call 24; (with_reducible refine (glob_Match.calls k2 (x8_2 ++ (⟨#[42]⟩ : ByteArray)) a0 true _ ?side1 A24.out).mono ?_); (case side1 => first | exact hX | exact XW.drawn hX (by repeat (first | exact Drawn0.refl _ | apply Drawn0.step))); rintro e w' ⟨rfl, ⟨nd, rfl⟩⟩; (try first | exact ⟨rfl, _, World.drewN_drewN _ _ _⟩ | exact ⟨rfl, _, Eq.trans (World.drewN_drewN _ _ _) (congrArg (World.drewN _) (Nat.add_assoc _ _ _))⟩))); try go_wp2_with (first | (go_at_call 24; (with_reducible refine (glob_Match.calls k2 (x8_2 ++ (⟨#[42]⟩ : ByteArray)) a0 true _ ?side1 A24.out).mono ?_); (case side1 => first | exact hX | exact XW.drawn hX (by repeat (first | exact Drawn0.refl _ | apply Drawn0.step))); rintro e w' ⟨rfl, ⟨nd, rfl⟩⟩; (try first | exact ⟨rfl, _, World.drewN_drewN _ _ _⟩ | exact ⟨rfl, _, Eq.trans (World.drewN_drewN _ _ _) (congrArg (World.drewN _) (Nat.add_assoc _ _ _))⟩))))
                    go_loopg [10] k2 (fun kq v10 w' => ∃ (x10_3 : Int), v10 = .int .i64 x10_3 ∧ Aside0 (patchworklaw5_GlobSelf.l1 kq a0 a1 (x8_2 ++ (⟨#[42]⟩ : ByteArray)) x10_3 = some r) ∧ Aside0 (kq ≤ k2) ∧ Drawn0 w w')
                    case atStart => exact ⟨(0), (by first | rfl | (simp; done) | (simp [*]; done)), H', ⟨Nat.le_refl _⟩, by repeat (first | exact Drawn0.refl _ | apply Drawn0.step)⟩
                    case round =>
                      clear H'
                      try clear c1
                      try clear c2
                      try clear p2
                      try clear c4
                      try clear c6
                      try clear p6
                      try clear c7
                      try clear c7b0
                      try clear c7b1
                      try clear c8
                      try clear c9
                      try clear c9b0
                      try clear c10
                      try clear c11
                      try clear c11b0
                      try clear c11b1
                      try clear c11b2
                      try clear c12
                      try clear c12b0
                      try clear c12b1
                      try clear c12b2
                      try clear c13
                      try clear c13b0
                      try clear c13b1
                      try clear c14
                      try clear c14b0
                      try clear c14b1
                      try clear c15
                      try clear c15b0
                      try clear c15b1
                      try clear c16
                      try clear c16b0
                      try clear c16b1
                      try clear c16b2
                      try clear c17
                      try clear c17b0
                      try clear c17b1
                      try clear c17b2
                      try clear c18
                      try clear c18b0
                      try clear c18b1
                      try clear c19
                      try clear c19b0
                      try clear c19b1
                      try clear c20
                      try clear c20b0
                      try clear c20b1
                      try clear c21
                      try clear c21b0
                      try clear c21b1
                      try clear c21b2
                      try clear c22
                      try clear c23
                      try clear c23b0
                      try clear c23b1
                      try clear c23b2
                      try clear c25
                      try clear p2
                      obtain ⟨x10_3, rfl, HA, HK3, ⟨m3, rfl⟩⟩ := hrel
                      cases gk with
                      | zero => exact absurd HA.out (by simp [patchworklaw5_GlobSelf.l1])
                      | succ k3 =>
                        have H := HA.out
                        clear HA
                        simp only [patchworklaw5_GlobSelf.l1] at H
                        by_cases c26 : x10_3 < (a0.size : Int)
                        · rw [if_pos c26] at H
                          have c26b0 : decide (x10_3 < (a0.size : Int)) = true := decide_eq_true c26
                          clear c26
                          by_cases c27 : 0 ≤ x10_3
                          · rw [if_pos c27] at H
                            have c27b0 : decide (0 ≤ x10_3) = true := decide_eq_true c27
                            clear c27
                            by_cases c29 : (bt a0 x10_3) = 47
                            · rw [if_pos c29] at H
                              have c29b0 : ((bt a0 x10_3) == 47) = true := beq_iff_eq.mpr c29
                              have c29b1 : ((bt a0 x10_3) != 47) = false := bne_eq_false_iff_eq.mpr c29
                              clear c29
                              obtain rfl := Option.some.inj H
                              have p28 : 0 ≤ (x10_3 : Int) := of_decide_eq_true (by first | (with_reducible assumption) | assumption)
                              have q28 : x10_3 < (a0.size : Int) := of_decide_eq_true (by first | (with_reducible assumption) | assumption)
                              have hx28 := bt_at a0 x10_3
                              replace p28 := eq_true p28
                              replace q28 := eq_true q28
                              go_wp2
                              repeat (go_quiet (fail); try go_wp2)
                              go_ret
                              exact ⟨by first | rfl | (simp; done) | (simp [*]; done), by repeat (first | exact Drawn0.refl _ | apply Drawn0.step)⟩
                            · rw [if_neg c29] at H
                              have c29b0 : ((bt a0 x10_3) == 47) = false := beq_eq_false_iff_ne.mpr c29
                              have c29b1 : ((bt a0 x10_3) != 47) = true := bne_iff_ne.mpr c29
                              have H' := Aside0.mk H
                              clear H
                              have p28 : 0 ≤ (x10_3 : Int) := of_decide_eq_true (by first | (with_reducible assumption) | assumption)
                              have q28 : x10_3 < (a0.size : Int) := of_decide_eq_true (by first | (with_reducible assumption) | assumption)
                              have hx28 := bt_at a0 x10_3
                              replace p28 := eq_true p28
                              replace q28 := eq_true q28
                              go_wp2
                              repeat (go_quiet (fail); try go_wp2)
                              go_roundg k3
                              case measure => have := HJ4.out; have := HK2.out; have := HK3.out; omega
                              case rel => exact ⟨(wrap64 (x10_3 + 1)), (by first | rfl | (simp; done) | (simp [*]; done)), H', ⟨by have := HJ4.out; have := HK2.out; have := HK3.out; omega⟩, by repeat (first | exact Drawn0.refl _ | apply Drawn0.step)⟩
                          · rw [if_neg c27] at H
                            exact absurd H (by simp)
                        · rw [if_neg c26] at H
                          have c26b0 : decide (x10_3 < (a0.size : Int)) = false := decide_eq_false c26
                          clear c26
                          have H' := Aside0.mk H
                          clear H
                          go_wp2
                          repeat (go_quiet (fail); try go_wp2)
                          go_loopg [11, 12, 13] k3 (fun kq v11 v12 v13 w' => ∃ (x11_4 : Int) (x12_4 : Bool) (x13_4 : Int), v11 = .int .i64 x11_4 ∧ v12 = .bool x12_4 ∧ v13 = .int .i64 x13_4 ∧ Aside0 (patchworklaw5_GlobSelf.l2 kq a0 a1 (x8_2 ++ (⟨#[42]⟩ : ByteArray)) x11_4 x12_4 x13_4 = some r) ∧ Aside0 (kq ≤ k3) ∧ Drawn0 w w')
                          case atStart => exact ⟨(0), (true), (0), (by first | rfl | (simp; done) | (simp [*]; done)), (by first | rfl | (simp; done) | (simp [*]; done)), (by first | rfl | (simp; done) | (simp [*]; done)), H', ⟨Nat.le_refl _⟩, by repeat (first | exact Drawn0.refl _ | apply Drawn0.step)⟩
                          case round =>
                            clear H'
                            try clear c1
                            try clear c2
                            try clear p2
                            try clear q2
                            try clear hx2
                            try clear c4
                            try clear c6
                            try clear p6
                            try clear c7
                            try clear c7b0
                            try clear c7b1
                            try clear c8
                            try clear c9
                            try clear c9b0
                            try clear c10
                            try clear c11
                            try clear c11b0
                            try clear c11b1
                            try clear c11b2
                            try clear c12
                            try clear c12b0
                            try clear c12b1
                            try clear c12b2
                            try clear c13
                            try clear c13b0
                            try clear c13b1
                            try clear c14
                            try clear c14b0
                            try clear c14b1
                            try clear c15
                            try clear c15b0
                            try clear c15b1
                            try clear c16
                            try clear c16b0
                            try clear c16b1
                            try clear c16b2
                            try clear c17
                            try clear c17b0
                            try clear c17b1
                            try clear c17b2
                            try clear c18
                            try clear c18b0
                            try clear c18b1
                            try clear c19
                            try clear c19b0
                            try clear c19b1
                            try clear c20
                            try clear c20b0
                            try clear c20b1
                            try clear c21
                            try clear c21b0
                            try clear c21b1
                            try clear c21b2
                            try clear c22
                            try clear c23
                            try clear c23b0
                            try clear c23b1
                            try clear c23b2
                            try clear c25
                            try clear c26
                            try clear c26b0
                            try clear c27
                            try clear c27b0
                            try clear p28
                            try clear q28
                            try clear hx28
                            try clear c29
                            try clear c29b0
                            try clear c29b1
                            try clear p2
                            try clear p28
                            try clear p6
                            try clear q28
                            obtain ⟨x11_4, x12_4, x13_4, rfl, rfl, rfl, HA, HK4, ⟨m4, rfl⟩⟩ := hrel
                            cases gk with
                            | zero => exact absurd HA.out (by simp [patchworklaw5_GlobSelf.l2])
                            | succ k4 =>
                              have H := HA.out
                              clear HA
                              simp only [patchworklaw5_GlobSelf.l2] at H
                              by_cases c30 : x13_4 < (a1.size : Int)
                              · rw [if_pos c30] at H
                                have c30b0 : decide (x13_4 < (a1.size : Int)) = true := decide_eq_true c30
                                clear c30
                                by_cases c31 : x12_4 = true
                                · subst c31
                                  have H1 : (if 0 ≤ x13_4 then (if x11_4 < (a0.size : Int) then (if 0 ≤ x11_4 then (if (bt a1 x13_4) = (bt a0 x11_4) then (patchworklaw5_GlobSelf.l2 k4 a0 a1 (x8_2 ++ (⟨#[42]⟩ : ByteArray)) (wrap64 (x11_4 + 1)) ((bt a1 x13_4) != 47) (wrap64 (x13_4 + 1))) else (patchworklaw5_GlobSelf.l2 k4 a0 a1 (x8_2 ++ (⟨#[42]⟩ : ByteArray)) x11_4 ((bt a1 x13_4) != 47) (wrap64 (x13_4 + 1)))) else (none)) else (patchworklaw5_GlobSelf.l2 k4 a0 a1 (x8_2 ++ (⟨#[42]⟩ : ByteArray)) x11_4 ((bt a1 x13_4) != 47) (wrap64 (x13_4 + 1)))) else (none)) = some r := by rw [if_pos rfl] at H; exact H
                                  clear H
                                  have H := H1
                                  clear H1
                                  by_cases c32 : 0 ≤ x13_4
                                  · rw [if_pos c32] at H
                                    have c32b0 : decide (0 ≤ x13_4) = true := decide_eq_true c32
                                    clear c32
                                    by_cases c34 : x11_4 < (a0.size : Int)
                                    · rw [if_pos c34] at H
                                      have c34b0 : decide (x11_4 < (a0.size : Int)) = true := decide_eq_true c34
                                      clear c34
                                      by_cases c36 : 0 ≤ x11_4
                                      · rw [if_pos c36] at H
                                        have c36b0 : decide (0 ≤ x11_4) = true := decide_eq_true c36
                                        clear c36
                                        by_cases c38 : (bt a1 x13_4) = (bt a0 x11_4)
                                        · rw [if_pos c38] at H
                                          have c38b0 : ((bt a1 x13_4) == (bt a0 x11_4)) = true := beq_iff_eq.mpr c38
                                          have c38b1 : ((bt a1 x13_4) != (bt a0 x11_4)) = false := bne_eq_false_iff_eq.mpr c38
                                          clear c38
                                          have H' := Aside0.mk H
                                          clear H
                                          have p33 : 0 ≤ (x13_4 : Int) := of_decide_eq_true (by first | (with_reducible assumption) | assumption)
                                          have q33 : x13_4 < (a1.size : Int) := of_decide_eq_true (by first | (with_reducible assumption) | assumption)
                                          have hx33 := bt_at a1 x13_4
                                          replace p33 := eq_true p33
                                          replace q33 := eq_true q33
                                          have p35 : 0 ≤ (x13_4 : Int) := of_decide_eq_true (by first | (with_reducible assumption) | assumption)
                                          have q35 : x13_4 < (a1.size : Int) := of_decide_eq_true (by first | (with_reducible assumption) | assumption)
                                          have hx35 := bt_at a1 x13_4
                                          replace p35 := eq_true p35
                                          replace q35 := eq_true q35
                                          have p37 : 0 ≤ (x11_4 : Int) := of_decide_eq_true (by first | (with_reducible assumption) | assumption)
                                          have q37 : x11_4 < (a0.size : Int) := of_decide_eq_true (by first | (with_reducible assumption) | assumption)
                                          have hx37 := bt_at a0 x11_4
                                          replace p37 := eq_true p37
                                          replace q37 := eq_true q37
                                          go_wp2
                                          repeat (go_quiet (fail); try go_wp2)
                                          go_roundg k4
                                          case measure => have := HJ4.out; have := HK2.out; have := HK3.out; have := HK4.out; omega
                                          case rel => exact ⟨(wrap64 (x11_4 + 1)), (((bt a1 x13_4) != 47)), (wrap64 (x13_4 + 1)), (by first | rfl | (simp; done) | (simp [*]; done)), (by first | rfl | (simp; done) | (simp [*]; done)), (by first | rfl | (simp; done) | (simp [*]; done)), H', ⟨by have := HJ4.out; have := HK2.out; have := HK3.out; have := HK4.out; omega⟩, by repeat (first | exact Drawn0.refl _ | apply Drawn0.step)⟩
                                        · rw [if_neg c38] at H
                                          have c38b0 : ((bt a1 x13_4) == (bt a0 x11_4)) = false := beq_eq_false_iff_ne.mpr c38
                                          have c38b1 : ((bt a1 x13_4) != (bt a0 x11_4)) = true := bne_iff_ne.mpr c38
                                          have H' := Aside0.mk H
                                          clear H
                                          have p33 : 0 ≤ (x13_4 : Int) := of_decide_eq_true (by first | (with_reducible assumption) | assumption)
                                          have q33 : x13_4 < (a1.size : Int) := of_decide_eq_true (by first | (with_reducible assumption) | assumption)
                                          have hx33 := bt_at a1 x13_4
                                          replace p33 := eq_true p33
                                          replace q33 := eq_true q33
                                          have p35 : 0 ≤ (x13_4 : Int) := of_decide_eq_true (by first | (with_reducible assumption) | assumption)
                                          have q35 : x13_4 < (a1.size : Int) := of_decide_eq_true (by first | (with_reducible assumption) | assumption)
                                          have hx35 := bt_at a1 x13_4
                                          replace p35 := eq_true p35
                                          replace q35 := eq_true q35
                                          have p37 : 0 ≤ (x11_4 : Int) := of_decide_eq_true (by first | (with_reducible assumption) | assumption)
                                          have q37 : x11_4 < (a0.size : Int) := of_decide_eq_true (by first | (with_reducible assumption) | assumption)
                                          have hx37 := bt_at a0 x11_4
                                          replace p37 := eq_true p37
                                          replace q37 := eq_true q37
                                          go_wp2
                                          repeat (go_quiet (fail); try go_wp2)
                                          go_roundg k4
                                          case measure => have := HJ4.out; have := HK2.out; have := HK3.out; have := HK4.out; omega
                                          case rel => exact ⟨(x11_4), (((bt a1 x13_4) != 47)), (wrap64 (x13_4 + 1)), (by first | rfl | (simp; done) | (simp [*]; done)), (by first | rfl | (simp; done) | (simp [*]; done)), (by first | rfl | (simp; done) | (simp [*]; done)), H', ⟨by have := HJ4.out; have := HK2.out; have := HK3.out; have := HK4.out; omega⟩, by repeat (first | exact Drawn0.refl _ | apply Drawn0.step)⟩
                                      · rw [if_neg c36] at H
                                        exact absurd H (by simp)
                                    · rw [if_neg c34] at H
                                      have c34b0 : decide (x11_4 < (a0.size : Int)) = false := decide_eq_false c34
                                      clear c34
                                      have H' := Aside0.mk H
                                      clear H
                                      have p33 : 0 ≤ (x13_4 : Int) := of_decide_eq_true (by first | (with_reducible assumption) | assumption)
                                      have q33 : x13_4 < (a1.size : Int) := of_decide_eq_true (by first | (with_reducible assumption) | assumption)
                                      have hx33 := bt_at a1 x13_4
                                      replace p33 := eq_true p33
                                      replace q33 := eq_true q33
                                      go_wp2
                                      repeat (go_quiet (fail); try go_wp2)
                                      go_roundg k4
                                      case measure => have := HJ4.out; have := HK2.out; have := HK3.out; have := HK4.out; omega
                                      case rel => exact ⟨(x11_4), (((bt a1 x13_4) != 47)), (wrap64 (x13_4 + 1)), (by first | rfl | (simp; done) | (simp [*]; done)), (by first | rfl | (simp; done) | (simp [*]; done)), (by first | rfl | (simp; done) | (simp [*]; done)), H', ⟨by have := HJ4.out; have := HK2.out; have := HK3.out; have := HK4.out; omega⟩, by repeat (first | exact Drawn0.refl _ | apply Drawn0.step)⟩
                                  · rw [if_neg c32] at H
                                    exact absurd H (by simp)
                                · replace c31 := Bool.eq_false_iff.mpr c31
                                  subst c31
                                  have H1 : (if x11_4 < (a0.size : Int) then (if 0 ≤ x13_4 then (if 0 ≤ x11_4 then (if (bt a1 x13_4) = (bt a0 x11_4) then (patchworklaw5_GlobSelf.l2 k4 a0 a1 (x8_2 ++ (⟨#[42]⟩ : ByteArray)) (wrap64 (x11_4 + 1)) false (wrap64 (x13_4 + 1))) else (patchworklaw5_GlobSelf.l2 k4 a0 a1 (x8_2 ++ (⟨#[42]⟩ : ByteArray)) x11_4 false (wrap64 (x13_4 + 1)))) else (none)) else (none)) else (patchworklaw5_GlobSelf.l2 k4 a0 a1 (x8_2 ++ (⟨#[42]⟩ : ByteArray)) x11_4 false (wrap64 (x13_4 + 1)))) = some r := by rw [if_neg (show ¬ (false = true) by decide)] at H; exact H
                                  clear H
                                  have H := H1
                                  clear H1
                                  by_cases c39 : x11_4 < (a0.size : Int)
                                  · rw [if_pos c39] at H
                                    have c39b0 : decide (x11_4 < (a0.size : Int)) = true := decide_eq_true c39
                                    clear c39
                                    by_cases c40 : 0 ≤ x13_4
                                    · rw [if_pos c40] at H
                                      have c40b0 : decide (0 ≤ x13_4) = true := decide_eq_true c40
                                      clear c40
                                      by_cases c42 : 0 ≤ x11_4
                                      · rw [if_pos c42] at H
                                        have c42b0 : decide (0 ≤ x11_4) = true := decide_eq_true c42
                                        clear c42
                                        by_cases c44 : (bt a1 x13_4) = (bt a0 x11_4)
                                        · rw [if_pos c44] at H
                                          have c44b0 : ((bt a1 x13_4) == (bt a0 x11_4)) = true := beq_iff_eq.mpr c44
                                          have c44b1 : ((bt a1 x13_4) != (bt a0 x11_4)) = false := bne_eq_false_iff_eq.mpr c44
                                          clear c44
                                          have H' := Aside0.mk H
                                          clear H
                                          have p41 : 0 ≤ (x13_4 : Int) := of_decide_eq_true (by first | (with_reducible assumption) | assumption)
                                          have q41 : x13_4 < (a1.size : Int) := of_decide_eq_true (by first | (with_reducible assumption) | assumption)
                                          have hx41 := bt_at a1 x13_4
                                          replace p41 := eq_true p41
                                          replace q41 := eq_true q41
                                          have p43 : 0 ≤ (x11_4 : Int) := of_decide_eq_true (by first | (with_reducible assumption) | assumption)
                                          have q43 : x11_4 < (a0.size : Int) := of_decide_eq_true (by first | (with_reducible assumption) | assumption)
                                          have hx43 := bt_at a0 x11_4
                                          replace p43 := eq_true p43
                                          replace q43 := eq_true q43
                                          go_wp2
                                          repeat (go_quiet (fail); try go_wp2)
                                          go_roundg k4
                                          case measure => have := HJ4.out; have := HK2.out; have := HK3.out; have := HK4.out; omega
                                          case rel => exact ⟨(wrap64 (x11_4 + 1)), (false), (wrap64 (x13_4 + 1)), (by first | rfl | (simp; done) | (simp [*]; done)), (by first | rfl | (simp; done) | (simp [*]; done)), (by first | rfl | (simp; done) | (simp [*]; done)), H', ⟨by have := HJ4.out; have := HK2.out; have := HK3.out; have := HK4.out; omega⟩, by repeat (first | exact Drawn0.refl _ | apply Drawn0.step)⟩
                                        · rw [if_neg c44] at H
                                          have c44b0 : ((bt a1 x13_4) == (bt a0 x11_4)) = false := beq_eq_false_iff_ne.mpr c44
                                          have c44b1 : ((bt a1 x13_4) != (bt a0 x11_4)) = true := bne_iff_ne.mpr c44
                                          have H' := Aside0.mk H
                                          clear H
                                          have p41 : 0 ≤ (x13_4 : Int) := of_decide_eq_true (by first | (with_reducible assumption) | assumption)
                                          have q41 : x13_4 < (a1.size : Int) := of_decide_eq_true (by first | (with_reducible assumption) | assumption)
                                          have hx41 := bt_at a1 x13_4
                                          replace p41 := eq_true p41
                                          replace q41 := eq_true q41
                                          have p43 : 0 ≤ (x11_4 : Int) := of_decide_eq_true (by first | (with_reducible assumption) | assumption)
                                          have q43 : x11_4 < (a0.size : Int) := of_decide_eq_true (by first | (with_reducible assumption) | assumption)
                                          have hx43 := bt_at a0 x11_4
                                          replace p43 := eq_true p43
                                          replace q43 := eq_true q43
                                          go_wp2
                                          repeat (go_quiet (fail); try go_wp2)
                                          go_roundg k4
                                          case measure => have := HJ4.out; have := HK2.out; have := HK3.out; have := HK4.out; omega
                                          case rel => exact ⟨(x11_4), (false), (wrap64 (x13_4 + 1)), (by first | rfl | (simp; done) | (simp [*]; done)), (by first | rfl | (simp; done) | (simp [*]; done)), (by first | rfl | (simp; done) | (simp [*]; done)), H', ⟨by have := HJ4.out; have := HK2.out; have := HK3.out; have := HK4.out; omega⟩, by repeat (first | exact Drawn0.refl _ | apply Drawn0.step)⟩
                                      · rw [if_neg c42] at H
                                        exact absurd H (by simp)
                                    · rw [if_neg c40] at H
                                      exact absurd H (by simp)
                                  · rw [if_neg c39] at H
                                    have c39b0 : decide (x11_4 < (a0.size : Int)) = false := decide_eq_false c39
                                    clear c39
                                    have H' := Aside0.mk H
                                    clear H
                                    go_wp2
                                    repeat (go_quiet (fail); try go_wp2)
                                    go_roundg k4
                                    case measure => have := HJ4.out; have := HK2.out; have := HK3.out; have := HK4.out; omega
                                    case rel => exact ⟨(x11_4), (false), (wrap64 (x13_4 + 1)), (by first | rfl | (simp; done) | (simp [*]; done)), (by first | rfl | (simp; done) | (simp [*]; done)), (by first | rfl | (simp; done) | (simp [*]; done)), H', ⟨by have := HJ4.out; have := HK2.out; have := HK3.out; have := HK4.out; omega⟩, by repeat (first | exact Drawn0.refl _ | apply Drawn0.step)⟩
                              · rw [if_neg c30] at H
                                have c30b0 : decide (x13_4 < (a1.size : Int)) = false := decide_eq_false c30
                                clear c30
                                replace H := Option.bind_eq_some_iff.mp H
                                obtain ⟨t196, A450, H⟩ := H
                                replace H : (if x12_4 = true then (some (t196 == (x11_4 == (a0.size : Int)))) else (some (t196 == false))) = some r := H
                                have A45 := Aside0.mk A450
                                clear A450
                                by_cases c46 : x12_4 = true
                                · subst c46
                                  have H1 : (some (t196 == (x11_4 == (a0.size : Int)))) = some r := by rw [if_pos rfl] at H; exact H
                                  clear H
                                  have H := H1
                                  clear H1
                                  obtain rfl := Option.some.inj H
                                  go_wp2_with (first | (go_at_call 24; (with_reducible refine (glob_Match.calls k4 (x8_2 ++ (⟨#[42]⟩ : ByteArray)) a1 t196 _ ?side1 A45.out).mono ?_); (case side1 => first | exact hX | exact XW.drawn hX (by repeat (first | exact Drawn0.refl _ | apply Drawn0.step))); rintro e w' ⟨rfl, ⟨nd, rfl⟩⟩; (try first | exact ⟨rfl, _, World.drewN_drewN _ _ _⟩ | exact ⟨rfl, _, Eq.trans (World.drewN_drewN _ _ _) (congrArg (World.drewN _) (Nat.add_assoc _ _ _))⟩)))
                                  repeat (go_quiet (first | (go_at_call 24; (with_reducible refine (glob_Match.calls k4 (x8_2 ++ (⟨#[42]⟩ : ByteArray)) a1 t196 _ ?side1 A45.out).mono ?_); (case side1 => first | exact hX | exact XW.drawn hX (by repeat (first | exact Drawn0.refl _ | apply Drawn0.step))); rintro e w' ⟨rfl, ⟨nd, rfl⟩⟩; (try first | exact ⟨rfl, _, World.drewN_drewN _ _ _⟩ | exact ⟨rfl, _, Eq.trans (World.drewN_drewN _ _ _) (congrArg (World.drewN _) (Nat.add_assoc _ _ _))⟩))); try go_wp2_with (first | (go_at_call 24; (with_reducible refine (glob_Match.calls k4 (x8_2 ++ (⟨#[42]⟩ : ByteArray)) a1 t196 _ ?side1 A45.out).mono ?_); (case side1 => first | exact hX | exact XW.drawn hX (by repeat (first | exact Drawn0.refl _ | apply Drawn0.step))); rintro e w' ⟨rfl, ⟨nd, rfl⟩⟩; (try first | exact ⟨rfl, _, World.drewN_drewN _ _ _⟩ | exact ⟨rfl, _, Eq.trans (World.drewN_drewN _ _ _) (congrArg (World.drewN _) (Nat.add_assoc _ _ _))⟩))))
                                  go_ret
                                  exact ⟨by first | rfl | (simp; done) | (simp [*]; done), by repeat (first | exact Drawn0.refl _ | apply Drawn0.step)⟩
                                · replace c46 := Bool.eq_false_iff.mpr c46
                                  subst c46
                                  have H1 : (some (t196 == false)) = some r := by rw [if_neg (show ¬ (false = true) by decide)] at H; exact H
                                  clear H
                                  have H := H1
                                  clear H1
                                  obtain rfl := Option.some.inj H
                                  go_wp2_with (first | (go_at_call 24; (with_reducible refine (glob_Match.calls k4 (x8_2 ++ (⟨#[42]⟩ : ByteArray)) a1 t196 _ ?side1 A45.out).mono ?_); (case side1 => first | exact hX | exact XW.drawn hX (by repeat (first | exact Drawn0.refl _ | apply Drawn0.step))); rintro e w' ⟨rfl, ⟨nd, rfl⟩⟩; (try first | exact ⟨rfl, _, World.drewN_drewN _ _ _⟩ | exact ⟨rfl, _, Eq.trans (World.drewN_drewN _ _ _) (congrArg (World.drewN _) (Nat.add_assoc _ _ _))⟩)))
                                  repeat (go_quiet (first | (go_at_call 24; (with_reducible refine (glob_Match.calls k4 (x8_2 ++ (⟨#[42]⟩ : ByteArray)) a1 t196 _ ?side1 A45.out).mono ?_); (case side1 => first | exact hX | exact XW.drawn hX (by repeat (first | exact Drawn0.refl _ | apply Drawn0.step))); rintro e w' ⟨rfl, ⟨nd, rfl⟩⟩; (try first | exact ⟨rfl, _, World.drewN_drewN _ _ _⟩ | exact ⟨rfl, _, Eq.trans (World.drewN_drewN _ _ _) (congrArg (World.drewN _) (Nat.add_assoc _ _ _))⟩))); try go_wp2_with (first | (go_at_call 24; (with_reducible refine (glob_Match.calls k4 (x8_2 ++ (⟨#[42]⟩ : ByteArray)) a1 t196 _ ?side1 A45.out).mono ?_); (case side1 => first | exact hX | exact XW.drawn hX (by repeat (first | exact Drawn0.refl _ | apply Drawn0.step))); rintro e w' ⟨rfl, ⟨nd, rfl⟩⟩; (try first | exact ⟨rfl, _, World.drewN_drewN _ _ _⟩ | exact ⟨rfl, _, Eq.trans (World.drewN_drewN _ _ _) (congrArg (World.drewN _) (Nat.add_assoc _ _ _))⟩))))
                                  go_ret
                                  exact ⟨by first | rfl | (simp; done) | (simp [*]; done), by repeat (first | exact Drawn0.refl _ | apply Drawn0.step)⟩
                  · replace c25 := Bool.eq_false_iff.mpr c25
                    subst c25
                    have H1 : (some false) = some r := by rw [if_neg (show ¬ (false = true) by decide)] at H; exact H
                    clear H
                    have H := H1
                    clear H1
                    obtain rfl := Option.some.inj H
                    go_wp2_with (first | (go_at_call 24; (with_reducible refine (glob_Match.calls k2 (x8_2 ++ (⟨#[42]⟩ : ByteArray)) a0 false _ ?side1 A24.out).mono ?_); (case side1 => first | exact hX | exact XW.drawn hX (by repeat (first | exact Drawn0.refl _ | apply Drawn0.step))); rintro e w' ⟨rfl, ⟨nd, rfl⟩⟩; (try first | exact ⟨rfl, _, World.drewN_drewN _ _ _⟩ | exact ⟨rfl, _, Eq.trans (World.drewN_drewN _ _ _) (congrArg (World.drewN _) (Nat.add_assoc _ _ _))⟩)))
                    repeat (go_quiet (first | (go_at_call 24; (with_reducible refine (glob_Match.calls k2 (x8_2 ++ (⟨#[42]⟩ : ByteArray)) a0 false _ ?side1 A24.out).mono ?_); (case side1 => first | exact hX | exact XW.drawn hX (by repeat (first | exact Drawn0.refl _ | apply Drawn0.step))); rintro e w' ⟨rfl, ⟨nd, rfl⟩⟩; (try first | exact ⟨rfl, _, World.drewN_drewN _ _ _⟩ | exact ⟨rfl, _, Eq.trans (World.drewN_drewN _ _ _) (congrArg (World.drewN _) (Nat.add_assoc _ _ _))⟩))); try go_wp2_with (first | (go_at_call 24; (with_reducible refine (glob_Match.calls k2 (x8_2 ++ (⟨#[42]⟩ : ByteArray)) a0 false _ ?side1 A24.out).mono ?_); (case side1 => first | exact hX | exact XW.drawn hX (by repeat (first | exact Drawn0.refl _ | apply Drawn0.step))); rintro e w' ⟨rfl, ⟨nd, rfl⟩⟩; (try first | exact ⟨rfl, _, World.drewN_drewN _ _ _⟩ | exact ⟨rfl, _, Eq.trans (World.drewN_drewN _ _ _) (congrArg (World.drewN _) (Nat.add_assoc _ _ _))⟩))))
                    go_ret
                    exact ⟨by first | rfl | (simp; done) | (simp [*]; done), by repeat (first | exact Drawn0.refl _ | apply Drawn0.step)⟩
                · rw [if_neg c23] at H
                  exact absurd H (by simp)
              · replace c22 := Bool.eq_false_iff.mpr c22
                subst c22
                have H1 : ((glob_Match.f k2 x8_2 a0).bind fun t193 => (if t193 = true then ((glob_Match.f k2 x8_2 a1).bind fun t194 => (some (t194 == (a0.toList == a1.toList)))) else (some false))) = some r := by rw [if_neg (show ¬ (false = true) by decide)] at H; exact H
                clear H
                have H := H1
                clear H1
                replace H := Option.bind_eq_some_iff.mp H
                obtain ⟨t193, A470, H⟩ := H
                replace H : (if t193 = true then ((glob_Match.f k2 x8_2 a1).bind fun t194 => (some (t194 == (a0.toList == a1.toList)))) else (some false)) = some r := H
                have A47 := Aside0.mk A470
                clear A470
                by_cases c48 : t193 = true
                · subst c48
                  have H1 : ((glob_Match.f k2 x8_2 a1).bind fun t194 => (some (t194 == (a0.toList == a1.toList)))) = some r := by rw [if_pos rfl] at H; exact H
                  clear H
                  have H := H1
                  clear H1
                  replace H := Option.bind_eq_some_iff.mp H
                  obtain ⟨t194, A490, H⟩ := H
                  replace H : (some (t194 == (a0.toList == a1.toList))) = some r := H
                  have A49 := Aside0.mk A490
                  clear A490
                  obtain rfl := Option.some.inj H
                  go_wp2_with (first | (go_at_call 24; (with_reducible refine (glob_Match.calls k2 x8_2 a0 true _ ?side1 A47.out).mono ?_); (case side1 => first | exact hX | exact XW.drawn hX (by repeat (first | exact Drawn0.refl _ | apply Drawn0.step))); rintro e w' ⟨rfl, ⟨nd, rfl⟩⟩; (try first | exact ⟨rfl, _, World.drewN_drewN _ _ _⟩ | exact ⟨rfl, _, Eq.trans (World.drewN_drewN _ _ _) (congrArg (World.drewN _) (Nat.add_assoc _ _ _))⟩)) | (go_at_call 24; (with_reducible refine (glob_Match.calls k2 x8_2 a1 t194 _ ?side1 A49.out).mono ?_); (case side1 => first | exact hX | exact XW.drawn hX (by repeat (first | exact Drawn0.refl _ | apply Drawn0.step))); rintro e w' ⟨rfl, ⟨nd, rfl⟩⟩; (try first | exact ⟨rfl, _, World.drewN_drewN _ _ _⟩ | exact ⟨rfl, _, Eq.trans (World.drewN_drewN _ _ _) (congrArg (World.drewN _) (Nat.add_assoc _ _ _))⟩)))
                  repeat (go_quiet (first | (go_at_call 24; (with_reducible refine (glob_Match.calls k2 x8_2 a0 true _ ?side1 A47.out).mono ?_); (case side1 => first | exact hX | exact XW.drawn hX (by repeat (first | exact Drawn0.refl _ | apply Drawn0.step))); rintro e w' ⟨rfl, ⟨nd, rfl⟩⟩; (try first | exact ⟨rfl, _, World.drewN_drewN _ _ _⟩ | exact ⟨rfl, _, Eq.trans (World.drewN_drewN _ _ _) (congrArg (World.drewN _) (Nat.add_assoc _ _ _))⟩)) | (go_at_call 24; (with_reducible refine (glob_Match.calls k2 x8_2 a1 t194 _ ?side1 A49.out).mono ?_); (case side1 => first | exact hX | exact XW.drawn hX (by repeat (first | exact Drawn0.refl _ | apply Drawn0.step))); rintro e w' ⟨rfl, ⟨nd, rfl⟩⟩; (try first | exact ⟨rfl, _, World.drewN_drewN _ _ _⟩ | exact ⟨rfl, _, Eq.trans (World.drewN_drewN _ _ _) (congrArg (World.drewN _) (Nat.add_assoc _ _ _))⟩))); try go_wp2_with (first | (go_at_call 24; (with_reducible refine (glob_Match.calls k2 x8_2 a0 true _ ?side1 A47.out).mono ?_); (case side1 => first | exact hX | exact XW.drawn hX (by repeat (first | exact Drawn0.refl _ | apply Drawn0.step))); rintro e w' ⟨rfl, ⟨nd, rfl⟩⟩; (try first | exact ⟨rfl, _, World.drewN_drewN _ _ _⟩ | exact ⟨rfl, _, Eq.trans (World.drewN_drewN _ _ _) (congrArg (World.drewN _) (Nat.add_assoc _ _ _))⟩)) | (go_at_call 24; (with_reducible refine (glob_Match.calls k2 x8_2 a1 t194 _ ?side1 A49.out).mono ?_); (case side1 => first | exact hX | exact XW.drawn hX (by repeat (first | exact Drawn0.refl _ | apply Drawn0.step))); rintro e w' ⟨rfl, ⟨nd, rfl⟩⟩; (try first | exact ⟨rfl, _, World.drewN_drewN _ _ _⟩ | exact ⟨rfl, _, Eq.trans (World.drewN_drewN _ _ _) (congrArg (World.drewN _) (Nat.add_assoc _ _ _))⟩))))
                  go_ret
                  exact ⟨by first | rfl | (simp; done) | (simp [*]; done), by repeat (first | exact Drawn0.refl _ | apply Drawn0.step)⟩
                · replace c48 := Bool.eq_false_iff.mpr c48
                  subst c48
                  have H1 : (some false) = some r := by rw [if_neg (show ¬ (false = true) by decide)] at H; exact H
                  clear H
                  have H := H1
                  clear H1
                  obtain rfl := Option.some.inj H
                  go_wp2_with (first | (go_at_call 24; (with_reducible refine (glob_Match.calls k2 x8_2 a0 false _ ?side1 A47.out).mono ?_); (case side1 => first | exact hX | exact XW.drawn hX (by repeat (first | exact Drawn0.refl _ | apply Drawn0.step))); rintro e w' ⟨rfl, ⟨nd, rfl⟩⟩; (try first | exact ⟨rfl, _, World.drewN_drewN _ _ _⟩ | exact ⟨rfl, _, Eq.trans (World.drewN_drewN _ _ _) (congrArg (World.drewN _) (Nat.add_assoc _ _ _))⟩)))
                  repeat (go_quiet (first | (go_at_call 24; (with_reducible refine (glob_Match.calls k2 x8_2 a0 false _ ?side1 A47.out).mono ?_); (case side1 => first | exact hX | exact XW.drawn hX (by repeat (first | exact Drawn0.refl _ | apply Drawn0.step))); rintro e w' ⟨rfl, ⟨nd, rfl⟩⟩; (try first | exact ⟨rfl, _, World.drewN_drewN _ _ _⟩ | exact ⟨rfl, _, Eq.trans (World.drewN_drewN _ _ _) (congrArg (World.drewN _) (Nat.add_assoc _ _ _))⟩))); try go_wp2_with (first | (go_at_call 24; (with_reducible refine (glob_Match.calls k2 x8_2 a0 false _ ?side1 A47.out).mono ?_); (case side1 => first | exact hX | exact XW.drawn hX (by repeat (first | exact Drawn0.refl _ | apply Drawn0.step))); rintro e w' ⟨rfl, ⟨nd, rfl⟩⟩; (try first | exact ⟨rfl, _, World.drewN_drewN _ _ _⟩ | exact ⟨rfl, _, Eq.trans (World.drewN_drewN _ _ _) (congrArg (World.drewN _) (Nat.add_assoc _ _ _))⟩))))
                  go_ret
                  exact ⟨by first | rfl | (simp; done) | (simp [*]; done), by repeat (first | exact Drawn0.refl _ | apply Drawn0.step)⟩

/-- THE ONE PURE STATEMENT of patchworklaw5_GlobSelf: yours. -/
def patchworklaw5_GlobSelf.Pure : Prop := ∀ (a0 : ByteArray) (a1 : ByteArray) (a2 : Bool), a0.size ≤ 140737488351232 → a1.size ≤ 140737488351232 → ∃ k, patchworklaw5_GlobSelf.f k a0 a1 a2 = some true
theorem patchworklaw5_GlobSelf.walk (P : patchworklaw5_GlobSelf.Pure) (a0 : ByteArray) (a1 : ByteArray) (a2 : Bool) (w : World) (w0 : a0.size ≤ 140737488351232) (w1 : a1.size ≤ 140737488351232) (hX : XW w) :
    Calls Try.prog 8 #[.string a0, .string a1, .bool a2] w fun e w' => e = .returned (.bool true) ∧ Below w.heap.size w w' := by
  obtain ⟨k, h⟩ := P a0 a1 a2 w0 w1
  refine (patchworklaw5_GlobSelf.calls k a0 a1 a2 true w hX h).mono ?_
  rintro e w' ⟨rfl, hd⟩
  exact ⟨rfl, hd.below⟩

end Go.Proofs.Ytahfoeichmfloaa.Gl
