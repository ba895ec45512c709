/- Functions of the given program in plain Lean, each with the proof that its call answers so; no condition. Written by a program of this session's own (a turned copy of the kit's printing program). -/
import Derived.Test.YtahfoeichmfloaaGlx0
import Derived.Test.YtahfoeichmfloaaGlx5
import Derived.Test.YtahfoeichmfloaaGlx6
namespace Go.Proofs.Ytahfoeichmfloaa.Gl
open Go.RowKit Go.Proofs.YtahfoeichmfloaaW.PrintWords Go.Proofs.YtahfoeichmfloaaW.PrintLast Go.Proofs.YtahfoeichmfloaaW.PrintMore
attribute [local go_sem] max2_int min2_int max_two min_two max_three min_three max_four min_four   -- for this text's walks alone
set_option linter.unusedVariables false
set_option linter.unusedSimpArgs false

/-! ### patchworkref1_Glob: function 25 -/
mutual
def patchworkref1_Glob.l0 : Nat → ByteArray → ByteArray → List Bool → Int → Option (Bool)
  | 0, _, _, _, _ => none
  | k + 1, x0, x1, x5, x6 => if x6 < (x0.size : Int) then (if 0 ≤ (wrap64 ((x1.size : Int) + 1)) then (if (wrap64 ((x1.size : Int) + 1) : Int).toNat ≤ 281474976710656 then ((some (List.replicate (wrap64 ((x1.size : Int) + 1) : Int).toNat false : List Bool)).bind fun y166 => (if 0 ≤ x6 then (if (bt x0 x6) = 91 then ((patchworkref1_set.f k x0 (wrap64 (x6 + 1)) (⟨#[33, 94]⟩ : ByteArray) true).bind fun bt169 => (if bt169.2.2.2 = true then (patchworkref1_Glob.j1 k x0 x1 x5 x6 y166 bt169.2.2.1 bt169.1 bt169.2.1 bt169.2.2.2) else (patchworkref1_Glob.j1 k x0 x1 x5 x6 y166 (wrap64 (x6 + 1)) bt169.1 bt169.2.1 bt169.2.2.2))) else (patchworkref1_Glob.j1 k x0 x1 x5 x6 y166 (wrap64 (x6 + 1)) ([] : List (S63)) false false)) else (none))) else (none)) else (none)) else (if 0 ≤ (x1.size : Int) then (if (x1.size : Int) < (x5.length : Int) then (some (rdOf false x5 (x1.size : Int))) else (none)) else (none))
def patchworkref1_Glob.j1 : Nat → ByteArray → ByteArray → List Bool → Int → List Bool → Int → List (S63) → Bool → Bool → Option (Bool)
  | 0, _, _, _, _, _, _, _, _, _ => none
  | k + 1, x0, x1, x5, x6, x7, x8, x9, x10, x11 => if 0 ≤ x6 then (if x6 < (x0.size : Int) then (if (bt x0 x6) = 92 then (patchworkref1_Glob.j2 k x0 x1 x5 x6 x7 x8 x9 x10 x11 (bt x0 x6) (decide ((wrap64 (x6 + 1)) < (x0.size : Int)))) else (patchworkref1_Glob.j2 k x0 x1 x5 x6 x7 x8 x9 x10 x11 (bt x0 x6) false)) else (none)) else (none)
def patchworkref1_Glob.j2 : Nat → ByteArray → ByteArray → List Bool → Int → List Bool → Int → List (S63) → Bool → Bool → Int → Bool → Option (Bool)
  | 0, _, _, _, _, _, _, _, _, _, _, _ => none
  | k + 1, x0, x1, x5, x6, x7, x8, x9, x10, x11, x12, x58 => if x58 = true then (if 0 ≤ (wrap64 (x6 + 1)) then (if (wrap64 (x6 + 1)) < (x0.size : Int) then (patchworkref1_Glob.j3 k x0 x1 x5 x6 x7 (wrap64 (x6 + 2)) x9 x10 x11 (bt x0 (wrap64 (x6 + 1)))) else (none)) else (none)) else (patchworkref1_Glob.j3 k x0 x1 x5 x6 x7 x8 x9 x10 x11 x12)
def patchworkref1_Glob.j3 : Nat → ByteArray → ByteArray → List Bool → Int → List Bool → Int → List (S63) → Bool → Bool → Int → Option (Bool)
  | 0, _, _, _, _, _, _, _, _, _, _ => none
  | k + 1, x0, x1, x5, x6, x7, x8, x9, x10, x11, x12 => patchworkref1_Glob.l1 k x0 x1 x5 x6 x7 x8 x9 x10 x11 x12 0
def patchworkref1_Glob.l1 : Nat → ByteArray → ByteArray → List Bool → Int → List Bool → Int → List (S63) → Bool → Bool → Int → Int → Option (Bool)
  | 0, _, _, _, _, _, _, _, _, _, _, _ => none
  | k + 1, x0, x1, x5, x6, x7, x8, x9, x10, x11, x12, x13 => if x13 ≤ (x1.size : Int) then (if 0 ≤ x6 then (if x6 < (x0.size : Int) then (if (bt x0 x6) = 42 then (if 0 ≤ x13 then (if x13 < (x7.length : Int) then (if rdOf false x7 x13 = true then (patchworkref1_Glob.l1 k x0 x1 x5 x6 (x7.set (x13 : Int).toNat true) x8 x9 x10 x11 x12 (wrap64 (x13 + 1))) else (if x13 < (x5.length : Int) then (if rdOf false x5 x13 = true then (patchworkref1_Glob.l1 k x0 x1 x5 x6 (x7.set (x13 : Int).toNat true) x8 x9 x10 x11 x12 (wrap64 (x13 + 1))) else (if x13 > 0 then (if 0 ≤ (wrap64 (x13 - 1)) then (if (wrap64 (x13 - 1)) < (x7.length : Int) then (if rdOf false x7 (wrap64 (x13 - 1)) = true then (if (wrap64 (x13 - 1)) < (x1.size : Int) then (patchworkref1_Glob.l1 k x0 x1 x5 x6 (x7.set (x13 : Int).toNat ((bt x1 (wrap64 (x13 - 1))) != 47)) x8 x9 x10 x11 x12 (wrap64 (x13 + 1))) else (none)) else (patchworkref1_Glob.l1 k x0 x1 x5 x6 (x7.set (x13 : Int).toNat false) x8 x9 x10 x11 x12 (wrap64 (x13 + 1)))) else (none)) else (none)) else (patchworkref1_Glob.l1 k x0 x1 x5 x6 (x7.set (x13 : Int).toNat false) x8 x9 x10 x11 x12 (wrap64 (x13 + 1))))) else (none))) else (none)) else (none)) else (if x13 = (x1.size : Int) then (patchworkref1_Glob.j5 k x0 x1 x5 x6 x7 x8 x9 x10 x11 x12 x13 true) else (if 0 ≤ x13 then (if x13 < (x5.length : Int) then (patchworkref1_Glob.j5 k x0 x1 x5 x6 x7 x8 x9 x10 x11 x12 x13 (!(rdOf false x5 x13))) else (none)) else (none)))) else (none)) else (none)) else (patchworkref1_Glob.l0 k x0 x1 x7 x8)
def patchworkref1_Glob.j5 : Nat → ByteArray → ByteArray → List Bool → Int → List Bool → Int → List (S63) → Bool → Bool → Int → Int → Bool → Option (Bool)
  | 0, _, _, _, _, _, _, _, _, _, _, _, _ => none
  | k + 1, x0, x1, x5, x6, x7, x8, x9, x10, x11, x12, x13, x116 => if x116 = true then (patchworkref1_Glob.l1 k x0 x1 x5 x6 x7 x8 x9 x10 x11 x12 (wrap64 (x13 + 1))) else (if 0 ≤ x6 then (if x6 < (x0.size : Int) then (if (bt x0 x6) = 63 then (if 0 ≤ x13 then (if x13 < (x1.size : Int) then (if 0 ≤ (wrap64 (x13 + 1)) then (if (wrap64 (x13 + 1)) < (x7.length : Int) then (patchworkref1_Glob.l1 k x0 x1 x5 x6 (x7.set ((wrap64 (x13 + 1)) : Int).toNat ((bt x1 x13) != 47)) x8 x9 x10 x11 x12 (wrap64 (x13 + 1))) else (none)) else (none)) else (none)) else (none)) else (if x11 = true then (if 0 ≤ x13 then (if x13 < (x1.size : Int) then (if (bt x1 x13) = 47 then (if 0 ≤ (wrap64 (x13 + 1)) then (if (wrap64 (x13 + 1)) < (x7.length : Int) then (patchworkref1_Glob.l1 k x0 x1 x5 x6 (x7.set ((wrap64 (x13 + 1)) : Int).toNat false) x8 x9 x10 x11 x12 (wrap64 (x13 + 1))) else (none)) else (none)) else ((patchworkref1_inside.f k x9 (bt x1 x13)).bind fun t186 => (if 0 ≤ (wrap64 (x13 + 1)) then (if (wrap64 (x13 + 1)) < (x7.length : Int) then (patchworkref1_Glob.l1 k x0 x1 x5 x6 (x7.set ((wrap64 (x13 + 1)) : Int).toNat (t186 != x10)) x8 x9 x10 x11 x12 (wrap64 (x13 + 1))) else (none)) else (none)))) else (none)) else (none)) else (if 0 ≤ x13 then (if x13 < (x1.size : Int) then (if 0 ≤ (wrap64 (x13 + 1)) then (if (wrap64 (x13 + 1)) < (x7.length : Int) then (patchworkref1_Glob.l1 k x0 x1 x5 x6 (x7.set ((wrap64 (x13 + 1)) : Int).toNat ((bt x1 x13) == x12)) x8 x9 x10 x11 x12 (wrap64 (x13 + 1))) else (none)) else (none)) else (none)) else (none)))) else (none)) else (none))
end
def patchworkref1_Glob.f (k : Nat) (a0 : ByteArray) (a1 : ByteArray) : Option (Bool) := if 0 ≤ (wrap64 ((a1.size : Int) + 1)) then (if (wrap64 ((a1.size : Int) + 1) : Int).toNat ≤ 281474976710656 then ((some (List.replicate (wrap64 ((a1.size : Int) + 1) : Int).toNat false : List Bool)).bind fun y161 => (if 0 < (y161.length : Int) then (patchworkref1_Glob.l0 k a0 a1 (y161.set (0 : Int).toNat true) 0) else (none))) else (none)) else (none)
theorem patchworkref1_Glob.mono_l : ∀ k, (∀ y0 y1 y2 y3, LeO (patchworkref1_Glob.l0 k y0 y1 y2 y3) (patchworkref1_Glob.l0 (k + 1) y0 y1 y2 y3)) ∧ (∀ y0 y1 y2 y3 y4 y5 y6 y7 y8, LeO (patchworkref1_Glob.j1 k y0 y1 y2 y3 y4 y5 y6 y7 y8) (patchworkref1_Glob.j1 (k + 1) y0 y1 y2 y3 y4 y5 y6 y7 y8)) ∧ (∀ y0 y1 y2 y3 y4 y5 y6 y7 y8 y9 y10, LeO (patchworkref1_Glob.j2 k y0 y1 y2 y3 y4 y5 y6 y7 y8 y9 y10) (patchworkref1_Glob.j2 (k + 1) y0 y1 y2 y3 y4 y5 y6 y7 y8 y9 y10)) ∧ (∀ y0 y1 y2 y3 y4 y5 y6 y7 y8 y9, LeO (patchworkref1_Glob.j3 k y0 y1 y2 y3 y4 y5 y6 y7 y8 y9) (patchworkref1_Glob.j3 (k + 1) y0 y1 y2 y3 y4 y5 y6 y7 y8 y9)) ∧ (∀ y0 y1 y2 y3 y4 y5 y6 y7 y8 y9 y10, LeO (patchworkref1_Glob.l1 k y0 y1 y2 y3 y4 y5 y6 y7 y8 y9 y10) (patchworkref1_Glob.l1 (k + 1) y0 y1 y2 y3 y4 y5 y6 y7 y8 y9 y10)) ∧ (∀ y0 y1 y2 y3 y4 y5 y6 y7 y8 y9 y10 y11, LeO (patchworkref1_Glob.j5 k y0 y1 y2 y3 y4 y5 y6 y7 y8 y9 y10 y11) (patchworkref1_Glob.j5 (k + 1) y0 y1 y2 y3 y4 y5 y6 y7 y8 y9 y10 y11))
  | 0 => ⟨fun _ _ _ _ r h => by simp [patchworkref1_Glob.l0] at h, fun _ _ _ _ _ _ _ _ _ r h => by simp [patchworkref1_Glob.j1] at h, fun _ _ _ _ _ _ _ _ _ _ _ r h => by simp [patchworkref1_Glob.j2] at h, fun _ _ _ _ _ _ _ _ _ _ r h => by simp [patchworkref1_Glob.j3] at h, fun _ _ _ _ _ _ _ _ _ _ _ r h => by simp [patchworkref1_Glob.l1] at h, fun _ _ _ _ _ _ _ _ _ _ _ _ r h => by simp [patchworkref1_Glob.j5] at h⟩
  | k + 1 => by
    obtain ⟨ih0, ih1, ih2, ih3, ih4, ih5⟩ := patchworkref1_Glob.mono_l k
    refine ⟨?_, ?_, ?_, ?_, ?_, ?_⟩
    · intro y0 y1 y2 y3
      unfold patchworkref1_Glob.l0
      repeat' first
      | (with_reducible exact ih0 _ _ _ _)
      | (with_reducible exact ih1 _ _ _ _ _ _ _ _ _)
      | (with_reducible exact ih2 _ _ _ _ _ _ _ _ _ _ _)
      | (with_reducible exact ih3 _ _ _ _ _ _ _ _ _ _)
      | (with_reducible exact ih4 _ _ _ _ _ _ _ _ _ _ _)
      | (with_reducible exact ih5 _ _ _ _ _ _ _ _ _ _ _ _)
      | (with_reducible exact patchworkref1_inside.mono _ _ _)
      | (with_reducible exact patchworkref1_set.mono _ _ _ _ _)
      | (with_reducible exact LeO.refl _)
      | (with_reducible exact LeO.none _)
      | (with_reducible refine LeO.ite ?_ ?_)
      | (with_reducible refine LeO.bind ?_ (fun _ => ?_))
      | exact ih0 _ _ _ _
      | exact ih1 _ _ _ _ _ _ _ _ _
      | exact ih2 _ _ _ _ _ _ _ _ _ _ _
      | exact ih3 _ _ _ _ _ _ _ _ _ _
      | exact ih4 _ _ _ _ _ _ _ _ _ _ _
      | exact ih5 _ _ _ _ _ _ _ _ _ _ _ _
      | exact patchworkref1_inside.mono _ _ _
      | exact patchworkref1_set.mono _ _ _ _ _
      | exact LeO.none _
      | refine LeO.ite ?_ ?_
      | refine LeO.bind ?_ (fun _ => ?_)
    · intro y0 y1 y2 y3 y4 y5 y6 y7 y8
      unfold patchworkref1_Glob.j1
      repeat' first
      | (with_reducible exact ih0 _ _ _ _)
      | (with_reducible exact ih1 _ _ _ _ _ _ _ _ _)
      | (with_reducible exact ih2 _ _ _ _ _ _ _ _ _ _ _)
      | (with_reducible exact ih3 _ _ _ _ _ _ _ _ _ _)
      | (with_reducible exact ih4 _ _ _ _ _ _ _ _ _ _ _)
      | (with_reducible exact ih5 _ _ _ _ _ _ _ _ _ _ _ _)
      | (with_reducible exact patchworkref1_inside.mono _ _ _)
      | (with_reducible exact patchworkref1_set.mono _ _ _ _ _)
      | (with_reducible exact LeO.refl _)
      | (with_reducible exact LeO.none _)
      | (with_reducible refine LeO.ite ?_ ?_)
      | (with_reducible refine LeO.bind ?_ (fun _ => ?_))
      | exact ih0 _ _ _ _
      | exact ih1 _ _ _ _ _ _ _ _ _
      | exact ih2 _ _ _ _ _ _ _ _ _ _ _
      | exact ih3 _ _ _ _ _ _ _ _ _ _
      | exact ih4 _ _ _ _ _ _ _ _ _ _ _
      | exact ih5 _ _ _ _ _ _ _ _ _ _ _ _
      | exact patchworkref1_inside.mono _ _ _
      | exact patchworkref1_set.mono _ _ _ _ _
      | exact LeO.none _
      | refine LeO.ite ?_ ?_
      | refine LeO.bind ?_ (fun _ => ?_)
    · intro y0 y1 y2 y3 y4 y5 y6 y7 y8 y9 y10
      unfold patchworkref1_Glob.j2
      repeat' first
      | (with_reducible exact ih0 _ _ _ _)
      | (with_reducible exact ih1 _ _ _ _ _ _ _ _ _)
      | (with_reducible exact ih2 _ _ _ _ _ _ _ _ _ _ _)
      | (with_reducible exact ih3 _ _ _ _ _ _ _ _ _ _)
      | (with_reducible exact ih4 _ _ _ _ _ _ _ _ _ _ _)
      | (with_reducible exact ih5 _ _ _ _ _ _ _ _ _ _ _ _)
      | (with_reducible exact patchworkref1_inside.mono _ _ _)
      | (with_reducible exact patchworkref1_set.mono _ _ _ _ _)
      | (with_reducible exact LeO.refl _)
      | (with_reducible exact LeO.none _)
      | (with_reducible refine LeO.ite ?_ ?_)
      | (with_reducible refine LeO.bind ?_ (fun _ => ?_))
      | exact ih0 _ _ _ _
      | exact ih1 _ _ _ _ _ _ _ _ _
      | exact ih2 _ _ _ _ _ _ _ _ _ _ _
      | exact ih3 _ _ _ _ _ _ _ _ _ _
      | exact ih4 _ _ _ _ _ _ _ _ _ _ _
      | exact ih5 _ _ _ _ _ _ _ _ _ _ _ _
      | exact patchworkref1_inside.mono _ _ _
      | exact patchworkref1_set.mono _ _ _ _ _
      | exact LeO.none _
      | refine LeO.ite ?_ ?_
      | refine LeO.bind ?_ (fun _ => ?_)
    · intro y0 y1 y2 y3 y4 y5 y6 y7 y8 y9
      unfold patchworkref1_Glob.j3
      repeat' first
      | (with_reducible exact ih0 _ _ _ _)
      | (with_reducible exact ih1 _ _ _ _ _ _ _ _ _)
      | (with_reducible exact ih2 _ _ _ _ _ _ _ _ _ _ _)
      | (with_reducible exact ih3 _ _ _ _ _ _ _ _ _ _)
      | (with_reducible exact ih4 _ _ _ _ _ _ _ _ _ _ _)
      | (with_reducible exact ih5 _ _ _ _ _ _ _ _ _ _ _ _)
      | (with_reducible exact patchworkref1_inside.mono _ _ _)
      | (with_reducible exact patchworkref1_set.mono _ _ _ _ _)
      | (with_reducible exact LeO.refl _)
      | (with_reducible exact LeO.none _)
      | (with_reducible refine LeO.ite ?_ ?_)
      | (with_reducible refine LeO.bind ?_ (fun _ => ?_))
      | exact ih0 _ _ _ _
      | exact ih1 _ _ _ _ _ _ _ _ _
      | exact ih2 _ _ _ _ _ _ _ _ _ _ _
      | exact ih3 _ _ _ _ _ _ _ _ _ _
      | exact ih4 _ _ _ _ _ _ _ _ _ _ _
      | exact ih5 _ _ _ _ _ _ _ _ _ _ _ _
      | exact patchworkref1_inside.mono _ _ _
      | exact patchworkref1_set.mono _ _ _ _ _
      | exact LeO.none _
      | refine LeO.ite ?_ ?_
      | refine LeO.bind ?_ (fun _ => ?_)
    · intro y0 y1 y2 y3 y4 y5 y6 y7 y8 y9 y10
      unfold patchworkref1_Glob.l1
      repeat' first
      | (with_reducible exact ih0 _ _ _ _)
      | (with_reducible exact ih1 _ _ _ _ _ _ _ _ _)
      | (with_reducible exact ih2 _ _ _ _ _ _ _ _ _ _ _)
      | (with_reducible exact ih3 _ _ _ _ _ _ _ _ _ _)
      | (with_reducible exact ih4 _ _ _ _ _ _ _ _ _ _ _)
      | (with_reducible exact ih5 _ _ _ _ _ _ _ _ _ _ _ _)
      | (with_reducible exact patchworkref1_inside.mono _ _ _)
      | (with_reducible exact patchworkref1_set.mono _ _ _ _ _)
      | (with_reducible exact LeO.refl _)
      | (with_reducible exact LeO.none _)
      | (with_reducible refine LeO.ite ?_ ?_)
      | (with_reducible refine LeO.bind ?_ (fun _ => ?_))
      | exact ih0 _ _ _ _
      | exact ih1 _ _ _ _ _ _ _ _ _
      | exact ih2 _ _ _ _ _ _ _ _ _ _ _
      | exact ih3 _ _ _ _ _ _ _ _ _ _
      | exact ih4 _ _ _ _ _ _ _ _ _ _ _
      | exact ih5 _ _ _ _ _ _ _ _ _ _ _ _
      | exact patchworkref1_inside.mono _ _ _
      | exact patchworkref1_set.mono _ _ _ _ _
      | exact LeO.none _
      | refine LeO.ite ?_ ?_
      | refine LeO.bind ?_ (fun _ => ?_)
    · intro y0 y1 y2 y3 y4 y5 y6 y7 y8 y9 y10 y11
      unfold patchworkref1_Glob.j5
      repeat' first
      | (with_reducible exact ih0 _ _ _ _)
      | (with_reducible exact ih1 _ _ _ _ _ _ _ _ _)
      | (with_reducible exact ih2 _ _ _ _ _ _ _ _ _ _ _)
      | (with_reducible exact ih3 _ _ _ _ _ _ _ _ _ _)
      | (with_reducible exact ih4 _ _ _ _ _ _ _ _ _ _ _)
      | (with_reducible exact ih5 _ _ _ _ _ _ _ _ _ _ _ _)
      | (with_reducible exact patchworkref1_inside.mono _ _ _)
      | (with_reducible exact patchworkref1_set.mono _ _ _ _ _)
      | (with_reducible exact LeO.refl _)
      | (with_reducible exact LeO.none _)
      | (with_reducible refine LeO.ite ?_ ?_)
      | (with_reducible refine LeO.bind ?_ (fun _ => ?_))
      | exact ih0 _ _ _ _
      | exact ih1 _ _ _ _ _ _ _ _ _
      | exact ih2 _ _ _ _ _ _ _ _ _ _ _
      | exact ih3 _ _ _ _ _ _ _ _ _ _
      | exact ih4 _ _ _ _ _ _ _ _ _ _ _
      | exact ih5 _ _ _ _ _ _ _ _ _ _ _ _
      | exact patchworkref1_inside.mono _ _ _
      | exact patchworkref1_set.mono _ _ _ _ _
      | exact LeO.none _
      | refine LeO.ite ?_ ?_
      | refine LeO.bind ?_ (fun _ => ?_)
theorem patchworkref1_Glob.mono : ∀ a0 a1 k, LeO (patchworkref1_Glob.f k a0 a1) (patchworkref1_Glob.f (k + 1) a0 a1) := by
  intro a0 a1 k
  obtain ⟨ih0, ih1, ih2, ih3, ih4, ih5⟩ := patchworkref1_Glob.mono_l k
  unfold patchworkref1_Glob.f
  repeat' first
      | (with_reducible exact ih0 _ _ _ _)
      | (with_reducible exact ih1 _ _ _ _ _ _ _ _ _)
      | (with_reducible exact ih2 _ _ _ _ _ _ _ _ _ _ _)
      | (with_reducible exact ih3 _ _ _ _ _ _ _ _ _ _)
      | (with_reducible exact ih4 _ _ _ _ _ _ _ _ _ _ _)
      | (with_reducible exact ih5 _ _ _ _ _ _ _ _ _ _ _ _)
      | (with_reducible exact patchworkref1_inside.mono _ _ _)
      | (with_reducible exact patchworkref1_set.mono _ _ _ _ _)
      | (with_reducible exact LeO.refl _)
      | (with_reducible exact LeO.none _)
      | (with_reducible refine LeO.ite ?_ ?_)
      | (with_reducible refine LeO.bind ?_ (fun _ => ?_))
      | exact ih0 _ _ _ _
      | exact ih1 _ _ _ _ _ _ _ _ _
      | exact ih2 _ _ _ _ _ _ _ _ _ _ _
      | exact ih3 _ _ _ _ _ _ _ _ _ _
      | exact ih4 _ _ _ _ _ _ _ _ _ _ _
      | exact ih5 _ _ _ _ _ _ _ _ _ _ _ _
      | exact patchworkref1_inside.mono _ _ _
      | exact patchworkref1_set.mono _ _ _ _ _
      | exact LeO.none _
      | refine LeO.ite ?_ ?_
      | refine LeO.bind ?_ (fun _ => ?_)
set_option maxHeartbeats 8000000 in
set_option maxRecDepth 100000 in
theorem patchworkref1_Glob.calls (k : Nat) (a0 : ByteArray) (a1 : ByteArray) (r : Bool) (w : World) (h : patchworkref1_Glob.f k a0 a1 = some r) :
    Calls Try.prog 25 #[.string a0, .string a1] w fun e w' => e = .returned (.bool r) ∧ Below w.heap.size w w' := by
  have HB := Aside0.mk (Below.refl w.heap.size w)
  have H : (if 0 ≤ (wrap64 ((a1.size : Int) + 1)) then (if (wrap64 ((a1.size : Int) + 1) : Int).toNat ≤ 281474976710656 then ((some (List.replicate (wrap64 ((a1.size : Int) + 1) : Int).toNat false : List Bool)).bind fun y161 => (if 0 < (y161.length : Int) then (patchworkref1_Glob.l0 k a0 a1 (y161.set (0 : Int).toNat true) 0) else (none))) else (none)) else (none)) = some r := h
  clear h
  obtain ⟨ji3, hji3⟩ : ∃ j_ : Int, (wrap64 ((a1.size : Int) + 1)) = j_ := ⟨_, rfl⟩
  replace H : (if 0 ≤ (ji3) then (if (ji3 : Int).toNat ≤ 281474976710656 then ((some (List.replicate (ji3 : Int).toNat false : List Bool)).bind fun y161 => (if 0 < (y161.length : Int) then (patchworkref1_Glob.l0 k a0 a1 (y161.set (0 : Int).toNat true) 0) else (none))) else (none)) else (none)) = some r := by first | (rw [hji3] at H; exact H) | (simp only [hji3] at H ⊢; exact H)
  have hji3w : (IntKind.i64.wrap ((a1.size : Int) + 1)) = ji3 := (i64_w _).trans hji3
  by_cases c4 : 0 ≤ (ji3)
  · rw [if_pos c4] at H
    have c4b0 := eq_true c4
    have c4b1 : decide (0 ≤ (ji3)) = true := decide_eq_true c4
    clear c4
    by_cases c5 : (ji3 : Int).toNat ≤ 281474976710656
    · rw [if_pos c5] at H
      have c5b0 := eq_true c5
      have c5b1 : decide ((ji3 : Int).toNat ≤ 281474976710656) = true := decide_eq_true c5
      clear c5
      obtain ⟨y161, hy161⟩ : ∃ y_ : List Bool, y_ = (List.replicate (ji3 : Int).toNat false) := ⟨_, rfl⟩
      replace H : (if 0 < (y161.length : Int) then (patchworkref1_Glob.l0 k a0 a1 (y161.set (0 : Int).toNat true) 0) else (none)) = some r := by first | (rw [hy161]; with_reducible exact H) | (have H2_ := (Option.bind_some _ _).symm.trans H; rw [hy161]; with_reducible exact H2_) | (have H2_ := (Option.bind_some _ _).symm.trans H; with_reducible exact H2_) | with_reducible exact H | (rw [hy161]; exact H) | exact H
      have Ny161 := Aside0.mk hy161
      clear hy161
      by_cases c6 : 0 < (y161.length : Int)
      · rw [if_pos c6] at H
        have c6b0 : decide (0 < (y161.length : Int)) = true := decide_eq_true c6
        have c6b1 : decide (0 < y161.length) = true := decide_eq_true (by omega)
        clear c6
        obtain ⟨y164, hy164⟩ : ∃ y_ : List Bool, y_ = (y161.set (0 : Int).toNat true) := ⟨_, rfl⟩
        replace H : (patchworkref1_Glob.l0 k a0 a1 y164 0) = some r := by first | (rw [hy164]; with_reducible exact H) | (have H2_ := (Option.bind_some _ _).symm.trans H; rw [hy164]; with_reducible exact H2_) | (have H2_ := (Option.bind_some _ _).symm.trans H; with_reducible exact H2_) | with_reducible exact H | (rw [hy164]; exact H) | exact H
        have Ny164 := Aside0.mk hy164
        clear hy164
        have H' := Aside0.mk H
        clear H
        go_enter Try.func25, Try.ntmps25
        go_wp2_with (first | ((with_reducible refine gate_dst (N := 17) rfl ?_); (try (refine gate_guard (by rfl) ?_; dsimp only)); refine Kd.R_make Kd.bool _ 4 rfl (N := 17) rfl 33 _ _ rfl ji3 rfl rfl Try.underlying33 (.bool false) 1 info4 rfl (by decide) (by omega) false (ok := fun _ => True) (okp := fun _ => True) rfl (fun _ hk => hk) trivial (of_decide_eq_true (by first | (with_reducible assumption) | assumption)) (Nat.le_trans (Nat.mul_le_mul_right _ (of_decide_eq_true (by first | (with_reducible assumption) | assumption) : ji3.toNat ≤ 281474976710656)) (by omega)) (Below.refl _ _) (Nat.le_refl _) ?_; intro v162 w8 ho9 hb hg_ hnew_; clear hg_ hnew_; (first | rw [← Ny161.out] at ho9 | (simp only [Int.reduceToNat] at ho9; rw [← Ny161.out] at ho9)); have n0_ := Aside0.mk (Kd.R_lower ho9 (below_size (by repeat (first | (with_reducible first | exact HB.out | apply below_alloc | apply pw_below_drewN | apply below_drew1) | exact HB.out)))); have n1_ := Aside0.mk (below_step (by repeat (first | (with_reducible first | exact HB.out | apply below_alloc | apply pw_below_drewN | apply below_drew1) | exact HB.out)) hb); clear HB; have HO163 := n0_; have HB := n1_; clear n0_ n1_; clear hb ho9; have p7 : 0 ≤ (0 : Int) := (by omega); have q7 : (0 : Int) < ((y161.length : Int) : Int) := of_decide_eq_true (by first | (with_reducible assumption) | assumption); have qi7 : (0 < y161.length) = True := eq_true (by omega); obtain ⟨go7, co7, eo7, gb7, gl7, cl7, HG7⟩ := Kd.R_form HO163.out (by omega); (first | cases eo7 | (injection eo7 with ea_ en_ ec_; (first | subst ea_ | (injection ea_ with ea_; subst ea_)); subst ec_; clear en_)); have GB7 := Aside0.mk gb7; have GG7 := Aside0.mk HG7; clear gb7 gl7 HG7; obtain ⟨hx7_0, hf7_0⟩ := Kd.R_celln false HO163.out (0 : Int) p7 q7; (try rw [show ((0 : Int)).toNat = 0 from rfl] at hx7_0); (try simp only [Nat.reduceMul, Nat.zero_mul, Nat.zero_add, Nat.reduceAdd] at hx7_0); (try rw [show ((0 : Int)).toNat = 0 from rfl] at hf7_0); (try simp only [Nat.reduceMul, Nat.zero_mul, Nat.zero_add, Nat.reduceAdd] at hf7_0); replace p7 := eq_true p7; replace q7 := eq_true q7; obtain ⟨hy10_, hz10_⟩ := Kd.R_celln false HO163.out (0 : Int) (by omega) (of_decide_eq_true (by first | (with_reducible assumption) | assumption)); (try simp only [Int.reduceToNat, Int.toNat_zero, Int.toNat_ofNat, Nat.reduceMul, Nat.zero_mul, Nat.zero_add] at hy10_ hz10_); (try rw [show ((0 : Int)).toNat = 0 from rfl] at hy10_); (try rw [show ((0 : Int)).toNat = 0 from rfl] at hz10_); have HP10 := Kd.R_putg HO163.out (0 : Int) true) | ((with_reducible refine gate_store (t := 4) (p := 19) rfl ?_); refine store_event (t := 4) (p := 19) (v := ?vo_w11) (w1 := (w8.setCell ⟨go7, (0 : Int).toNat, none⟩ (.bool true))) ?hg ?ho ?hn ?hr ?_; (case ho => rfl); (case hg => rfl); (case hn => rfl); (case hr => first | (go_simp; done) | (go_simp; rfl)); intro w11 hw; have hg : w8.grownBy w11 (some go7) := (by rw [hw]; exact HP10.2); have hp_ : Kd.R Kd.bool 4 w11 w.heap.size (fun _ => True) (.slice (some ⟨go7, 0, none⟩) y161.length co7) y164 := (by rw [hw, Ny164.out]; exact HP10.1); clear HP10; have n0_ := Aside0.mk (hp_); have n1_ := Aside0.mk ((by rw [hw]; exact below_set (HB.out) GB7.out : Below w.heap.size w w11)); clear HO163; clear HB; have HO163 := n0_; have HB := n1_; clear n0_ n1_; clear hg hw hp_))
        go_loopg [5, 6] k (fun kq v5 v6 w' => ∃ (x5_1 : List Bool) (x6_1 : Int), v6 = .int .i64 x6_1 ∧ Aside0 (patchworkref1_Glob.l0 kq a0 a1 x5_1 x6_1 = some r) ∧ Aside0 (kq ≤ k) ∧ Aside0 (Kd.R Kd.bool 4 w' w.heap.size (fun _ => True) v5 x5_1) ∧ Aside0 (Below w.heap.size w w'))
        case atStart => exact ⟨(y164), (0), (by first | rfl | (simp; done) | (simp [*]; done)), (by first | (with_reducible exact H') | (simp only [hji3]; with_reducible exact H') | (simp only [hji3] at H' ⊢; with_reducible exact H') | exact H'), ⟨Nat.le_refl _⟩, ⟨by (with_reducible repeat (first | apply Kd.R_alloc | apply Kd.R_drewN | apply Kd.R_drew)); exact HO163.out⟩, ⟨by repeat (first | (with_reducible first | exact HB.out | apply below_alloc | apply pw_below_drewN | apply below_drew1) | exact HB.out)⟩⟩
        case round =>
          clear H'
          try clear c2
          try clear p2
          try clear c4
          try clear c4b0
          try clear c4b1
          try clear c5
          try clear c5b0
          try clear c5b1
          try clear c6
          try clear c6b0
          try clear c6b1
          try clear p6
          try clear p7
          try clear q7
          try clear hx7
          try clear qi7
          try clear hf7
          try clear hx7_0
          try clear p7
          try clear q7
          obtain ⟨x5_1, x6_1, rfl, HA, HK1, HO_5, HB⟩ := hrel
          cases gk with
          | zero => exact absurd HA.out (by simp [patchworkref1_Glob.l0])
          | succ k1 =>
            have H := HA.out
            clear HA
            simp only [patchworkref1_Glob.l0] at H
            by_cases c12 : x6_1 < (a0.size : Int)
            · rw [if_pos c12] at H
              have c12b0 : decide (x6_1 < (a0.size : Int)) = true := decide_eq_true c12
              clear c12
              replace H : (if 0 ≤ (ji3) then (if (ji3 : Int).toNat ≤ 281474976710656 then ((some (List.replicate (ji3 : Int).toNat false : List Bool)).bind fun y166 => (if 0 ≤ x6_1 then (if (bt a0 x6_1) = 91 then ((patchworkref1_set.f k1 a0 (wrap64 (x6_1 + 1)) (⟨#[33, 94]⟩ : ByteArray) true).bind fun bt169 => (if bt169.2.2.2 = true then (patchworkref1_Glob.j1 k1 a0 a1 x5_1 x6_1 y166 bt169.2.2.1 bt169.1 bt169.2.1 bt169.2.2.2) else (patchworkref1_Glob.j1 k1 a0 a1 x5_1 x6_1 y166 (wrap64 (x6_1 + 1)) bt169.1 bt169.2.1 bt169.2.2.2))) else (patchworkref1_Glob.j1 k1 a0 a1 x5_1 x6_1 y166 (wrap64 (x6_1 + 1)) ([] : List (S63)) false false)) else (none))) else (none)) else (none)) = some r := by first | (rw [hji3] at H; exact H) | (simp only [hji3] at H ⊢; exact H)
              by_cases c13 : 0 ≤ (ji3)
              · rw [if_pos c13] at H
                have c13b0 := eq_true c13
                have c13b1 : decide (0 ≤ (ji3)) = true := decide_eq_true c13
                clear c13
                by_cases c14 : (ji3 : Int).toNat ≤ 281474976710656
                · rw [if_pos c14] at H
                  have c14b0 := eq_true c14
                  have c14b1 : decide ((ji3 : Int).toNat ≤ 281474976710656) = true := decide_eq_true c14
                  clear c14
                  obtain ⟨y166, hy166⟩ : ∃ y_ : List Bool, y_ = (List.replicate (ji3 : Int).toNat false) := ⟨_, rfl⟩
                  replace H : (if 0 ≤ x6_1 then (if (bt a0 x6_1) = 91 then ((patchworkref1_set.f k1 a0 (wrap64 (x6_1 + 1)) (⟨#[33, 94]⟩ : ByteArray) true).bind fun bt169 => (if bt169.2.2.2 = true then (patchworkref1_Glob.j1 k1 a0 a1 x5_1 x6_1 y166 bt169.2.2.1 bt169.1 bt169.2.1 bt169.2.2.2) else (patchworkref1_Glob.j1 k1 a0 a1 x5_1 x6_1 y166 (wrap64 (x6_1 + 1)) bt169.1 bt169.2.1 bt169.2.2.2))) else (patchworkref1_Glob.j1 k1 a0 a1 x5_1 x6_1 y166 (wrap64 (x6_1 + 1)) ([] : List (S63)) false false)) else (none)) = some r := by first | (rw [hy166]; with_reducible exact H) | (have H2_ := (Option.bind_some _ _).symm.trans H; rw [hy166]; with_reducible exact H2_) | (have H2_ := (Option.bind_some _ _).symm.trans H; with_reducible exact H2_) | with_reducible exact H | (rw [hy166]; exact H) | exact H
                  have Ny166 := Aside0.mk hy166
                  clear hy166
                  by_cases c15 : 0 ≤ x6_1
                  · rw [if_pos c15] at H
                    have c15b0 : decide (0 ≤ x6_1) = true := decide_eq_true c15
                    clear c15
                    have HC17 := Aside0.mk H
                    clear H
                    go_upto_if 33 with (first | ((with_reducible refine gate_dst (N := 27) rfl ?_); (try (refine gate_guard (by rfl) ?_; dsimp only)); refine Kd.R_make Kd.bool _ 4 rfl (N := 27) rfl 33 _ _ rfl ji3 rfl rfl Try.underlying33 (.bool false) 1 info4 rfl (by decide) (by omega) false (ok := fun _ => True) (okp := fun _ => True) rfl (fun _ hk => hk) trivial (of_decide_eq_true (by first | (with_reducible assumption) | assumption)) (Nat.le_trans (Nat.mul_le_mul_right _ (of_decide_eq_true (by first | (with_reducible assumption) | assumption) : ji3.toNat ≤ 281474976710656)) (by omega)) (Below.refl _ _) (Nat.le_refl _) ?_; intro v167 w18 ho19 hb hg_ hnew_; clear hg_ hnew_; (first | rw [← Ny166.out] at ho19 | (simp only [Int.reduceToNat] at ho19; rw [← Ny166.out] at ho19)); have n0_ := Aside0.mk (Kd.R_elder' (by (with_reducible repeat (first | apply Kd.R_alloc | apply Kd.R_drewN | apply Kd.R_drew)); exact HO_5.out) (Kd.R_base ho19) hb); have n1_ := Aside0.mk (Kd.R_lower (Kd.R_new' ho19 (Kd.R_lt (by (with_reducible repeat (first | apply Kd.R_alloc | apply Kd.R_drewN | apply Kd.R_drew)); exact HO_5.out))) (below_size (by repeat (first | (with_reducible first | exact HB.out | apply below_alloc | apply pw_below_drewN | apply below_drew1) | exact HB.out)))); have n2_ := Aside0.mk (below_step (by repeat (first | (with_reducible first | exact HB.out | apply below_alloc | apply pw_below_drewN | apply below_drew1) | exact HB.out)) hb); clear HO_5; clear HB; have HO_5 := n0_; have HO168 := n1_; have HB := n2_; clear n0_ n1_ n2_; clear hb ho19; have p16 : 0 ≤ (x6_1 : Int) := of_decide_eq_true (by first | (with_reducible assumption) | assumption); have q16 : x6_1 < (a0.size : Int) := of_decide_eq_true (by first | (with_reducible assumption) | assumption); have hx16 := bt_at a0 x6_1; replace p16 := eq_true p16; replace q16 := eq_true q16))
                    (try simp only [Act.put, List.setIfInBounds_toArray, List.set_cons_zero, List.set_cons_succ])
                    go_cut [8, 9, 10, 11] (fun v8 v9 v10 v11 wc => ∃ (kq : Nat) (x8_16 : Int) (x9_16 : List (S63)) (x10_16 : Bool) (x11_16 : Bool), v8 = .int .i64 x8_16 ∧ v10 = .bool x10_16 ∧ v11 = .bool x11_16 ∧ Aside0 (patchworkref1_Glob.j1 kq a0 a1 x5_1 x6_1 y166 x8_16 x9_16 x10_16 x11_16 = some r) ∧ Aside0 (kq ≤ k1) ∧ Aside0 (Kd.R Kd.bool 4 wc w.heap.size (fun k_ => some k_ ≠ (v167 : Value).ownBlock) u5 x5_1) ∧ Aside0 (Kd.R Kd.bool 4 wc w.heap.size (fun k_ => some k_ ≠ (u5 : Value).ownBlock) v167 y166) ∧ Aside0 (Kd.R k63 63 wc w.heap.size (fun _ => True) v9 x9_16) ∧ Aside0 (Below w.heap.size w wc))
                    case first =>
                      have H := HC17.out
                      clear HC17
                      by_cases c20 : (bt a0 x6_1) = 91
                      · rw [if_pos c20] at H
                        have c20b0 : ((bt a0 x6_1) == 91) = true := beq_iff_eq.mpr c20
                        have c20b1 : ((bt a0 x6_1) != 91) = false := bne_eq_false_iff_eq.mpr c20
                        clear c20
                        (first | rw [c20b0] | (simp only [i64_w, i32_w]; rw [c20b0]) | skip)
                        replace H := Option.bind_eq_some_iff.mp H
                        obtain ⟨⟨t169, t170, t171, t172⟩, A210, H⟩ := H
                        replace H : (if t172 = true then (patchworkref1_Glob.j1 k1 a0 a1 x5_1 x6_1 y166 t171 t169 t170 t172) else (patchworkref1_Glob.j1 k1 a0 a1 x5_1 x6_1 y166 (wrap64 (x6_1 + 1)) t169 t170 t172)) = some r := H
                        have A21 := Aside0.mk A210
                        clear A210
                        by_cases c22 : t172 = true
                        · subst c22
                          have H1 : (patchworkref1_Glob.j1 k1 a0 a1 x5_1 x6_1 y166 t171 t169 t170 true) = some r := by rw [if_pos rfl] at H; exact H
                          clear H
                          have H := H1
                          clear H1
                          have H' := Aside0.mk H
                          clear H
                          go_wp2_with (first | ((with_reducible refine gate_callee (f := 38) rfl ?_); refine goesL_ (some 38) rfl rfl Try.func38 (by kernel_rfl) rfl #[.string a0, .int .i64 (wrap64 (x6_1 + 1)), .string (⟨#[33, 94]⟩ : ByteArray), .bool true] rfl (by (try simp only [List.map_toArray, List.map_cons, List.map_nil]); first | done | rfl | (simp only [List.length_drop, List.length_take]; rfl)) ?_; (with_reducible refine (patchworkref1_set.calls k1 a0 (wrap64 (x6_1 + 1)) (⟨#[33, 94]⟩ : ByteArray) true t169 t170 t171 true _ A21.out).mono ?_); rintro e w23 ⟨v173, rfl, ho0, hb⟩; refine ⟨_, rfl, ?_⟩; have n0_ := Aside0.mk (Kd.R_below (by (with_reducible repeat (first | apply Kd.R_alloc | apply Kd.R_drewN | apply Kd.R_drew)); exact HO_5.out) hb); have n1_ := Aside0.mk (Kd.R_below (by (with_reducible repeat (first | apply Kd.R_alloc | apply Kd.R_drewN | apply Kd.R_drew)); exact HO168.out) hb); have n2_ := Aside0.mk (Kd.R_lower ho0 (below_size (by repeat (first | (with_reducible first | exact HB.out | apply below_alloc | apply pw_below_drewN | apply below_drew1) | exact HB.out)))); have n3_ := Aside0.mk (below_step (by repeat (first | (with_reducible first | exact HB.out | apply below_alloc | apply pw_below_drewN | apply below_drew1) | exact HB.out)) hb); clear HO_5; clear HO168; clear HB; have HO_5 := n0_; have HO168 := n1_; have HO174 := n2_; have HB := n3_; clear n0_ n1_ n2_ n3_; (try clear hb); (try clear hb2); (try clear hk); (try clear hi); (try clear ho0)))
                          (first | go_meet | (simp only [← hji3]; go_meet))
                          case rel => exact ⟨_, (t171), (t169), (t170), (true), (by first | rfl | (simp; done) | (simp [*]; done)), (by first | rfl | (simp; done) | (simp [*]; done)), (by first | rfl | (simp; done) | (simp [*]; done)), (by first | (with_reducible exact H') | (simp only [hji3]; with_reducible exact H') | (simp only [hji3] at H' ⊢; with_reducible exact H') | exact H'), ⟨by have := HK1.out; first | omega | exact Nat.le_refl _⟩, ⟨by (with_reducible repeat (first | apply Kd.R_alloc | apply Kd.R_drewN | apply Kd.R_drew)); exact Kd.R_mono HO_5.out (fun _ hk => hk.2)⟩, ⟨by (with_reducible repeat (first | apply Kd.R_alloc | apply Kd.R_drewN | apply Kd.R_drew)); exact Kd.R_mono HO168.out (fun _ hk => hk.2)⟩, ⟨by (with_reducible repeat (first | apply Kd.R_alloc | apply Kd.R_drewN | apply Kd.R_drew)); exact HO174.out⟩, ⟨by repeat (first | (with_reducible first | exact HB.out | apply below_alloc | apply pw_below_drewN | apply below_drew1) | exact HB.out)⟩⟩
                        · replace c22 := Bool.eq_false_iff.mpr c22
                          subst c22
                          have H1 : (patchworkref1_Glob.j1 k1 a0 a1 x5_1 x6_1 y166 (wrap64 (x6_1 + 1)) t169 t170 false) = some r := by rw [if_neg (show ¬ (false = true) by decide)] at H; exact H
                          clear H
                          have H := H1
                          clear H1
                          have H' := Aside0.mk H
                          clear H
                          go_wp2_with (first | ((with_reducible refine gate_callee (f := 38) rfl ?_); refine goesL_ (some 38) rfl rfl Try.func38 (by kernel_rfl) rfl #[.string a0, .int .i64 (wrap64 (x6_1 + 1)), .string (⟨#[33, 94]⟩ : ByteArray), .bool true] rfl (by (try simp only [List.map_toArray, List.map_cons, List.map_nil]); first | done | rfl | (simp only [List.length_drop, List.length_take]; rfl)) ?_; (with_reducible refine (patchworkref1_set.calls k1 a0 (wrap64 (x6_1 + 1)) (⟨#[33, 94]⟩ : ByteArray) true t169 t170 t171 false _ A21.out).mono ?_); rintro e w24 ⟨v173, rfl, ho0, hb⟩; refine ⟨_, rfl, ?_⟩; have n0_ := Aside0.mk (Kd.R_below (by (with_reducible repeat (first | apply Kd.R_alloc | apply Kd.R_drewN | apply Kd.R_drew)); exact HO_5.out) hb); have n1_ := Aside0.mk (Kd.R_below (by (with_reducible repeat (first | apply Kd.R_alloc | apply Kd.R_drewN | apply Kd.R_drew)); exact HO168.out) hb); have n2_ := Aside0.mk (Kd.R_lower ho0 (below_size (by repeat (first | (with_reducible first | exact HB.out | apply below_alloc | apply pw_below_drewN | apply below_drew1) | exact HB.out)))); have n3_ := Aside0.mk (below_step (by repeat (first | (with_reducible first | exact HB.out | apply below_alloc | apply pw_below_drewN | apply below_drew1) | exact HB.out)) hb); clear HO_5; clear HO168; clear HB; have HO_5 := n0_; have HO168 := n1_; have HO174 := n2_; have HB := n3_; clear n0_ n1_ n2_ n3_; (try clear hb); (try clear hb2); (try clear hk); (try clear hi); (try clear ho0)))
                          (first | go_meet | (simp only [← hji3]; go_meet))
                          case rel => exact ⟨_, (wrap64 (x6_1 + 1)), (t169), (t170), (false), (by first | rfl | (simp; done) | (simp [*]; done)), (by first | rfl | (simp; done) | (simp [*]; done)), (by first | rfl | (simp; done) | (simp [*]; done)), (by first | (with_reducible exact H') | (simp only [hji3]; with_reducible exact H') | (simp only [hji3] at H' ⊢; with_reducible exact H') | exact H'), ⟨by have := HK1.out; first | omega | exact Nat.le_refl _⟩, ⟨by (with_reducible repeat (first | apply Kd.R_alloc | apply Kd.R_drewN | apply Kd.R_drew)); exact Kd.R_mono HO_5.out (fun _ hk => hk.2)⟩, ⟨by (with_reducible repeat (first | apply Kd.R_alloc | apply Kd.R_drewN | apply Kd.R_drew)); exact Kd.R_mono HO168.out (fun _ hk => hk.2)⟩, ⟨by (with_reducible repeat (first | apply Kd.R_alloc | apply Kd.R_drewN | apply Kd.R_drew)); exact HO174.out⟩, ⟨by repeat (first | (with_reducible first | exact HB.out | apply below_alloc | apply pw_below_drewN | apply below_drew1) | exact HB.out)⟩⟩
                      · rw [if_neg c20] at H
                        have c20b0 : ((bt a0 x6_1) == 91) = false := beq_eq_false_iff_ne.mpr c20
                        have c20b1 : ((bt a0 x6_1) != 91) = true := bne_iff_ne.mpr c20
                        (first | rw [c20b0] | (simp only [i64_w, i32_w]; rw [c20b0]) | skip)
                        have H' := Aside0.mk H
                        clear H
                        go_wp2
                        (first | go_meet | (simp only [← hji3]; go_meet))
                        case rel => exact ⟨_, (wrap64 (x6_1 + 1)), (([] : List (S63))), (false), (false), (by first | rfl | (simp; done) | (simp [*]; done)), (by first | rfl | (simp; done) | (simp [*]; done)), (by first | rfl | (simp; done) | (simp [*]; done)), (by first | (with_reducible exact H') | (simp only [hji3]; with_reducible exact H') | (simp only [hji3] at H' ⊢; with_reducible exact H') | exact H'), ⟨by have := HK1.out; first | omega | exact Nat.le_refl _⟩, ⟨by (with_reducible repeat (first | apply Kd.R_alloc | apply Kd.R_drewN | apply Kd.R_drew)); exact Kd.R_mono HO_5.out (fun _ hk => hk.2)⟩, ⟨by (with_reducible repeat (first | apply Kd.R_alloc | apply Kd.R_drewN | apply Kd.R_drew)); exact Kd.R_mono HO168.out (fun _ hk => hk.2)⟩, ⟨by first | exact Kd.R_nil _ _ _ _ _ | exact Kd.N_nil _ _ _ _ _ | exact Kd.V_nil _ _ _ _ _ | exact Kd.Q_nil _ _ _ _ _ | exact Kd.S_nil _ _ _ _ _⟩, ⟨by repeat (first | (with_reducible first | exact HB.out | apply below_alloc | apply pw_below_drewN | apply below_drew1) | exact HB.out)⟩⟩
                    case rest =>
                      clear HC17
                      try clear c1
                      try clear p1
                      try clear q1
                      try clear hx1
                      try clear c2
                      try clear p2
                      try clear c3
                      try clear c4
                      try clear c4b0
                      try clear c4b1
                      try clear c5
                      try clear c5b0
                      try clear c5b1
                      try clear c6
                      try clear c6b0
                      try clear c6b1
                      try clear p6
                      try clear p7
                      try clear q7
                      try clear hx7
                      try clear qi7
                      try clear hf7
                      try clear c12
                      try clear c12b0
                      try clear c13
                      try clear c13b0
                      try clear c13b1
                      try clear c14
                      try clear c14b0
                      try clear c14b1
                      try clear c15
                      try clear c15b0
                      try clear p16
                      try clear q16
                      try clear hx16
                      try clear c20
                      try clear c20b0
                      try clear c20b1
                      try clear c22
                      try clear hx7_0
                      try clear p16
                      try clear p2
                      try clear p6
                      try clear p7
                      try clear q16
                      try clear q7
                      obtain ⟨kq, x8_16, x9_16, x10_16, x11_16, rfl, rfl, rfl, HA, HJ16, HO_5, HO_7, HO_9, HB⟩ := hcut
                      cases kq with
                      | zero => exact absurd HA.out (by simp [patchworkref1_Glob.j1])
                      | succ kj16 =>
                        have H := HA.out
                        clear HA
                        simp only [patchworkref1_Glob.j1] at H
                        by_cases c25 : 0 ≤ x6_1
                        · rw [if_pos c25] at H
                          have c25b0 : decide (0 ≤ x6_1) = true := decide_eq_true c25
                          clear c25
                          by_cases c26 : x6_1 < (a0.size : Int)
                          · rw [if_pos c26] at H
                            have c26b0 : decide (x6_1 < (a0.size : Int)) = true := decide_eq_true c26
                            clear c26
                            have HC28 := Aside0.mk H
                            clear H
                            have p27 : 0 ≤ (x6_1 : Int) := of_decide_eq_true (by first | (with_reducible assumption) | assumption)
                            have q27 : x6_1 < (a0.size : Int) := of_decide_eq_true (by first | (with_reducible assumption) | assumption)
                            have hx27 := bt_at a0 x6_1
                            replace p27 := eq_true p27
                            replace q27 := eq_true q27
                            go_upto_region 15 with (fail)
                            go_cut [58] (fun v58 wc => ∃ (kq : Nat) (x58_27 : Bool), v58 = .bool x58_27 ∧ Aside0 (patchworkref1_Glob.j2 kq a0 a1 x5_1 x6_1 y166 x8_16 x9_16 x10_16 x11_16 (bt a0 x6_1) x58_27 = some r) ∧ Aside0 (kq ≤ kj16) ∧ Aside0 (Kd.R Kd.bool 4 wc w.heap.size (fun k_ => some k_ ≠ (v167 : Value).ownBlock) u5 x5_1) ∧ Aside0 (Kd.R Kd.bool 4 wc w.heap.size (fun k_ => some k_ ≠ (u5 : Value).ownBlock) v167 y166) ∧ Aside0 (Kd.R k63 63 wc w.heap.size (fun _ => True) u9 x9_16) ∧ Aside0 (Below w.heap.size w wc))
                            case first =>
                              have H := HC28.out
                              clear HC28
                              by_cases c29 : (bt a0 x6_1) = 92
                              · rw [if_pos c29] at H
                                have c29b0 : ((bt a0 x6_1) == 92) = true := beq_iff_eq.mpr c29
                                have c29b1 : ((bt a0 x6_1) != 92) = false := bne_eq_false_iff_eq.mpr c29
                                clear c29
                                (first | rw [c29b0] | (simp only [i64_w, i32_w]; rw [c29b0]) | skip)
                                have H' := Aside0.mk H
                                clear H
                                go_wp2
                                (first | go_meet | (simp only [← hji3]; go_meet))
                                case rel => exact ⟨_, (decide ((wrap64 (x6_1 + 1)) < (a0.size : Int))), (by first | rfl | (simp; done) | (simp [*]; done)), (by first | (with_reducible exact H') | (simp only [hji3]; with_reducible exact H') | (simp only [hji3] at H' ⊢; with_reducible exact H') | exact H'), ⟨by have := HK1.out; have := HJ16.out; first | omega | exact Nat.le_refl _⟩, ⟨by (with_reducible repeat (first | apply Kd.R_alloc | apply Kd.R_drewN | apply Kd.R_drew)); exact HO_5.out⟩, ⟨by (with_reducible repeat (first | apply Kd.R_alloc | apply Kd.R_drewN | apply Kd.R_drew)); exact HO_7.out⟩, ⟨by (with_reducible repeat (first | apply Kd.R_alloc | apply Kd.R_drewN | apply Kd.R_drew)); exact HO_9.out⟩, ⟨by repeat (first | (with_reducible first | exact HB.out | apply below_alloc | apply pw_below_drewN | apply below_drew1) | exact HB.out)⟩⟩
                              · rw [if_neg c29] at H
                                have c29b0 : ((bt a0 x6_1) == 92) = false := beq_eq_false_iff_ne.mpr c29
                                have c29b1 : ((bt a0 x6_1) != 92) = true := bne_iff_ne.mpr c29
                                (first | rw [c29b0] | (simp only [i64_w, i32_w]; rw [c29b0]) | skip)
                                have H' := Aside0.mk H
                                clear H
                                go_wp2
                                (first | go_meet | (simp only [← hji3]; go_meet))
                                case rel => exact ⟨_, (false), (by first | rfl | (simp; done) | (simp [*]; done)), (by first | (with_reducible exact H') | (simp only [hji3]; with_reducible exact H') | (simp only [hji3] at H' ⊢; with_reducible exact H') | exact H'), ⟨by have := HK1.out; have := HJ16.out; first | omega | exact Nat.le_refl _⟩, ⟨by (with_reducible repeat (first | apply Kd.R_alloc | apply Kd.R_drewN | apply Kd.R_drew)); exact HO_5.out⟩, ⟨by (with_reducible repeat (first | apply Kd.R_alloc | apply Kd.R_drewN | apply Kd.R_drew)); exact HO_7.out⟩, ⟨by (with_reducible repeat (first | apply Kd.R_alloc | apply Kd.R_drewN | apply Kd.R_drew)); exact HO_9.out⟩, ⟨by repeat (first | (with_reducible first | exact HB.out | apply below_alloc | apply pw_below_drewN | apply below_drew1) | exact HB.out)⟩⟩
                            case rest =>
                              clear HC28
                              try clear c1
                              try clear p1
                              try clear q1
                              try clear hx1
                              try clear c2
                              try clear p2
                              try clear q2
                              try clear hx2
                              try clear c3
                              try clear c4
                              try clear c4b0
                              try clear c4b1
                              try clear c5
                              try clear c5b0
                              try clear c5b1
                              try clear c6
                              try clear c6b0
                              try clear c6b1
                              try clear p6
                              try clear p7
                              try clear q7
                              try clear hx7
                              try clear qi7
                              try clear hf7
                              try clear c12
                              try clear c12b0
                              try clear c13
                              try clear c13b0
                              try clear c13b1
                              try clear c14
                              try clear c14b0
                              try clear c14b1
                              try clear c15
                              try clear c15b0
                              try clear p16
                              try clear q16
                              try clear hx16
                              try clear c20
                              try clear c20b0
                              try clear c20b1
                              try clear c22
                              try clear c25
                              try clear c25b0
                              try clear c26
                              try clear c26b0
                              try clear p27
                              try clear q27
                              try clear hx27
                              try clear c29
                              try clear c29b0
                              try clear c29b1
                              try clear hx7_0
                              try clear p1
                              try clear p16
                              try clear p2
                              try clear p27
                              try clear p6
                              try clear p7
                              try clear q1
                              try clear q16
                              try clear q27
                              try clear q7
                              obtain ⟨kq, x58_27, rfl, HA, HJ27, HO_5, HO_7, HO_9, HB⟩ := hcut
                              cases kq with
                              | zero => exact absurd HA.out (by simp [patchworkref1_Glob.j2])
                              | succ kj27 =>
                                have H := HA.out
                                clear HA
                                simp only [patchworkref1_Glob.j2] at H
                                have HC30 := Aside0.mk H
                                clear H
                                go_upto_if 58 with (fail)
                                go_cut [8, 12] (fun v8 v12 wc => ∃ (kq : Nat) (x8_29 : Int) (x12_29 : Int), v8 = .int .i64 x8_29 ∧ v12 = .int .u8 x12_29 ∧ Aside0 (patchworkref1_Glob.j3 kq a0 a1 x5_1 x6_1 y166 x8_29 x9_16 x10_16 x11_16 x12_29 = some r) ∧ Aside0 (kq ≤ kj27) ∧ Aside0 (Kd.R Kd.bool 4 wc w.heap.size (fun k_ => some k_ ≠ (v167 : Value).ownBlock) u5 x5_1) ∧ Aside0 (Kd.R Kd.bool 4 wc w.heap.size (fun k_ => some k_ ≠ (u5 : Value).ownBlock) v167 y166) ∧ Aside0 (Kd.R k63 63 wc w.heap.size (fun _ => True) u9 x9_16) ∧ Aside0 (Below w.heap.size w wc))
                                case first =>
                                  have H := HC30.out
                                  clear HC30
                                  by_cases c31 : x58_27 = true
                                  · subst c31
                                    have H1 : (if 0 ≤ (wrap64 (x6_1 + 1)) then (if (wrap64 (x6_1 + 1)) < (a0.size : Int) then (patchworkref1_Glob.j3 kj27 a0 a1 x5_1 x6_1 y166 (wrap64 (x6_1 + 2)) x9_16 x10_16 x11_16 (bt a0 (wrap64 (x6_1 + 1)))) else (none)) else (none)) = some r := by rw [if_pos rfl] at H; exact H
                                    clear H
                                    have H := H1
                                    clear H1
                                    obtain ⟨ji32, hji32⟩ : ∃ j_ : Int, (wrap64 (x6_1 + 1)) = j_ := ⟨_, rfl⟩
                                    replace H : (if 0 ≤ (ji32) then (if (ji32) < (a0.size : Int) then (patchworkref1_Glob.j3 kj27 a0 a1 x5_1 x6_1 y166 (wrap64 (x6_1 + 2)) x9_16 x10_16 x11_16 (bt a0 (ji32))) else (none)) else (none)) = some r := by first | (rw [hji32] at H; exact H) | (simp only [hji32] at H ⊢; exact H)
                                    have hji32w : (IntKind.i64.wrap (x6_1 + 1)) = ji32 := (i64_w _).trans hji32
                                    by_cases c33 : 0 ≤ (ji32)
                                    · rw [if_pos c33] at H
                                      have c33b0 : decide (0 ≤ (ji32)) = true := decide_eq_true c33
                                      clear c33
                                      (first | rw [c33b0] | (simp only [i64_w, i32_w]; rw [c33b0]) | skip)
                                      by_cases c34 : (ji32) < (a0.size : Int)
                                      · rw [if_pos c34] at H
                                        have c34b0 : decide ((ji32) < (a0.size : Int)) = true := decide_eq_true c34
                                        clear c34
                                        have H' := Aside0.mk H
                                        clear H
                                        have p35 : 0 ≤ ((ji32) : Int) := of_decide_eq_true (by first | (with_reducible assumption) | assumption)
                                        have q35 : (ji32) < (a0.size : Int) := of_decide_eq_true (by first | (with_reducible assumption) | assumption)
                                        have hx35 := bt_at a0 (ji32)
                                        replace p35 := eq_true p35
                                        replace q35 := eq_true q35
                                        go_wp2
                                        (first | go_meet | (simp only [← hji3, ← hji32]; go_meet) | (simp only [← hji3]; go_meet) | (simp only [← hji32]; go_meet))
                                        case rel => exact ⟨_, (wrap64 (x6_1 + 2)), (bt a0 (ji32)), (by first | rfl | (simp; done) | (simp [*]; done)), (by first | rfl | (simp; done) | (simp only [← hji32] <;> (first | rfl | simp)) | (simp [*]; done)), (by first | (with_reducible exact H') | (simp only [hji3, hji32]; with_reducible exact H') | (simp only [hji3, hji32] at H' ⊢; with_reducible exact H') | exact H'), ⟨by have := HK1.out; have := HJ16.out; have := HJ27.out; first | omega | exact Nat.le_refl _⟩, ⟨by (with_reducible repeat (first | apply Kd.R_alloc | apply Kd.R_drewN | apply Kd.R_drew)); exact HO_5.out⟩, ⟨by (with_reducible repeat (first | apply Kd.R_alloc | apply Kd.R_drewN | apply Kd.R_drew)); exact HO_7.out⟩, ⟨by (with_reducible repeat (first | apply Kd.R_alloc | apply Kd.R_drewN | apply Kd.R_drew)); exact HO_9.out⟩, ⟨by repeat (first | (with_reducible first | exact HB.out | apply below_alloc | apply pw_below_drewN | apply below_drew1) | exact HB.out)⟩⟩
                                      · rw [if_neg c34] at H
                                        exact absurd H (by simp)
                                    · rw [if_neg c33] at H
                                      exact absurd H (by simp)
                                  · replace c31 := Bool.eq_false_iff.mpr c31
                                    subst c31
                                    have H1 : (patchworkref1_Glob.j3 kj27 a0 a1 x5_1 x6_1 y166 x8_16 x9_16 x10_16 x11_16 (bt a0 x6_1)) = some r := by rw [if_neg (show ¬ (false = true) by decide)] at H; exact H
                                    clear H
                                    have H := H1
                                    clear H1
                                    have H' := Aside0.mk H
                                    clear H
                                    go_wp2
                                    (first | go_meet | (simp only [← hji3]; go_meet))
                                    case rel => exact ⟨_, (x8_16), ((bt a0 x6_1)), (by first | rfl | (simp; done) | (simp [*]; done)), (by first | rfl | (simp; done) | (simp [*]; done)), (by first | (with_reducible exact H') | (simp only [hji3]; with_reducible exact H') | (simp only [hji3] at H' ⊢; with_reducible exact H') | exact H'), ⟨by have := HK1.out; have := HJ16.out; have := HJ27.out; first | omega | exact Nat.le_refl _⟩, ⟨by (with_reducible repeat (first | apply Kd.R_alloc | apply Kd.R_drewN | apply Kd.R_drew)); exact HO_5.out⟩, ⟨by (with_reducible repeat (first | apply Kd.R_alloc | apply Kd.R_drewN | apply Kd.R_drew)); exact HO_7.out⟩, ⟨by (with_reducible repeat (first | apply Kd.R_alloc | apply Kd.R_drewN | apply Kd.R_drew)); exact HO_9.out⟩, ⟨by repeat (first | (with_reducible first | exact HB.out | apply below_alloc | apply pw_below_drewN | apply below_drew1) | exact HB.out)⟩⟩
                                case rest =>
                                  clear HC30
                                  try clear c1
                                  try clear p1
                                  try clear q1
                                  try clear hx1
                                  try clear c2
                                  try clear p2
                                  try clear q2
                                  try clear hx2
                                  try clear c3
                                  try clear p3
                                  try clear q3
                                  try clear hx3
                                  try clear c4
                                  try clear c4b0
                                  try clear c4b1
                                  try clear c5
                                  try clear c5b0
                                  try clear c5b1
                                  try clear c6
                                  try clear c6b0
                                  try clear c6b1
                                  try clear p6
                                  try clear p7
                                  try clear q7
                                  try clear hx7
                                  try clear qi7
                                  try clear hf7
                                  try clear c12
                                  try clear c12b0
                                  try clear c13
                                  try clear c13b0
                                  try clear c13b1
                                  try clear c14
                                  try clear c14b0
                                  try clear c14b1
                                  try clear c15
                                  try clear c15b0
                                  try clear p16
                                  try clear q16
                                  try clear hx16
                                  try clear c20
                                  try clear c20b0
                                  try clear c20b1
                                  try clear c22
                                  try clear c25
                                  try clear c25b0
                                  try clear c26
                                  try clear c26b0
                                  try clear p27
                                  try clear q27
                                  try clear hx27
                                  try clear c29
                                  try clear c29b0
                                  try clear c29b1
                                  try clear c31
                                  try clear c33
                                  try clear c33b0
                                  try clear c34
                                  try clear c34b0
                                  try clear p35
                                  try clear q35
                                  try clear hx35
                                  try clear hx7_0
                                  try clear p1
                                  try clear p16
                                  try clear p2
                                  try clear p27
                                  try clear p35
                                  try clear p6
                                  try clear p7
                                  try clear q1
                                  try clear q16
                                  try clear q2
                                  try clear q27
                                  try clear q35
                                  try clear q7
                                  obtain ⟨kq, x8_29, x12_29, rfl, rfl, HA, HJ29, HO_5, HO_7, HO_9, HB⟩ := hcut
                                  cases kq with
                                  | zero => exact absurd HA.out (by simp [patchworkref1_Glob.j3])
                                  | succ kj29 =>
                                    have H := HA.out
                                    clear HA
                                    simp only [patchworkref1_Glob.j3] at H
                                    have H' := Aside0.mk H
                                    clear H
                                    go_wp2
                                    go_loopg [13] kj29 (fun kq v13 w' => ∃ (x7_5 : List Bool) (x13_5 : Int), v13 = .int .i64 x13_5 ∧ Aside0 (patchworkref1_Glob.l1 kq a0 a1 x5_1 x6_1 x7_5 x8_29 x9_16 x10_16 x11_16 x12_29 x13_5 = some r) ∧ Aside0 (kq ≤ kj29) ∧ Aside0 (Kd.R Kd.bool 4 w' w.heap.size (fun k_ => some k_ ≠ (v167 : Value).ownBlock) u5 x5_1) ∧ Aside0 (Kd.R Kd.bool 4 w' w.heap.size (fun k_ => some k_ ≠ (u5 : Value).ownBlock) v167 x7_5) ∧ Aside0 (Kd.R k63 63 w' w.heap.size (fun _ => True) u9 x9_16) ∧ Aside0 (Below w.heap.size w w'))
                                    case atStart => exact ⟨(y166), (0), (by first | rfl | (simp; done) | (simp [*]; done)), (by first | (with_reducible exact H') | (simp only [hji3]; with_reducible exact H') | (simp only [hji3] at H' ⊢; with_reducible exact H') | exact H'), ⟨Nat.le_refl _⟩, ⟨by (with_reducible repeat (first | apply Kd.R_alloc | apply Kd.R_drewN | apply Kd.R_drew)); exact HO_5.out⟩, ⟨by (with_reducible repeat (first | apply Kd.R_alloc | apply Kd.R_drewN | apply Kd.R_drew)); exact HO_7.out⟩, ⟨by (with_reducible repeat (first | apply Kd.R_alloc | apply Kd.R_drewN | apply Kd.R_drew)); exact HO_9.out⟩, ⟨by repeat (first | (with_reducible first | exact HB.out | apply below_alloc | apply pw_below_drewN | apply below_drew1) | exact HB.out)⟩⟩
                                    case round =>
                                      clear H'
                                      try clear c1
                                      try clear p1
                                      try clear q1
                                      try clear hx1
                                      try clear c2
                                      try clear p2
                                      try clear q2
                                      try clear hx2
                                      try clear c3
                                      try clear p3
                                      try clear q3
                                      try clear hx3
                                      try clear c4
                                      try clear c4b0
                                      try clear c4b1
                                      try clear c5
                                      try clear c5b0
                                      try clear c5b1
                                      try clear c6
                                      try clear c6b0
                                      try clear c6b1
                                      try clear p6
                                      try clear p7
                                      try clear q7
                                      try clear hx7
                                      try clear qi7
                                      try clear hf7
                                      try clear c12
                                      try clear c12b0
                                      try clear c13
                                      try clear c13b0
                                      try clear c13b1
                                      try clear c14
                                      try clear c14b0
                                      try clear c14b1
                                      try clear c15
                                      try clear c15b0
                                      try clear p16
                                      try clear q16
                                      try clear hx16
                                      try clear c20
                                      try clear c20b0
                                      try clear c20b1
                                      try clear c22
                                      try clear c25
                                      try clear c25b0
                                      try clear c26
                                      try clear c26b0
                                      try clear p27
                                      try clear q27
                                      try clear hx27
                                      try clear c29
                                      try clear c29b0
                                      try clear c29b1
                                      try clear c31
                                      try clear c33
                                      try clear c33b0
                                      try clear c34
                                      try clear c34b0
                                      try clear p35
                                      try clear q35
                                      try clear hx35
                                      try clear hx7_0
                                      try clear p1
                                      try clear p16
                                      try clear p2
                                      try clear p27
                                      try clear p3
                                      try clear p35
                                      try clear p6
                                      try clear p7
                                      try clear q1
                                      try clear q16
                                      try clear q2
                                      try clear q27
                                      try clear q3
                                      try clear q35
                                      try clear q7
                                      obtain ⟨x7_5, x13_5, rfl, HA, HK5, HO_5, HO_7, HO_9, HB⟩ := hrel
                                      cases gk with
                                      | zero => exact absurd HA.out (by simp [patchworkref1_Glob.l1])
                                      | succ k5 =>
                                        have H := HA.out
                                        clear HA
                                        simp only [patchworkref1_Glob.l1] at H
                                        by_cases c36 : x13_5 ≤ (a1.size : Int)
                                        · rw [if_pos c36] at H
                                          have c36b0 : decide (x13_5 ≤ (a1.size : Int)) = true := decide_eq_true c36
                                          clear c36
                                          by_cases c37 : 0 ≤ x6_1
                                          · rw [if_pos c37] at H
                                            have c37b0 : decide (0 ≤ x6_1) = true := decide_eq_true c37
                                            clear c37
                                            by_cases c38 : x6_1 < (a0.size : Int)
                                            · rw [if_pos c38] at H
                                              have c38b0 : decide (x6_1 < (a0.size : Int)) = true := decide_eq_true c38
                                              clear c38
                                              by_cases c40 : (bt a0 x6_1) = 42
                                              · rw [if_pos c40] at H
                                                have c40b0 : ((bt a0 x6_1) == 42) = true := beq_iff_eq.mpr c40
                                                have c40b1 : ((bt a0 x6_1) != 42) = false := bne_eq_false_iff_eq.mpr c40
                                                clear c40
                                                by_cases c41 : 0 ≤ x13_5
                                                · rw [if_pos c41] at H
                                                  have c41b0 : decide (0 ≤ x13_5) = true := decide_eq_true c41
                                                  clear c41
                                                  by_cases c42 : x13_5 < (x7_5.length : Int)
                                                  · rw [if_pos c42] at H
                                                    have c42b0 : decide (x13_5 < (x7_5.length : Int)) = true := decide_eq_true c42
                                                    clear c42
                                                    obtain ⟨bq43, hbq43⟩ : ∃ b_ : Bool, b_ = (rdOf false x7_5 x13_5) := ⟨_, rfl⟩
                                                    replace H : (if bq43 = true then (patchworkref1_Glob.l1 k5 a0 a1 x5_1 x6_1 (x7_5.set (x13_5 : Int).toNat true) x8_29 x9_16 x10_16 x11_16 x12_29 (wrap64 (x13_5 + 1))) else (if x13_5 < (x5_1.length : Int) then (if rdOf false x5_1 x13_5 = true then (patchworkref1_Glob.l1 k5 a0 a1 x5_1 x6_1 (x7_5.set (x13_5 : Int).toNat true) x8_29 x9_16 x10_16 x11_16 x12_29 (wrap64 (x13_5 + 1))) else (if x13_5 > 0 then (if 0 ≤ (wrap64 (x13_5 - 1)) then (if (wrap64 (x13_5 - 1)) < (x7_5.length : Int) then (if rdOf false x7_5 (wrap64 (x13_5 - 1)) = true then (if (wrap64 (x13_5 - 1)) < (a1.size : Int) then (patchworkref1_Glob.l1 k5 a0 a1 x5_1 x6_1 (x7_5.set (x13_5 : Int).toNat ((bt a1 (wrap64 (x13_5 - 1))) != 47)) x8_29 x9_16 x10_16 x11_16 x12_29 (wrap64 (x13_5 + 1))) else (none)) else (patchworkref1_Glob.l1 k5 a0 a1 x5_1 x6_1 (x7_5.set (x13_5 : Int).toNat false) x8_29 x9_16 x10_16 x11_16 x12_29 (wrap64 (x13_5 + 1)))) else (none)) else (none)) else (patchworkref1_Glob.l1 k5 a0 a1 x5_1 x6_1 (x7_5.set (x13_5 : Int).toNat false) x8_29 x9_16 x10_16 x11_16 x12_29 (wrap64 (x13_5 + 1))))) else (none))) = some r := by rw [← hbq43] at H; exact H
                                                    have Nbq43 := Aside0.mk hbq43
                                                    clear hbq43
                                                    by_cases c44 : bq43 = true
                                                    · subst c44
                                                      have H1 : (patchworkref1_Glob.l1 k5 a0 a1 x5_1 x6_1 (x7_5.set (x13_5 : Int).toNat true) x8_29 x9_16 x10_16 x11_16 x12_29 (wrap64 (x13_5 + 1))) = some r := by rw [if_pos rfl] at H; exact H
                                                      clear H
                                                      have H := H1
                                                      clear H1
                                                      obtain ⟨y176, hy176⟩ : ∃ y_ : List Bool, y_ = (x7_5.set (x13_5 : Int).toNat true) := ⟨_, rfl⟩
                                                      replace H : (patchworkref1_Glob.l1 k5 a0 a1 x5_1 x6_1 y176 x8_29 x9_16 x10_16 x11_16 x12_29 (wrap64 (x13_5 + 1))) = some r := by first | (rw [hy176]; with_reducible exact H) | (have H2_ := (Option.bind_some _ _).symm.trans H; rw [hy176]; with_reducible exact H2_) | (have H2_ := (Option.bind_some _ _).symm.trans H; with_reducible exact H2_) | with_reducible exact H | (rw [hy176]; exact H) | exact H
                                                      have Ny176 := Aside0.mk hy176
                                                      clear hy176
                                                      have H' := Aside0.mk H
                                                      clear H
                                                      have p39 : 0 ≤ (x6_1 : Int) := of_decide_eq_true (by first | (with_reducible assumption) | assumption)
                                                      have q39 : x6_1 < (a0.size : Int) := of_decide_eq_true (by first | (with_reducible assumption) | assumption)
                                                      have hx39 := bt_at a0 x6_1
                                                      replace p39 := eq_true p39
                                                      replace q39 := eq_true q39
                                                      obtain ⟨Ao46, co46, eo46⟩ := Kd.R_slice HO_7.out
                                                      subst eo46
                                                      have p175 : 0 ≤ (x13_5 : Int) := of_decide_eq_true (by first | (with_reducible assumption) | assumption)
                                                      have q175 : x13_5 < (x7_5.length : Int) := of_decide_eq_true (by first | (with_reducible assumption) | assumption)
                                                      obtain ⟨ad175, e175, hx175_0⟩ := Kd.at_bool (Kd.R_reads' HO_7.out).2.2 x13_5 p175 q175
                                                      (try rw [← Nbq43.out] at hx175_0)
                                                      cases e175
                                                      replace p175 := eq_true p175
                                                      replace q175 := eq_true q175
                                                      have p45 : 0 ≤ (x13_5 : Int) := of_decide_eq_true (by first | (with_reducible assumption) | assumption)
                                                      have q45 : (x13_5 : Int) < ((x7_5.length : Int) : Int) := of_decide_eq_true (by first | (with_reducible assumption) | assumption)
                                                      obtain ⟨go45, co45, eo45, gb45, gl45, cl45, HG45⟩ := Kd.R_form HO_7.out (by omega)
                                                      (first | cases eo45 | (injection eo45 with ea_ en_ ec_; (first | subst ea_ | (injection ea_ with ea_; subst ea_)); subst ec_; clear en_))
                                                      have GB45 := Aside0.mk gb45
                                                      have GG45 := Aside0.mk HG45
                                                      clear gb45 gl45 HG45
                                                      (first | simp only [add_plain] at hx175_0 | skip)
                                                      obtain ⟨hx45_0, hf45_0⟩ := Kd.R_celln false HO_7.out (x13_5 : Int) p45 q45
                                                      replace p45 := eq_true p45
                                                      replace q45 := eq_true q45
                                                      have HP47 := Kd.R_putg HO_7.out (x13_5 : Int) true
                                                      go_wp2_with (first | ((with_reducible refine gate_store (t := 4) (p := 115) rfl ?_); refine store_event (t := 4) (p := 115) (v := ?vo_w48) (w1 := (wr.setCell ⟨go45, (x13_5 : Int).toNat, none⟩ (.bool true))) ?hg ?ho ?hn ?hr ?_; (case ho => rfl); (case hg => rfl); (case hn => rfl); (case hr => first | (go_simp; done) | (go_simp; rfl)); intro w48 hw; have hg : wr.grownBy w48 (some go45) := (by rw [hw]; exact HP47.2); have hp_ : Kd.R Kd.bool 4 w48 w.heap.size (fun k_ => some k_ ≠ (u5 : Value).ownBlock) (.slice (some ⟨go45, 0, none⟩) x7_5.length co46) y176 := (by rw [hw, Ny176.out]; exact HP47.1); clear HP47; have n0_ := Aside0.mk (Kd.R_after (v := (.slice (some ⟨go45, 0, none⟩) x7_5.length co46)) (v1 := (.slice (some ⟨go45, 0, none⟩) x7_5.length co46)) (ok := (fun _ => True)) (by (with_reducible repeat (first | apply Kd.R_alloc | apply Kd.R_drewN | apply Kd.R_drew)); exact Kd.R_mono HO_5.out (fun _ hk => ⟨trivial, hk⟩)) hg (.inl rfl)); have n1_ := Aside0.mk (hp_); have n2_ := Aside0.mk (Kd.R_over' (v := (.slice (some ⟨go45, 0, none⟩) x7_5.length co46)) (by (with_reducible repeat (first | apply Kd.R_alloc | apply Kd.R_drewN | apply Kd.R_drew)); exact HO_9.out) (Kd.R_typed HO_7.out) (by decide) hg); have n3_ := Aside0.mk ((by rw [hw]; exact below_set (HB.out) GB45.out : Below w.heap.size w w48)); clear HO_5; clear HO_7; clear HO_9; clear HB; have HO_5 := n0_; have HO_7 := n1_; have HO_9 := n2_; have HB := n3_; clear n0_ n1_ n2_ n3_; clear hg hw hp_))
                                                      (first | go_roundg k5 | (simp only [← hji3]; go_roundg k5))
                                                      case measure => have := HK1.out; have := HJ16.out; have := HJ27.out; have := HJ29.out; have := HK5.out; omega
                                                      case rel => exact ⟨(y176), (wrap64 (x13_5 + 1)), (by first | rfl | (simp; done) | (simp [*]; done)), (by first | (with_reducible exact H') | (simp only [hji3]; with_reducible exact H') | (simp only [hji3] at H' ⊢; with_reducible exact H') | exact H'), ⟨by have := HK1.out; have := HJ16.out; have := HJ27.out; have := HJ29.out; have := HK5.out; omega⟩, ⟨by (with_reducible repeat (first | apply Kd.R_alloc | apply Kd.R_drewN | apply Kd.R_drew)); exact Kd.R_mono HO_5.out (fun _ hk => hk.2)⟩, ⟨by (with_reducible repeat (first | apply Kd.R_alloc | apply Kd.R_drewN | apply Kd.R_drew)); exact HO_7.out⟩, ⟨by (with_reducible repeat (first | apply Kd.R_alloc | apply Kd.R_drewN | apply Kd.R_drew)); exact HO_9.out⟩, ⟨by repeat (first | (with_reducible first | exact HB.out | apply below_alloc | apply pw_below_drewN | apply below_drew1) | exact HB.out)⟩⟩
                                                    · replace c44 := Bool.eq_false_iff.mpr c44
                                                      subst c44
                                                      have H1 : (if x13_5 < (x5_1.length : Int) then (if rdOf false x5_1 x13_5 = true then (patchworkref1_Glob.l1 k5 a0 a1 x5_1 x6_1 (x7_5.set (x13_5 : Int).toNat true) x8_29 x9_16 x10_16 x11_16 x12_29 (wrap64 (x13_5 + 1))) else (if x13_5 > 0 then (if 0 ≤ (wrap64 (x13_5 - 1)) then (if (wrap64 (x13_5 - 1)) < (x7_5.length : Int) then (if rdOf false x7_5 (wrap64 (x13_5 - 1)) = true then (if (wrap64 (x13_5 - 1)) < (a1.size : Int) then (patchworkref1_Glob.l1 k5 a0 a1 x5_1 x6_1 (x7_5.set (x13_5 : Int).toNat ((bt a1 (wrap64 (x13_5 - 1))) != 47)) x8_29 x9_16 x10_16 x11_16 x12_29 (wrap64 (x13_5 + 1))) else (none)) else (patchworkref1_Glob.l1 k5 a0 a1 x5_1 x6_1 (x7_5.set (x13_5 : Int).toNat false) x8_29 x9_16 x10_16 x11_16 x12_29 (wrap64 (x13_5 + 1)))) else (none)) else (none)) else (patchworkref1_Glob.l1 k5 a0 a1 x5_1 x6_1 (x7_5.set (x13_5 : Int).toNat false) x8_29 x9_16 x10_16 x11_16 x12_29 (wrap64 (x13_5 + 1))))) else (none)) = some r := by rw [if_neg (show ¬ (false = true) by decide)] at H; exact H
                                                      clear H
                                                      have H := H1
                                                      clear H1
                                                      by_cases c49 : x13_5 < (x5_1.length : Int)
                                                      · rw [if_pos c49] at H
                                                        have c49b0 : decide (x13_5 < (x5_1.length : Int)) = true := decide_eq_true c49
                                                        clear c49
                                                        obtain ⟨bq50, hbq50⟩ : ∃ b_ : Bool, b_ = (rdOf false x5_1 x13_5) := ⟨_, rfl⟩
                                                        replace H : (if bq50 = true then (patchworkref1_Glob.l1 k5 a0 a1 x5_1 x6_1 (x7_5.set (x13_5 : Int).toNat true) x8_29 x9_16 x10_16 x11_16 x12_29 (wrap64 (x13_5 + 1))) else (if x13_5 > 0 then (if 0 ≤ (wrap64 (x13_5 - 1)) then (if (wrap64 (x13_5 - 1)) < (x7_5.length : Int) then (if rdOf false x7_5 (wrap64 (x13_5 - 1)) = true then (if (wrap64 (x13_5 - 1)) < (a1.size : Int) then (patchworkref1_Glob.l1 k5 a0 a1 x5_1 x6_1 (x7_5.set (x13_5 : Int).toNat ((bt a1 (wrap64 (x13_5 - 1))) != 47)) x8_29 x9_16 x10_16 x11_16 x12_29 (wrap64 (x13_5 + 1))) else (none)) else (patchworkref1_Glob.l1 k5 a0 a1 x5_1 x6_1 (x7_5.set (x13_5 : Int).toNat false) x8_29 x9_16 x10_16 x11_16 x12_29 (wrap64 (x13_5 + 1)))) else (none)) else (none)) else (patchworkref1_Glob.l1 k5 a0 a1 x5_1 x6_1 (x7_5.set (x13_5 : Int).toNat false) x8_29 x9_16 x10_16 x11_16 x12_29 (wrap64 (x13_5 + 1))))) = some r := by rw [← hbq50] at H; exact H
                                                        have Nbq50 := Aside0.mk hbq50
                                                        clear hbq50
                                                        by_cases c51 : bq50 = true
                                                        · subst c51
                                                          have H1 : (patchworkref1_Glob.l1 k5 a0 a1 x5_1 x6_1 (x7_5.set (x13_5 : Int).toNat true) x8_29 x9_16 x10_16 x11_16 x12_29 (wrap64 (x13_5 + 1))) = some r := by rw [if_pos rfl] at H; exact H
                                                          clear H
                                                          have H := H1
                                                          clear H1
                                                          obtain ⟨y178, hy178⟩ : ∃ y_ : List Bool, y_ = (x7_5.set (x13_5 : Int).toNat true) := ⟨_, rfl⟩
                                                          replace H : (patchworkref1_Glob.l1 k5 a0 a1 x5_1 x6_1 y178 x8_29 x9_16 x10_16 x11_16 x12_29 (wrap64 (x13_5 + 1))) = some r := by first | (rw [hy178]; with_reducible exact H) | (have H2_ := (Option.bind_some _ _).symm.trans H; rw [hy178]; with_reducible exact H2_) | (have H2_ := (Option.bind_some _ _).symm.trans H; with_reducible exact H2_) | with_reducible exact H | (rw [hy178]; exact H) | exact H
                                                          have Ny178 := Aside0.mk hy178
                                                          clear hy178
                                                          have H' := Aside0.mk H
                                                          clear H
                                                          have p39 : 0 ≤ (x6_1 : Int) := of_decide_eq_true (by first | (with_reducible assumption) | assumption)
                                                          have q39 : x6_1 < (a0.size : Int) := of_decide_eq_true (by first | (with_reducible assumption) | assumption)
                                                          have hx39 := bt_at a0 x6_1
                                                          replace p39 := eq_true p39
                                                          replace q39 := eq_true q39
                                                          obtain ⟨Ao53, co53, eo53⟩ := Kd.R_slice HO_7.out
                                                          subst eo53
                                                          have p175 : 0 ≤ (x13_5 : Int) := of_decide_eq_true (by first | (with_reducible assumption) | assumption)
                                                          have q175 : x13_5 < (x7_5.length : Int) := of_decide_eq_true (by first | (with_reducible assumption) | assumption)
                                                          obtain ⟨ad175, e175, hx175_0⟩ := Kd.at_bool (Kd.R_reads' HO_7.out).2.2 x13_5 p175 q175
                                                          (try rw [← Nbq43.out] at hx175_0)
                                                          (try rw [← Nbq50.out] at hx175_0)
                                                          cases e175
                                                          replace p175 := eq_true p175
                                                          replace q175 := eq_true q175
                                                          obtain ⟨Ao54, co54, eo54⟩ := Kd.R_slice HO_5.out
                                                          subst eo54
                                                          have p177 : 0 ≤ (x13_5 : Int) := of_decide_eq_true (by first | (with_reducible assumption) | assumption)
                                                          have q177 : x13_5 < (x5_1.length : Int) := of_decide_eq_true (by first | (with_reducible assumption) | assumption)
                                                          obtain ⟨ad177, e177, hx177_0⟩ := Kd.at_bool (Kd.R_reads' HO_5.out).2.2 x13_5 p177 q177
                                                          (try rw [← Nbq43.out] at hx177_0)
                                                          (try rw [← Nbq50.out] at hx177_0)
                                                          cases e177
                                                          replace p177 := eq_true p177
                                                          replace q177 := eq_true q177
                                                          have p52 : 0 ≤ (x13_5 : Int) := of_decide_eq_true (by first | (with_reducible assumption) | assumption)
                                                          have q52 : (x13_5 : Int) < ((x7_5.length : Int) : Int) := of_decide_eq_true (by first | (with_reducible assumption) | assumption)
                                                          obtain ⟨go52, co52, eo52, gb52, gl52, cl52, HG52⟩ := Kd.R_form HO_7.out (by omega)
                                                          (first | cases eo52 | (injection eo52 with ea_ en_ ec_; (first | subst ea_ | (injection ea_ with ea_; subst ea_)); subst ec_; clear en_))
                                                          have GB52 := Aside0.mk gb52
                                                          have GG52 := Aside0.mk HG52
                                                          clear gb52 gl52 HG52
                                                          (first | simp only [add_plain] at hx175_0 | skip)
                                                          obtain ⟨hx52_0, hf52_0⟩ := Kd.R_celln false HO_7.out (x13_5 : Int) p52 q52
                                                          replace p52 := eq_true p52
                                                          replace q52 := eq_true q52
                                                          have HP55 := Kd.R_putg HO_7.out (x13_5 : Int) true
                                                          go_wp2_with (first | ((with_reducible refine gate_store (t := 4) (p := 115) rfl ?_); refine store_event (t := 4) (p := 115) (v := ?vo_w56) (w1 := (wr.setCell ⟨go52, (x13_5 : Int).toNat, none⟩ (.bool true))) ?hg ?ho ?hn ?hr ?_; (case ho => rfl); (case hg => rfl); (case hn => rfl); (case hr => first | (go_simp; done) | (go_simp; rfl)); intro w56 hw; have hg : wr.grownBy w56 (some go52) := (by rw [hw]; exact HP55.2); have hp_ : Kd.R Kd.bool 4 w56 w.heap.size (fun k_ => some k_ ≠ (.slice (some ad177) x5_1.length co54 : Value).ownBlock) (.slice (some ⟨go52, 0, none⟩) x7_5.length co53) y178 := (by rw [hw, Ny178.out]; exact HP55.1); clear HP55; have n0_ := Aside0.mk (Kd.R_after (v := (.slice (some ⟨go52, 0, none⟩) x7_5.length co53)) (v1 := (.slice (some ⟨go52, 0, none⟩) x7_5.length co53)) (ok := (fun _ => True)) (by (with_reducible repeat (first | apply Kd.R_alloc | apply Kd.R_drewN | apply Kd.R_drew)); exact Kd.R_mono HO_5.out (fun _ hk => ⟨trivial, hk⟩)) hg (.inl rfl)); have n1_ := Aside0.mk (hp_); have n2_ := Aside0.mk (Kd.R_over' (v := (.slice (some ⟨go52, 0, none⟩) x7_5.length co53)) (by (with_reducible repeat (first | apply Kd.R_alloc | apply Kd.R_drewN | apply Kd.R_drew)); exact HO_9.out) (Kd.R_typed HO_7.out) (by decide) hg); have n3_ := Aside0.mk ((by rw [hw]; exact below_set (HB.out) GB52.out : Below w.heap.size w w56)); clear HO_5; clear HO_7; clear HO_9; clear HB; have HO_5 := n0_; have HO_7 := n1_; have HO_9 := n2_; have HB := n3_; clear n0_ n1_ n2_ n3_; clear hg hw hp_))
                                                          (first | go_roundg k5 | (simp only [← hji3]; go_roundg k5))
                                                          case measure => have := HK1.out; have := HJ16.out; have := HJ27.out; have := HJ29.out; have := HK5.out; omega
                                                          case rel => exact ⟨(y178), (wrap64 (x13_5 + 1)), (by first | rfl | (simp; done) | (simp [*]; done)), (by first | (with_reducible exact H') | (simp only [hji3]; with_reducible exact H') | (simp only [hji3] at H' ⊢; with_reducible exact H') | exact H'), ⟨by have := HK1.out; have := HJ16.out; have := HJ27.out; have := HJ29.out; have := HK5.out; omega⟩, ⟨by (with_reducible repeat (first | apply Kd.R_alloc | apply Kd.R_drewN | apply Kd.R_drew)); exact Kd.R_mono HO_5.out (fun _ hk => hk.2)⟩, ⟨by (with_reducible repeat (first | apply Kd.R_alloc | apply Kd.R_drewN | apply Kd.R_drew)); exact HO_7.out⟩, ⟨by (with_reducible repeat (first | apply Kd.R_alloc | apply Kd.R_drewN | apply Kd.R_drew)); exact HO_9.out⟩, ⟨by repeat (first | (with_reducible first | exact HB.out | apply below_alloc | apply pw_below_drewN | apply below_drew1) | exact HB.out)⟩⟩
                                                        · replace c51 := Bool.eq_false_iff.mpr c51
                                                          subst c51
                                                          have H1 : (if x13_5 > 0 then (if 0 ≤ (wrap64 (x13_5 - 1)) then (if (wrap64 (x13_5 - 1)) < (x7_5.length : Int) then (if rdOf false x7_5 (wrap64 (x13_5 - 1)) = true then (if (wrap64 (x13_5 - 1)) < (a1.size : Int) then (patchworkref1_Glob.l1 k5 a0 a1 x5_1 x6_1 (x7_5.set (x13_5 : Int).toNat ((bt a1 (wrap64 (x13_5 - 1))) != 47)) x8_29 x9_16 x10_16 x11_16 x12_29 (wrap64 (x13_5 + 1))) else (none)) else (patchworkref1_Glob.l1 k5 a0 a1 x5_1 x6_1 (x7_5.set (x13_5 : Int).toNat false) x8_29 x9_16 x10_16 x11_16 x12_29 (wrap64 (x13_5 + 1)))) else (none)) else (none)) else (patchworkref1_Glob.l1 k5 a0 a1 x5_1 x6_1 (x7_5.set (x13_5 : Int).toNat false) x8_29 x9_16 x10_16 x11_16 x12_29 (wrap64 (x13_5 + 1)))) = some r := by rw [if_neg (show ¬ (false = true) by decide)] at H; exact H
                                                          clear H
                                                          have H := H1
                                                          clear H1
                                                          by_cases c57 : x13_5 > 0
                                                          · rw [if_pos c57] at H
                                                            have c57b0 : decide (0 < x13_5) = true := decide_eq_true c57
                                                            clear c57
                                                            obtain ⟨ji58, hji58⟩ : ∃ j_ : Int, (wrap64 (x13_5 - 1)) = j_ := ⟨_, rfl⟩
                                                            replace H : (if 0 ≤ (ji58) then (if (ji58) < (x7_5.length : Int) then (if rdOf false x7_5 (ji58) = true then (if (ji58) < (a1.size : Int) then (patchworkref1_Glob.l1 k5 a0 a1 x5_1 x6_1 (x7_5.set (x13_5 : Int).toNat ((bt a1 (ji58)) != 47)) x8_29 x9_16 x10_16 x11_16 x12_29 (wrap64 (x13_5 + 1))) else (none)) else (patchworkref1_Glob.l1 k5 a0 a1 x5_1 x6_1 (x7_5.set (x13_5 : Int).toNat false) x8_29 x9_16 x10_16 x11_16 x12_29 (wrap64 (x13_5 + 1)))) else (none)) else (none)) = some r := by first | (rw [hji58] at H; exact H) | (simp only [hji58] at H ⊢; exact H)
                                                            have hji58w : (IntKind.i64.wrap (x13_5 - 1)) = ji58 := (i64_w _).trans hji58
                                                            by_cases c59 : 0 ≤ (ji58)
                                                            · rw [if_pos c59] at H
                                                              have c59b0 : decide (0 ≤ (ji58)) = true := decide_eq_true c59
                                                              clear c59
                                                              by_cases c60 : (ji58) < (x7_5.length : Int)
                                                              · rw [if_pos c60] at H
                                                                have c60b0 : decide ((ji58) < (x7_5.length : Int)) = true := decide_eq_true c60
                                                                clear c60
                                                                obtain ⟨bq61, hbq61⟩ : ∃ b_ : Bool, b_ = (rdOf false x7_5 (ji58)) := ⟨_, rfl⟩
                                                                replace H : (if bq61 = true then (if (ji58) < (a1.size : Int) then (patchworkref1_Glob.l1 k5 a0 a1 x5_1 x6_1 (x7_5.set (x13_5 : Int).toNat ((bt a1 (ji58)) != 47)) x8_29 x9_16 x10_16 x11_16 x12_29 (wrap64 (x13_5 + 1))) else (none)) else (patchworkref1_Glob.l1 k5 a0 a1 x5_1 x6_1 (x7_5.set (x13_5 : Int).toNat false) x8_29 x9_16 x10_16 x11_16 x12_29 (wrap64 (x13_5 + 1)))) = some r := by rw [← hbq61] at H; exact H
                                                                have Nbq61 := Aside0.mk hbq61
                                                                clear hbq61
                                                                by_cases c62 : bq61 = true
                                                                · subst c62
                                                                  have H1 : (if (ji58) < (a1.size : Int) then (patchworkref1_Glob.l1 k5 a0 a1 x5_1 x6_1 (x7_5.set (x13_5 : Int).toNat ((bt a1 (ji58)) != 47)) x8_29 x9_16 x10_16 x11_16 x12_29 (wrap64 (x13_5 + 1))) else (none)) = some r := by rw [if_pos rfl] at H; exact H
                                                                  clear H
                                                                  have H := H1
                                                                  clear H1
                                                                  by_cases c63 : (ji58) < (a1.size : Int)
                                                                  · rw [if_pos c63] at H
                                                                    have c63b0 : decide ((ji58) < (a1.size : Int)) = true := decide_eq_true c63
                                                                    clear c63
                                                                    obtain ⟨y180, hy180⟩ : ∃ y_ : List Bool, y_ = (x7_5.set (x13_5 : Int).toNat ((bt a1 (ji58)) != 47)) := ⟨_, rfl⟩
                                                                    replace H : (patchworkref1_Glob.l1 k5 a0 a1 x5_1 x6_1 y180 x8_29 x9_16 x10_16 x11_16 x12_29 (wrap64 (x13_5 + 1))) = some r := by first | (rw [hy180]; with_reducible exact H) | (have H2_ := (Option.bind_some _ _).symm.trans H; rw [hy180]; with_reducible exact H2_) | (have H2_ := (Option.bind_some _ _).symm.trans H; with_reducible exact H2_) | with_reducible exact H | (rw [hy180]; exact H) | exact H
                                                                    have Ny180 := Aside0.mk hy180
                                                                    clear hy180
                                                                    have H' := Aside0.mk H
                                                                    clear H
                                                                    have p39 : 0 ≤ (x6_1 : Int) := of_decide_eq_true (by first | (with_reducible assumption) | assumption)
                                                                    have q39 : x6_1 < (a0.size : Int) := of_decide_eq_true (by first | (with_reducible assumption) | assumption)
                                                                    have hx39 := bt_at a0 x6_1
                                                                    replace p39 := eq_true p39
                                                                    replace q39 := eq_true q39
                                                                    obtain ⟨Ao66, co66, eo66⟩ := Kd.R_slice HO_7.out
                                                                    subst eo66
                                                                    have p175 : 0 ≤ (x13_5 : Int) := of_decide_eq_true (by first | (with_reducible assumption) | assumption)
                                                                    have q175 : x13_5 < (x7_5.length : Int) := of_decide_eq_true (by first | (with_reducible assumption) | assumption)
                                                                    obtain ⟨ad175, e175, hx175_0⟩ := Kd.at_bool (Kd.R_reads' HO_7.out).2.2 x13_5 p175 q175
                                                                    (try rw [← Nbq43.out] at hx175_0)
                                                                    (try rw [← Nbq50.out] at hx175_0)
                                                                    (try rw [← Nbq61.out] at hx175_0)
                                                                    cases e175
                                                                    replace p175 := eq_true p175
                                                                    replace q175 := eq_true q175
                                                                    obtain ⟨Ao67, co67, eo67⟩ := Kd.R_slice HO_5.out
                                                                    subst eo67
                                                                    have p177 : 0 ≤ (x13_5 : Int) := of_decide_eq_true (by first | (with_reducible assumption) | assumption)
                                                                    have q177 : x13_5 < (x5_1.length : Int) := of_decide_eq_true (by first | (with_reducible assumption) | assumption)
                                                                    obtain ⟨ad177, e177, hx177_0⟩ := Kd.at_bool (Kd.R_reads' HO_5.out).2.2 x13_5 p177 q177
                                                                    (try rw [← Nbq43.out] at hx177_0)
                                                                    (try rw [← Nbq50.out] at hx177_0)
                                                                    (try rw [← Nbq61.out] at hx177_0)
                                                                    cases e177
                                                                    replace p177 := eq_true p177
                                                                    replace q177 := eq_true q177
                                                                    have p179 : 0 ≤ ((ji58) : Int) := of_decide_eq_true (by first | (with_reducible assumption) | assumption)
                                                                    have q179 : (ji58) < (x7_5.length : Int) := of_decide_eq_true (by first | (with_reducible assumption) | assumption)
                                                                    obtain ⟨ad179, e179, hx179_0⟩ := Kd.at_bool (Kd.R_reads' HO_7.out).2.2 (ji58) p179 q179
                                                                    (try rw [← Nbq43.out] at hx179_0)
                                                                    (try rw [← Nbq50.out] at hx179_0)
                                                                    (try rw [← Nbq61.out] at hx179_0)
                                                                    obtain rfl : ad175 = ad179 := (by injection e179)
                                                                    replace p179 := eq_true p179
                                                                    replace q179 := eq_true q179
                                                                    have p64 : 0 ≤ ((ji58) : Int) := of_decide_eq_true (by first | (with_reducible assumption) | assumption)
                                                                    have q64 : (ji58) < (a1.size : Int) := of_decide_eq_true (by first | (with_reducible assumption) | assumption)
                                                                    have hx64 := bt_at a1 (ji58)
                                                                    replace p64 := eq_true p64
                                                                    replace q64 := eq_true q64
                                                                    have p65 : 0 ≤ (x13_5 : Int) := of_decide_eq_true (by first | (with_reducible assumption) | assumption)
                                                                    have q65 : (x13_5 : Int) < ((x7_5.length : Int) : Int) := of_decide_eq_true (by first | (with_reducible assumption) | assumption)
                                                                    obtain ⟨go65, co65, eo65, gb65, gl65, cl65, HG65⟩ := Kd.R_form HO_7.out (by omega)
                                                                    (first | cases eo65 | (injection eo65 with ea_ en_ ec_; (first | subst ea_ | (injection ea_ with ea_; subst ea_)); subst ec_; clear en_))
                                                                    have GB65 := Aside0.mk gb65
                                                                    have GG65 := Aside0.mk HG65
                                                                    clear gb65 gl65 HG65
                                                                    (first | simp only [add_plain] at hx175_0 | skip)
                                                                    (first | simp only [add_plain] at hx179_0 | skip)
                                                                    obtain ⟨hx65_0, hf65_0⟩ := Kd.R_celln false HO_7.out (x13_5 : Int) p65 q65
                                                                    replace p65 := eq_true p65
                                                                    replace q65 := eq_true q65
                                                                    have HP68 := Kd.R_putg HO_7.out (x13_5 : Int) ((bt a1 (ji58)) != 47)
                                                                    go_wp2_with (first | ((with_reducible refine gate_store (t := 4) (p := 115) rfl ?_); refine store_event (t := 4) (p := 115) (v := ?vo_w69) (w1 := (wr.setCell ⟨go65, (x13_5 : Int).toNat, none⟩ (.bool ((bt a1 (ji58)) != 47)))) ?hg ?ho ?hn ?hr ?_; (case ho => rfl); (case hg => rfl); (case hn => rfl); (case hr => first | (go_simp; done) | (go_simp; rfl)); intro w69 hw; have hg : wr.grownBy w69 (some go65) := (by rw [hw]; exact HP68.2); have hp_ : Kd.R Kd.bool 4 w69 w.heap.size (fun k_ => some k_ ≠ (.slice (some ad177) x5_1.length co67 : Value).ownBlock) (.slice (some ⟨go65, 0, none⟩) x7_5.length co66) y180 := (by rw [hw, Ny180.out]; exact HP68.1); clear HP68; have n0_ := Aside0.mk (Kd.R_after (v := (.slice (some ⟨go65, 0, none⟩) x7_5.length co66)) (v1 := (.slice (some ⟨go65, 0, none⟩) x7_5.length co66)) (ok := (fun _ => True)) (by (with_reducible repeat (first | apply Kd.R_alloc | apply Kd.R_drewN | apply Kd.R_drew)); exact Kd.R_mono HO_5.out (fun _ hk => ⟨trivial, hk⟩)) hg (.inl rfl)); have n1_ := Aside0.mk (hp_); have n2_ := Aside0.mk (Kd.R_over' (v := (.slice (some ⟨go65, 0, none⟩) x7_5.length co66)) (by (with_reducible repeat (first | apply Kd.R_alloc | apply Kd.R_drewN | apply Kd.R_drew)); exact HO_9.out) (Kd.R_typed HO_7.out) (by decide) hg); have n3_ := Aside0.mk ((by rw [hw]; exact below_set (HB.out) GB65.out : Below w.heap.size w w69)); clear HO_5; clear HO_7; clear HO_9; clear HB; have HO_5 := n0_; have HO_7 := n1_; have HO_9 := n2_; have HB := n3_; clear n0_ n1_ n2_ n3_; clear hg hw hp_))
                                                                    (first | go_roundg k5 | (simp only [← hji3, ← hji58]; go_roundg k5) | (simp only [← hji3]; go_roundg k5) | (simp only [← hji58]; go_roundg k5))
                                                                    case measure => have := HK1.out; have := HJ16.out; have := HJ27.out; have := HJ29.out; have := HK5.out; omega
                                                                    case rel => exact ⟨(y180), (wrap64 (x13_5 + 1)), (by first | rfl | (simp; done) | (simp [*]; done)), (by first | (with_reducible exact H') | (simp only [hji3, hji58]; with_reducible exact H') | (simp only [hji3, hji58] at H' ⊢; with_reducible exact H') | exact H'), ⟨by have := HK1.out; have := HJ16.out; have := HJ27.out; have := HJ29.out; have := HK5.out; omega⟩, ⟨by (with_reducible repeat (first | apply Kd.R_alloc | apply Kd.R_drewN | apply Kd.R_drew)); exact Kd.R_mono HO_5.out (fun _ hk => hk.2)⟩, ⟨by (with_reducible repeat (first | apply Kd.R_alloc | apply Kd.R_drewN | apply Kd.R_drew)); exact HO_7.out⟩, ⟨by (with_reducible repeat (first | apply Kd.R_alloc | apply Kd.R_drewN | apply Kd.R_drew)); exact HO_9.out⟩, ⟨by repeat (first | (with_reducible first | exact HB.out | apply below_alloc | apply pw_below_drewN | apply below_drew1) | exact HB.out)⟩⟩
                                                                  · rw [if_neg c63] at H
                                                                    exact absurd H (by simp)
                                                                · replace c62 := Bool.eq_false_iff.mpr c62
                                                                  subst c62
                                                                  have H1 : (patchworkref1_Glob.l1 k5 a0 a1 x5_1 x6_1 (x7_5.set (x13_5 : Int).toNat false) x8_29 x9_16 x10_16 x11_16 x12_29 (wrap64 (x13_5 + 1))) = some r := by rw [if_neg (show ¬ (false = true) by decide)] at H; exact H
                                                                  clear H
                                                                  have H := H1
                                                                  clear H1
                                                                  obtain ⟨y181, hy181⟩ : ∃ y_ : List Bool, y_ = (x7_5.set (x13_5 : Int).toNat false) := ⟨_, rfl⟩
                                                                  replace H : (patchworkref1_Glob.l1 k5 a0 a1 x5_1 x6_1 y181 x8_29 x9_16 x10_16 x11_16 x12_29 (wrap64 (x13_5 + 1))) = some r := by first | (rw [hy181]; with_reducible exact H) | (have H2_ := (Option.bind_some _ _).symm.trans H; rw [hy181]; with_reducible exact H2_) | (have H2_ := (Option.bind_some _ _).symm.trans H; with_reducible exact H2_) | with_reducible exact H | (rw [hy181]; exact H) | exact H
                                                                  have Ny181 := Aside0.mk hy181
                                                                  clear hy181
                                                                  have H' := Aside0.mk H
                                                                  clear H
                                                                  have p39 : 0 ≤ (x6_1 : Int) := of_decide_eq_true (by first | (with_reducible assumption) | assumption)
                                                                  have q39 : x6_1 < (a0.size : Int) := of_decide_eq_true (by first | (with_reducible assumption) | assumption)
                                                                  have hx39 := bt_at a0 x6_1
                                                                  replace p39 := eq_true p39
                                                                  replace q39 := eq_true q39
                                                                  obtain ⟨Ao71, co71, eo71⟩ := Kd.R_slice HO_7.out
                                                                  subst eo71
                                                                  have p175 : 0 ≤ (x13_5 : Int) := of_decide_eq_true (by first | (with_reducible assumption) | assumption)
                                                                  have q175 : x13_5 < (x7_5.length : Int) := of_decide_eq_true (by first | (with_reducible assumption) | assumption)
                                                                  obtain ⟨ad175, e175, hx175_0⟩ := Kd.at_bool (Kd.R_reads' HO_7.out).2.2 x13_5 p175 q175
                                                                  (try rw [← Nbq43.out] at hx175_0)
                                                                  (try rw [← Nbq50.out] at hx175_0)
                                                                  (try rw [← Nbq61.out] at hx175_0)
                                                                  cases e175
                                                                  replace p175 := eq_true p175
                                                                  replace q175 := eq_true q175
                                                                  obtain ⟨Ao72, co72, eo72⟩ := Kd.R_slice HO_5.out
                                                                  subst eo72
                                                                  have p177 : 0 ≤ (x13_5 : Int) := of_decide_eq_true (by first | (with_reducible assumption) | assumption)
                                                                  have q177 : x13_5 < (x5_1.length : Int) := of_decide_eq_true (by first | (with_reducible assumption) | assumption)
                                                                  obtain ⟨ad177, e177, hx177_0⟩ := Kd.at_bool (Kd.R_reads' HO_5.out).2.2 x13_5 p177 q177
                                                                  (try rw [← Nbq43.out] at hx177_0)
                                                                  (try rw [← Nbq50.out] at hx177_0)
                                                                  (try rw [← Nbq61.out] at hx177_0)
                                                                  cases e177
                                                                  replace p177 := eq_true p177
                                                                  replace q177 := eq_true q177
                                                                  have p179 : 0 ≤ ((ji58) : Int) := of_decide_eq_true (by first | (with_reducible assumption) | assumption)
                                                                  have q179 : (ji58) < (x7_5.length : Int) := of_decide_eq_true (by first | (with_reducible assumption) | assumption)
                                                                  obtain ⟨ad179, e179, hx179_0⟩ := Kd.at_bool (Kd.R_reads' HO_7.out).2.2 (ji58) p179 q179
                                                                  (try rw [← Nbq43.out] at hx179_0)
                                                                  (try rw [← Nbq50.out] at hx179_0)
                                                                  (try rw [← Nbq61.out] at hx179_0)
                                                                  obtain rfl : ad175 = ad179 := (by injection e179)
                                                                  replace p179 := eq_true p179
                                                                  replace q179 := eq_true q179
                                                                  have p70 : 0 ≤ (x13_5 : Int) := of_decide_eq_true (by first | (with_reducible assumption) | assumption)
                                                                  have q70 : (x13_5 : Int) < ((x7_5.length : Int) : Int) := of_decide_eq_true (by first | (with_reducible assumption) | assumption)
                                                                  obtain ⟨go70, co70, eo70, gb70, gl70, cl70, HG70⟩ := Kd.R_form HO_7.out (by omega)
                                                                  (first | cases eo70 | (injection eo70 with ea_ en_ ec_; (first | subst ea_ | (injection ea_ with ea_; subst ea_)); subst ec_; clear en_))
                                                                  have GB70 := Aside0.mk gb70
                                                                  have GG70 := Aside0.mk HG70
                                                                  clear gb70 gl70 HG70
                                                                  (first | simp only [add_plain] at hx175_0 | skip)
                                                                  (first | simp only [add_plain] at hx179_0 | skip)
                                                                  obtain ⟨hx70_0, hf70_0⟩ := Kd.R_celln false HO_7.out (x13_5 : Int) p70 q70
                                                                  replace p70 := eq_true p70
                                                                  replace q70 := eq_true q70
                                                                  have HP73 := Kd.R_putg HO_7.out (x13_5 : Int) false
                                                                  go_wp2_with (first | ((with_reducible refine gate_store (t := 4) (p := 115) rfl ?_); refine store_event (t := 4) (p := 115) (v := ?vo_w74) (w1 := (wr.setCell ⟨go70, (x13_5 : Int).toNat, none⟩ (.bool false))) ?hg ?ho ?hn ?hr ?_; (case ho => rfl); (case hg => rfl); (case hn => rfl); (case hr => first | (go_simp; done) | (go_simp; rfl)); intro w74 hw; have hg : wr.grownBy w74 (some go70) := (by rw [hw]; exact HP73.2); have hp_ : Kd.R Kd.bool 4 w74 w.heap.size (fun k_ => some k_ ≠ (.slice (some ad177) x5_1.length co72 : Value).ownBlock) (.slice (some ⟨go70, 0, none⟩) x7_5.length co71) y181 := (by rw [hw, Ny181.out]; exact HP73.1); clear HP73; have n0_ := Aside0.mk (Kd.R_after (v := (.slice (some ⟨go70, 0, none⟩) x7_5.length co71)) (v1 := (.slice (some ⟨go70, 0, none⟩) x7_5.length co71)) (ok := (fun _ => True)) (by (with_reducible repeat (first | apply Kd.R_alloc | apply Kd.R_drewN | apply Kd.R_drew)); exact Kd.R_mono HO_5.out (fun _ hk => ⟨trivial, hk⟩)) hg (.inl rfl)); have n1_ := Aside0.mk (hp_); have n2_ := Aside0.mk (Kd.R_over' (v := (.slice (some ⟨go70, 0, none⟩) x7_5.length co71)) (by (with_reducible repeat (first | apply Kd.R_alloc | apply Kd.R_drewN | apply Kd.R_drew)); exact HO_9.out) (Kd.R_typed HO_7.out) (by decide) hg); have n3_ := Aside0.mk ((by rw [hw]; exact below_set (HB.out) GB70.out : Below w.heap.size w w74)); clear HO_5; clear HO_7; clear HO_9; clear HB; have HO_5 := n0_; have HO_7 := n1_; have HO_9 := n2_; have HB := n3_; clear n0_ n1_ n2_ n3_; clear hg hw hp_))
                                                                  (first | go_roundg k5 | (simp only [← hji3, ← hji58]; go_roundg k5) | (simp only [← hji3]; go_roundg k5) | (simp only [← hji58]; go_roundg k5))
                                                                  case measure => have := HK1.out; have := HJ16.out; have := HJ27.out; have := HJ29.out; have := HK5.out; omega
                                                                  case rel => exact ⟨(y181), (wrap64 (x13_5 + 1)), (by first | rfl | (simp; done) | (simp [*]; done)), (by first | (with_reducible exact H') | (simp only [hji3, hji58]; with_reducible exact H') | (simp only [hji3, hji58] at H' ⊢; with_reducible exact H') | exact H'), ⟨by have := HK1.out; have := HJ16.out; have := HJ27.out; have := HJ29.out; have := HK5.out; omega⟩, ⟨by (with_reducible repeat (first | apply Kd.R_alloc | apply Kd.R_drewN | apply Kd.R_drew)); exact Kd.R_mono HO_5.out (fun _ hk => hk.2)⟩, ⟨by (with_reducible repeat (first | apply Kd.R_alloc | apply Kd.R_drewN | apply Kd.R_drew)); exact HO_7.out⟩, ⟨by (with_reducible repeat (first | apply Kd.R_alloc | apply Kd.R_drewN | apply Kd.R_drew)); exact HO_9.out⟩, ⟨by repeat (first | (with_reducible first | exact HB.out | apply below_alloc | apply pw_below_drewN | apply below_drew1) | exact HB.out)⟩⟩
                                                              · rw [if_neg c60] at H
                                                                exact absurd H (by simp)
                                                            · rw [if_neg c59] at H
                                                              exact absurd H (by simp)
                                                          · rw [if_neg c57] at H
                                                            have c57b0 : decide (0 < x13_5) = false := decide_eq_false c57
                                                            clear c57
                                                            obtain ⟨y182, hy182⟩ : ∃ y_ : List Bool, y_ = (x7_5.set (x13_5 : Int).toNat false) := ⟨_, rfl⟩
                                                            replace H : (patchworkref1_Glob.l1 k5 a0 a1 x5_1 x6_1 y182 x8_29 x9_16 x10_16 x11_16 x12_29 (wrap64 (x13_5 + 1))) = some r := by first | (rw [hy182]; with_reducible exact H) | (have H2_ := (Option.bind_some _ _).symm.trans H; rw [hy182]; with_reducible exact H2_) | (have H2_ := (Option.bind_some _ _).symm.trans H; with_reducible exact H2_) | with_reducible exact H | (rw [hy182]; exact H) | exact H
                                                            have Ny182 := Aside0.mk hy182
                                                            clear hy182
                                                            have H' := Aside0.mk H
                                                            clear H
                                                            have p39 : 0 ≤ (x6_1 : Int) := of_decide_eq_true (by first | (with_reducible assumption) | assumption)
                                                            have q39 : x6_1 < (a0.size : Int) := of_decide_eq_true (by first | (with_reducible assumption) | assumption)
                                                            have hx39 := bt_at a0 x6_1
                                                            replace p39 := eq_true p39
                                                            replace q39 := eq_true q39
                                                            obtain ⟨Ao76, co76, eo76⟩ := Kd.R_slice HO_7.out
                                                            subst eo76
                                                            have p175 : 0 ≤ (x13_5 : Int) := of_decide_eq_true (by first | (with_reducible assumption) | assumption)
                                                            have q175 : x13_5 < (x7_5.length : Int) := of_decide_eq_true (by first | (with_reducible assumption) | assumption)
                                                            obtain ⟨ad175, e175, hx175_0⟩ := Kd.at_bool (Kd.R_reads' HO_7.out).2.2 x13_5 p175 q175
                                                            (try rw [← Nbq43.out] at hx175_0)
                                                            (try rw [← Nbq50.out] at hx175_0)
                                                            cases e175
                                                            replace p175 := eq_true p175
                                                            replace q175 := eq_true q175
                                                            obtain ⟨Ao77, co77, eo77⟩ := Kd.R_slice HO_5.out
                                                            subst eo77
                                                            have p177 : 0 ≤ (x13_5 : Int) := of_decide_eq_true (by first | (with_reducible assumption) | assumption)
                                                            have q177 : x13_5 < (x5_1.length : Int) := of_decide_eq_true (by first | (with_reducible assumption) | assumption)
                                                            obtain ⟨ad177, e177, hx177_0⟩ := Kd.at_bool (Kd.R_reads' HO_5.out).2.2 x13_5 p177 q177
                                                            (try rw [← Nbq43.out] at hx177_0)
                                                            (try rw [← Nbq50.out] at hx177_0)
                                                            cases e177
                                                            replace p177 := eq_true p177
                                                            replace q177 := eq_true q177
                                                            have p75 : 0 ≤ (x13_5 : Int) := of_decide_eq_true (by first | (with_reducible assumption) | assumption)
                                                            have q75 : (x13_5 : Int) < ((x7_5.length : Int) : Int) := of_decide_eq_true (by first | (with_reducible assumption) | assumption)
                                                            obtain ⟨go75, co75, eo75, gb75, gl75, cl75, HG75⟩ := Kd.R_form HO_7.out (by omega)
                                                            (first | cases eo75 | (injection eo75 with ea_ en_ ec_; (first | subst ea_ | (injection ea_ with ea_; subst ea_)); subst ec_; clear en_))
                                                            have GB75 := Aside0.mk gb75
                                                            have GG75 := Aside0.mk HG75
                                                            clear gb75 gl75 HG75
                                                            (first | simp only [add_plain] at hx175_0 | skip)
                                                            obtain ⟨hx75_0, hf75_0⟩ := Kd.R_celln false HO_7.out (x13_5 : Int) p75 q75
                                                            replace p75 := eq_true p75
                                                            replace q75 := eq_true q75
                                                            have HP78 := Kd.R_putg HO_7.out (x13_5 : Int) false
                                                            go_wp2_with (first | ((with_reducible refine gate_store (t := 4) (p := 115) rfl ?_); refine store_event (t := 4) (p := 115) (v := ?vo_w79) (w1 := (wr.setCell ⟨go75, (x13_5 : Int).toNat, none⟩ (.bool false))) ?hg ?ho ?hn ?hr ?_; (case ho => rfl); (case hg => rfl); (case hn => rfl); (case hr => first | (go_simp; done) | (go_simp; rfl)); intro w79 hw; have hg : wr.grownBy w79 (some go75) := (by rw [hw]; exact HP78.2); have hp_ : Kd.R Kd.bool 4 w79 w.heap.size (fun k_ => some k_ ≠ (.slice (some ad177) x5_1.length co77 : Value).ownBlock) (.slice (some ⟨go75, 0, none⟩) x7_5.length co76) y182 := (by rw [hw, Ny182.out]; exact HP78.1); clear HP78; have n0_ := Aside0.mk (Kd.R_after (v := (.slice (some ⟨go75, 0, none⟩) x7_5.length co76)) (v1 := (.slice (some ⟨go75, 0, none⟩) x7_5.length co76)) (ok := (fun _ => True)) (by (with_reducible repeat (first | apply Kd.R_alloc | apply Kd.R_drewN | apply Kd.R_drew)); exact Kd.R_mono HO_5.out (fun _ hk => ⟨trivial, hk⟩)) hg (.inl rfl)); have n1_ := Aside0.mk (hp_); have n2_ := Aside0.mk (Kd.R_over' (v := (.slice (some ⟨go75, 0, none⟩) x7_5.length co76)) (by (with_reducible repeat (first | apply Kd.R_alloc | apply Kd.R_drewN | apply Kd.R_drew)); exact HO_9.out) (Kd.R_typed HO_7.out) (by decide) hg); have n3_ := Aside0.mk ((by rw [hw]; exact below_set (HB.out) GB75.out : Below w.heap.size w w79)); clear HO_5; clear HO_7; clear HO_9; clear HB; have HO_5 := n0_; have HO_7 := n1_; have HO_9 := n2_; have HB := n3_; clear n0_ n1_ n2_ n3_; clear hg hw hp_))
                                                            (first | go_roundg k5 | (simp only [← hji3]; go_roundg k5))
                                                            case measure => have := HK1.out; have := HJ16.out; have := HJ27.out; have := HJ29.out; have := HK5.out; omega
                                                            case rel => exact ⟨(y182), (wrap64 (x13_5 + 1)), (by first | rfl | (simp; done) | (simp [*]; done)), (by first | (with_reducible exact H') | (simp only [hji3]; with_reducible exact H') | (simp only [hji3] at H' ⊢; with_reducible exact H') | exact H'), ⟨by have := HK1.out; have := HJ16.out; have := HJ27.out; have := HJ29.out; have := HK5.out; omega⟩, ⟨by (with_reducible repeat (first | apply Kd.R_alloc | apply Kd.R_drewN | apply Kd.R_drew)); exact Kd.R_mono HO_5.out (fun _ hk => hk.2)⟩, ⟨by (with_reducible repeat (first | apply Kd.R_alloc | apply Kd.R_drewN | apply Kd.R_drew)); exact HO_7.out⟩, ⟨by (with_reducible repeat (first | apply Kd.R_alloc | apply Kd.R_drewN | apply Kd.R_drew)); exact HO_9.out⟩, ⟨by repeat (first | (with_reducible first | exact HB.out | apply below_alloc | apply pw_below_drewN | apply below_drew1) | exact HB.out)⟩⟩
                                                      · rw [if_neg c49] at H
                                                        exact absurd H (by simp)
                                                  · rw [if_neg c42] at H
                                                    exact absurd H (by simp)
                                                · rw [if_neg c41] at H
                                                  exact absurd H (by simp)
                                              · rw [if_neg c40] at H
                                                have c40b0 : ((bt a0 x6_1) == 42) = false := beq_eq_false_iff_ne.mpr c40
                                                have c40b1 : ((bt a0 x6_1) != 42) = true := bne_iff_ne.mpr c40
                                                have HC80 := Aside0.mk H
                                                clear H
                                                have p39 : 0 ≤ (x6_1 : Int) := of_decide_eq_true (by first | (with_reducible assumption) | assumption)
                                                have q39 : x6_1 < (a0.size : Int) := of_decide_eq_true (by first | (with_reducible assumption) | assumption)
                                                have hx39 := bt_at a0 x6_1
                                                replace p39 := eq_true p39
                                                replace q39 := eq_true q39
                                                go_upto_region 24 with (fail)
                                                go_cut [116] (fun v116 wc => ∃ (kq : Nat) (x116_79 : Bool), v116 = .bool x116_79 ∧ Aside0 (patchworkref1_Glob.j5 kq a0 a1 x5_1 x6_1 x7_5 x8_29 x9_16 x10_16 x11_16 x12_29 x13_5 x116_79 = some r) ∧ Aside0 (kq ≤ k5) ∧ Aside0 (Kd.R Kd.bool 4 wc w.heap.size (fun k_ => some k_ ≠ (v167 : Value).ownBlock) u5 x5_1) ∧ Aside0 (Kd.R Kd.bool 4 wc w.heap.size (fun k_ => some k_ ≠ (u5 : Value).ownBlock) v167 x7_5) ∧ Aside0 (Kd.R k63 63 wc w.heap.size (fun _ => True) u9 x9_16) ∧ Aside0 (Below w.heap.size w wc))
                                                case first =>
                                                  have H := HC80.out
                                                  clear HC80
                                                  by_cases c81 : x13_5 = (a1.size : Int)
                                                  · rw [if_pos c81] at H
                                                    have c81b0 : (x13_5 == (a1.size : Int)) = true := beq_iff_eq.mpr c81
                                                    have c81b1 : (x13_5 != (a1.size : Int)) = false := bne_eq_false_iff_eq.mpr c81
                                                    clear c81
                                                    (first | rw [c81b0] | (simp only [i64_w, i32_w]; rw [c81b0]) | skip)
                                                    have H' := Aside0.mk H
                                                    clear H
                                                    go_wp2
                                                    (first | go_meet | (simp only [← hji3]; go_meet))
                                                    case rel => exact ⟨_, (true), (by first | rfl | (simp; done) | (simp [*]; done)), (by first | (with_reducible exact H') | (simp only [hji3]; with_reducible exact H') | (simp only [hji3] at H' ⊢; with_reducible exact H') | exact H'), ⟨by have := HK1.out; have := HJ16.out; have := HJ27.out; have := HJ29.out; have := HK5.out; first | omega | exact Nat.le_refl _⟩, ⟨by (with_reducible repeat (first | apply Kd.R_alloc | apply Kd.R_drewN | apply Kd.R_drew)); exact HO_5.out⟩, ⟨by (with_reducible repeat (first | apply Kd.R_alloc | apply Kd.R_drewN | apply Kd.R_drew)); exact HO_7.out⟩, ⟨by (with_reducible repeat (first | apply Kd.R_alloc | apply Kd.R_drewN | apply Kd.R_drew)); exact HO_9.out⟩, ⟨by repeat (first | (with_reducible first | exact HB.out | apply below_alloc | apply pw_below_drewN | apply below_drew1) | exact HB.out)⟩⟩
                                                  · rw [if_neg c81] at H
                                                    have c81b0 : (x13_5 == (a1.size : Int)) = false := beq_eq_false_iff_ne.mpr c81
                                                    have c81b1 : (x13_5 != (a1.size : Int)) = true := bne_iff_ne.mpr c81
                                                    (first | rw [c81b0] | (simp only [i64_w, i32_w]; rw [c81b0]) | skip)
                                                    by_cases c82 : 0 ≤ x13_5
                                                    · rw [if_pos c82] at H
                                                      have c82b0 : decide (0 ≤ x13_5) = true := decide_eq_true c82
                                                      clear c82
                                                      by_cases c83 : x13_5 < (x5_1.length : Int)
                                                      · rw [if_pos c83] at H
                                                        have c83b0 : decide (x13_5 < (x5_1.length : Int)) = true := decide_eq_true c83
                                                        clear c83
                                                        have H' := Aside0.mk H
                                                        clear H
                                                        obtain ⟨Ao84, co84, eo84⟩ := Kd.R_slice HO_5.out
                                                        subst eo84
                                                        have p183 : 0 ≤ (x13_5 : Int) := of_decide_eq_true (by first | (with_reducible assumption) | assumption)
                                                        have q183 : x13_5 < (x5_1.length : Int) := of_decide_eq_true (by first | (with_reducible assumption) | assumption)
                                                        obtain ⟨ad183, e183, hx183_0⟩ := Kd.at_bool (Kd.R_reads' HO_5.out).2.2 x13_5 p183 q183
                                                        cases e183
                                                        replace p183 := eq_true p183
                                                        replace q183 := eq_true q183
                                                        go_wp2
                                                        (first | go_meet | (simp only [← hji3]; go_meet))
                                                        case rel => exact ⟨_, (!(rdOf false x5_1 x13_5)), (by first | rfl | (simp; done) | (simp [*]; done)), (by first | (with_reducible exact H') | (simp only [hji3]; with_reducible exact H') | (simp only [hji3] at H' ⊢; with_reducible exact H') | exact H'), ⟨by have := HK1.out; have := HJ16.out; have := HJ27.out; have := HJ29.out; have := HK5.out; first | omega | exact Nat.le_refl _⟩, ⟨by (with_reducible repeat (first | apply Kd.R_alloc | apply Kd.R_drewN | apply Kd.R_drew)); exact HO_5.out⟩, ⟨by (with_reducible repeat (first | apply Kd.R_alloc | apply Kd.R_drewN | apply Kd.R_drew)); exact HO_7.out⟩, ⟨by (with_reducible repeat (first | apply Kd.R_alloc | apply Kd.R_drewN | apply Kd.R_drew)); exact HO_9.out⟩, ⟨by repeat (first | (with_reducible first | exact HB.out | apply below_alloc | apply pw_below_drewN | apply below_drew1) | exact HB.out)⟩⟩
                                                      · rw [if_neg c83] at H
                                                        exact absurd H (by simp)
                                                    · rw [if_neg c82] at H
                                                      exact absurd H (by simp)
                                                case rest =>
                                                  clear HC80
                                                  try clear c1
                                                  try clear p1
                                                  try clear q1
                                                  try clear hx1
                                                  try clear c2
                                                  try clear p2
                                                  try clear q2
                                                  try clear hx2
                                                  try clear c3
                                                  try clear p3
                                                  try clear q3
                                                  try clear hx3
                                                  try clear c4
                                                  try clear c4b0
                                                  try clear c4b1
                                                  try clear p4
                                                  try clear q4
                                                  try clear hx4
                                                  try clear hf4
                                                  try clear c5
                                                  try clear c5b0
                                                  try clear c5b1
                                                  try clear p5
                                                  try clear q5
                                                  try clear hx5
                                                  try clear hf5
                                                  try clear c6
                                                  try clear c6b0
                                                  try clear c6b1
                                                  try clear p6
                                                  try clear q6
                                                  try clear hx6
                                                  try clear hf6
                                                  try clear p7
                                                  try clear q7
                                                  try clear hx7
                                                  try clear qi7
                                                  try clear hf7
                                                  try clear c8
                                                  try clear c12
                                                  try clear c12b0
                                                  try clear c13
                                                  try clear c13b0
                                                  try clear c13b1
                                                  try clear c14
                                                  try clear c14b0
                                                  try clear c14b1
                                                  try clear c15
                                                  try clear c15b0
                                                  try clear p16
                                                  try clear q16
                                                  try clear hx16
                                                  try clear p17
                                                  try clear q17
                                                  try clear hx17
                                                  try clear p18
                                                  try clear q18
                                                  try clear hx18
                                                  try clear c20
                                                  try clear c20b0
                                                  try clear c20b1
                                                  try clear c22
                                                  try clear c25
                                                  try clear c25b0
                                                  try clear c26
                                                  try clear c26b0
                                                  try clear p27
                                                  try clear q27
                                                  try clear hx27
                                                  try clear c29
                                                  try clear c29b0
                                                  try clear c29b1
                                                  try clear c31
                                                  try clear c33
                                                  try clear c33b0
                                                  try clear c34
                                                  try clear c34b0
                                                  try clear p35
                                                  try clear q35
                                                  try clear hx35
                                                  try clear c36
                                                  try clear c36b0
                                                  try clear c37
                                                  try clear c37b0
                                                  try clear c38
                                                  try clear c38b0
                                                  try clear p39
                                                  try clear q39
                                                  try clear hx39
                                                  try clear c40
                                                  try clear c40b0
                                                  try clear c40b1
                                                  try clear c41
                                                  try clear c41b0
                                                  try clear c42
                                                  try clear c42b0
                                                  try clear q43
                                                  try clear c44
                                                  try clear p45
                                                  try clear q45
                                                  try clear hx45
                                                  try clear hf45
                                                  try clear c49
                                                  try clear c49b0
                                                  try clear q50
                                                  try clear c51
                                                  try clear p52
                                                  try clear q52
                                                  try clear hx52
                                                  try clear hf52
                                                  try clear c57
                                                  try clear c57b0
                                                  try clear c59
                                                  try clear c59b0
                                                  try clear c60
                                                  try clear c60b0
                                                  try clear q61
                                                  try clear c62
                                                  try clear c63
                                                  try clear c63b0
                                                  try clear p64
                                                  try clear q64
                                                  try clear hx64
                                                  try clear p65
                                                  try clear q65
                                                  try clear hx65
                                                  try clear hf65
                                                  try clear p70
                                                  try clear q70
                                                  try clear hx70
                                                  try clear hf70
                                                  try clear p75
                                                  try clear q75
                                                  try clear hx75
                                                  try clear hf75
                                                  try clear c81
                                                  try clear c81b0
                                                  try clear c81b1
                                                  try clear c82
                                                  try clear c82b0
                                                  try clear c83
                                                  try clear c83b0
                                                  try clear hx175_0
                                                  try clear hx177_0
                                                  try clear hx179_0
                                                  try clear hx183_0
                                                  try clear hx45_0
                                                  try clear hx52_0
                                                  try clear hx65_0
                                                  try clear hx70_0
                                                  try clear hx75_0
                                                  try clear hx7_0
                                                  try clear p1
                                                  try clear p16
                                                  try clear p175
                                                  try clear p177
                                                  try clear p179
                                                  try clear p183
                                                  try clear p2
                                                  try clear p27
                                                  try clear p3
                                                  try clear p35
                                                  try clear p39
                                                  try clear p45
                                                  try clear p52
                                                  try clear p6
                                                  try clear p64
                                                  try clear p65
                                                  try clear p7
                                                  try clear p70
                                                  try clear p75
                                                  try clear q1
                                                  try clear q16
                                                  try clear q175
                                                  try clear q177
                                                  try clear q179
                                                  try clear q183
                                                  try clear q2
                                                  try clear q27
                                                  try clear q3
                                                  try clear q35
                                                  try clear q39
                                                  try clear q45
                                                  try clear q52
                                                  try clear q64
                                                  try clear q65
                                                  try clear q7
                                                  try clear q70
                                                  try clear q75
                                                  obtain ⟨kq, x116_79, rfl, HA, HJ79, HO_5, HO_7, HO_9, HB⟩ := hcut
                                                  cases kq with
                                                  | zero => exact absurd HA.out (by simp [patchworkref1_Glob.j5])
                                                  | succ kj79 =>
                                                    have H := HA.out
                                                    clear HA
                                                    simp only [patchworkref1_Glob.j5] at H
                                                    by_cases c85 : x116_79 = true
                                                    · subst c85
                                                      have H1 : (patchworkref1_Glob.l1 kj79 a0 a1 x5_1 x6_1 x7_5 x8_29 x9_16 x10_16 x11_16 x12_29 (wrap64 (x13_5 + 1))) = some r := by rw [if_pos rfl] at H; exact H
                                                      clear H
                                                      have H := H1
                                                      clear H1
                                                      have H' := Aside0.mk H
                                                      clear H
                                                      go_wp2
                                                      (first | go_roundg kj79 | (simp only [← hji3]; go_roundg kj79))
                                                      case measure => have := HK1.out; have := HJ16.out; have := HJ27.out; have := HJ29.out; have := HK5.out; have := HJ79.out; omega
                                                      case rel => exact ⟨(x7_5), (wrap64 (x13_5 + 1)), (by first | rfl | (simp; done) | (simp [*]; done)), (by first | (with_reducible exact H') | (simp only [hji3]; with_reducible exact H') | (simp only [hji3] at H' ⊢; with_reducible exact H') | exact H'), ⟨by have := HK1.out; have := HJ16.out; have := HJ27.out; have := HJ29.out; have := HK5.out; have := HJ79.out; omega⟩, ⟨by (with_reducible repeat (first | apply Kd.R_alloc | apply Kd.R_drewN | apply Kd.R_drew)); exact HO_5.out⟩, ⟨by (with_reducible repeat (first | apply Kd.R_alloc | apply Kd.R_drewN | apply Kd.R_drew)); exact HO_7.out⟩, ⟨by (with_reducible repeat (first | apply Kd.R_alloc | apply Kd.R_drewN | apply Kd.R_drew)); exact HO_9.out⟩, ⟨by repeat (first | (with_reducible first | exact HB.out | apply below_alloc | apply pw_below_drewN | apply below_drew1) | exact HB.out)⟩⟩
                                                    · replace c85 := Bool.eq_false_iff.mpr c85
                                                      subst c85
                                                      have H1 : (if 0 ≤ x6_1 then (if x6_1 < (a0.size : Int) then (if (bt a0 x6_1) = 63 then (if 0 ≤ x13_5 then (if x13_5 < (a1.size : Int) then (if 0 ≤ (wrap64 (x13_5 + 1)) then (if (wrap64 (x13_5 + 1)) < (x7_5.length : Int) then (patchworkref1_Glob.l1 kj79 a0 a1 x5_1 x6_1 (x7_5.set ((wrap64 (x13_5 + 1)) : Int).toNat ((bt a1 x13_5) != 47)) x8_29 x9_16 x10_16 x11_16 x12_29 (wrap64 (x13_5 + 1))) else (none)) else (none)) else (none)) else (none)) else (if x11_16 = true then (if 0 ≤ x13_5 then (if x13_5 < (a1.size : Int) then (if (bt a1 x13_5) = 47 then (if 0 ≤ (wrap64 (x13_5 + 1)) then (if (wrap64 (x13_5 + 1)) < (x7_5.length : Int) then (patchworkref1_Glob.l1 kj79 a0 a1 x5_1 x6_1 (x7_5.set ((wrap64 (x13_5 + 1)) : Int).toNat false) x8_29 x9_16 x10_16 x11_16 x12_29 (wrap64 (x13_5 + 1))) else (none)) else (none)) else ((patchworkref1_inside.f kj79 x9_16 (bt a1 x13_5)).bind fun t186 => (if 0 ≤ (wrap64 (x13_5 + 1)) then (if (wrap64 (x13_5 + 1)) < (x7_5.length : Int) then (patchworkref1_Glob.l1 kj79 a0 a1 x5_1 x6_1 (x7_5.set ((wrap64 (x13_5 + 1)) : Int).toNat (t186 != x10_16)) x8_29 x9_16 x10_16 x11_16 x12_29 (wrap64 (x13_5 + 1))) else (none)) else (none)))) else (none)) else (none)) else (if 0 ≤ x13_5 then (if x13_5 < (a1.size : Int) then (if 0 ≤ (wrap64 (x13_5 + 1)) then (if (wrap64 (x13_5 + 1)) < (x7_5.length : Int) then (patchworkref1_Glob.l1 kj79 a0 a1 x5_1 x6_1 (x7_5.set ((wrap64 (x13_5 + 1)) : Int).toNat ((bt a1 x13_5) == x12_29)) x8_29 x9_16 x10_16 x11_16 x12_29 (wrap64 (x13_5 + 1))) else (none)) else (none)) else (none)) else (none)))) else (none)) else (none)) = some r := by rw [if_neg (show ¬ (false = true) by decide)] at H; exact H
                                                      clear H
                                                      have H := H1
                                                      clear H1
                                                      by_cases c86 : 0 ≤ x6_1
                                                      · rw [if_pos c86] at H
                                                        have c86b0 : decide (0 ≤ x6_1) = true := decide_eq_true c86
                                                        clear c86
                                                        by_cases c87 : x6_1 < (a0.size : Int)
                                                        · rw [if_pos c87] at H
                                                          have c87b0 : decide (x6_1 < (a0.size : Int)) = true := decide_eq_true c87
                                                          clear c87
                                                          by_cases c89 : (bt a0 x6_1) = 63
                                                          · rw [if_pos c89] at H
                                                            have c89b0 : ((bt a0 x6_1) == 63) = true := beq_iff_eq.mpr c89
                                                            have c89b1 : ((bt a0 x6_1) != 63) = false := bne_eq_false_iff_eq.mpr c89
                                                            clear c89
                                                            by_cases c90 : 0 ≤ x13_5
                                                            · rw [if_pos c90] at H
                                                              have c90b0 : decide (0 ≤ x13_5) = true := decide_eq_true c90
                                                              clear c90
                                                              by_cases c91 : x13_5 < (a1.size : Int)
                                                              · rw [if_pos c91] at H
                                                                have c91b0 : decide (x13_5 < (a1.size : Int)) = true := decide_eq_true c91
                                                                clear c91
                                                                obtain ⟨ji93, hji93⟩ : ∃ j_ : Int, (wrap64 (x13_5 + 1)) = j_ := ⟨_, rfl⟩
                                                                replace H : (if 0 ≤ (ji93) then (if (ji93) < (x7_5.length : Int) then (patchworkref1_Glob.l1 kj79 a0 a1 x5_1 x6_1 (x7_5.set ((ji93) : Int).toNat ((bt a1 x13_5) != 47)) x8_29 x9_16 x10_16 x11_16 x12_29 ji93) else (none)) else (none)) = some r := by first | (rw [hji93] at H; exact H) | (simp only [hji93] at H ⊢; exact H)
                                                                have hji93w : (IntKind.i64.wrap (x13_5 + 1)) = ji93 := (i64_w _).trans hji93
                                                                by_cases c94 : 0 ≤ (ji93)
                                                                · rw [if_pos c94] at H
                                                                  have c94b0 : decide (0 ≤ (ji93)) = true := decide_eq_true c94
                                                                  clear c94
                                                                  by_cases c95 : (ji93) < (x7_5.length : Int)
                                                                  · rw [if_pos c95] at H
                                                                    have c95b0 : decide ((ji93) < (x7_5.length : Int)) = true := decide_eq_true c95
                                                                    clear c95
                                                                    obtain ⟨y184, hy184⟩ : ∃ y_ : List Bool, y_ = (x7_5.set ((ji93) : Int).toNat ((bt a1 x13_5) != 47)) := ⟨_, rfl⟩
                                                                    replace H : (patchworkref1_Glob.l1 kj79 a0 a1 x5_1 x6_1 y184 x8_29 x9_16 x10_16 x11_16 x12_29 ji93) = some r := by first | (rw [hy184]; with_reducible exact H) | (have H2_ := (Option.bind_some _ _).symm.trans H; rw [hy184]; with_reducible exact H2_) | (have H2_ := (Option.bind_some _ _).symm.trans H; with_reducible exact H2_) | with_reducible exact H | (rw [hy184]; exact H) | exact H
                                                                    have Ny184 := Aside0.mk hy184
                                                                    clear hy184
                                                                    have H' := Aside0.mk H
                                                                    clear H
                                                                    have p88 : 0 ≤ (x6_1 : Int) := of_decide_eq_true (by first | (with_reducible assumption) | assumption)
                                                                    have q88 : x6_1 < (a0.size : Int) := of_decide_eq_true (by first | (with_reducible assumption) | assumption)
                                                                    have hx88 := bt_at a0 x6_1
                                                                    replace p88 := eq_true p88
                                                                    replace q88 := eq_true q88
                                                                    have p92 : 0 ≤ (x13_5 : Int) := of_decide_eq_true (by first | (with_reducible assumption) | assumption)
                                                                    have q92 : x13_5 < (a1.size : Int) := of_decide_eq_true (by first | (with_reducible assumption) | assumption)
                                                                    have hx92 := bt_at a1 x13_5
                                                                    replace p92 := eq_true p92
                                                                    replace q92 := eq_true q92
                                                                    have p96 : 0 ≤ ((ji93) : Int) := of_decide_eq_true (by first | (with_reducible assumption) | assumption)
                                                                    have q96 : ((ji93) : Int) < ((x7_5.length : Int) : Int) := of_decide_eq_true (by first | (with_reducible assumption) | assumption)
                                                                    obtain ⟨go96, co96, eo96, gb96, gl96, cl96, HG96⟩ := Kd.R_form HO_7.out (by omega)
                                                                    (first | cases eo96 | (injection eo96 with ea_ en_ ec_; (first | subst ea_ | (injection ea_ with ea_; subst ea_)); subst ec_; clear en_))
                                                                    have GB96 := Aside0.mk gb96
                                                                    have GG96 := Aside0.mk HG96
                                                                    clear gb96 gl96 HG96
                                                                    obtain ⟨hx96_0, hf96_0⟩ := Kd.R_celln false HO_7.out ((ji93) : Int) p96 q96
                                                                    replace p96 := eq_true p96
                                                                    replace q96 := eq_true q96
                                                                    have HP97 := Kd.R_putg HO_7.out ((ji93) : Int) ((bt a1 x13_5) != 47)
                                                                    go_wp2_with (first | ((with_reducible refine gate_store (t := 4) (p := 140) rfl ?_); refine store_event (t := 4) (p := 140) (v := ?vo_w98) (w1 := (wc.setCell ⟨go96, ((ji93) : Int).toNat, none⟩ (.bool ((bt a1 x13_5) != 47)))) ?hg ?ho ?hn ?hr ?_; (case ho => rfl); (case hg => rfl); (case hn => rfl); (case hr => first | (go_simp; done) | (go_simp; rfl)); intro w98 hw; have hg : wc.grownBy w98 (some go96) := (by rw [hw]; exact HP97.2); have hp_ : Kd.R Kd.bool 4 w98 w.heap.size (fun k_ => some k_ ≠ (u5 : Value).ownBlock) (.slice (some ⟨go96, 0, none⟩) x7_5.length co96) y184 := (by rw [hw, Ny184.out]; exact HP97.1); clear HP97; have n0_ := Aside0.mk (Kd.R_after (v := (.slice (some ⟨go96, 0, none⟩) x7_5.length co96)) (v1 := (.slice (some ⟨go96, 0, none⟩) x7_5.length co96)) (ok := (fun _ => True)) (by (with_reducible repeat (first | apply Kd.R_alloc | apply Kd.R_drewN | apply Kd.R_drew)); exact Kd.R_mono HO_5.out (fun _ hk => ⟨trivial, hk⟩)) hg (.inl rfl)); have n1_ := Aside0.mk (hp_); have n2_ := Aside0.mk (Kd.R_over' (v := (.slice (some ⟨go96, 0, none⟩) x7_5.length co96)) (by (with_reducible repeat (first | apply Kd.R_alloc | apply Kd.R_drewN | apply Kd.R_drew)); exact HO_9.out) (Kd.R_typed HO_7.out) (by decide) hg); have n3_ := Aside0.mk ((by rw [hw]; exact below_set (HB.out) GB96.out : Below w.heap.size w w98)); clear HO_5; clear HO_7; clear HO_9; clear HB; have HO_5 := n0_; have HO_7 := n1_; have HO_9 := n2_; have HB := n3_; clear n0_ n1_ n2_ n3_; clear hg hw hp_))
                                                                    (first | go_roundg kj79 | (simp only [← hji3, ← hji93]; go_roundg kj79) | (simp only [← hji3]; go_roundg kj79) | (simp only [← hji93]; go_roundg kj79))
                                                                    case measure => have := HK1.out; have := HJ16.out; have := HJ27.out; have := HJ29.out; have := HK5.out; have := HJ79.out; omega
                                                                    case rel => exact ⟨(y184), (ji93), (by first | rfl | (simp; done) | (simp only [← hji93] <;> (first | rfl | simp)) | (simp [*]; done)), (by first | (with_reducible exact H') | (simp only [hji3, hji93]; with_reducible exact H') | (simp only [hji3, hji93] at H' ⊢; with_reducible exact H') | exact H'), ⟨by have := HK1.out; have := HJ16.out; have := HJ27.out; have := HJ29.out; have := HK5.out; have := HJ79.out; omega⟩, ⟨by (with_reducible repeat (first | apply Kd.R_alloc | apply Kd.R_drewN | apply Kd.R_drew)); exact Kd.R_mono HO_5.out (fun _ hk => hk.2)⟩, ⟨by (with_reducible repeat (first | apply Kd.R_alloc | apply Kd.R_drewN | apply Kd.R_drew)); exact HO_7.out⟩, ⟨by (with_reducible repeat (first | apply Kd.R_alloc | apply Kd.R_drewN | apply Kd.R_drew)); exact HO_9.out⟩, ⟨by repeat (first | (with_reducible first | exact HB.out | apply below_alloc | apply pw_below_drewN | apply below_drew1) | exact HB.out)⟩⟩
                                                                  · rw [if_neg c95] at H
                                                                    exact absurd H (by simp)
                                                                · rw [if_neg c94] at H
                                                                  exact absurd H (by simp)
                                                              · rw [if_neg c91] at H
                                                                exact absurd H (by simp)
                                                            · rw [if_neg c90] at H
                                                              exact absurd H (by simp)
                                                          · rw [if_neg c89] at H
                                                            have c89b0 : ((bt a0 x6_1) == 63) = false := beq_eq_false_iff_ne.mpr c89
                                                            have c89b1 : ((bt a0 x6_1) != 63) = true := bne_iff_ne.mpr c89
                                                            by_cases c99 : x11_16 = true
                                                            · subst c99
                                                              have H1 : (if 0 ≤ x13_5 then (if x13_5 < (a1.size : Int) then (if (bt a1 x13_5) = 47 then (if 0 ≤ (wrap64 (x13_5 + 1)) then (if (wrap64 (x13_5 + 1)) < (x7_5.length : Int) then (patchworkref1_Glob.l1 kj79 a0 a1 x5_1 x6_1 (x7_5.set ((wrap64 (x13_5 + 1)) : Int).toNat false) x8_29 x9_16 x10_16 true x12_29 (wrap64 (x13_5 + 1))) else (none)) else (none)) else ((patchworkref1_inside.f kj79 x9_16 (bt a1 x13_5)).bind fun t186 => (if 0 ≤ (wrap64 (x13_5 + 1)) then (if (wrap64 (x13_5 + 1)) < (x7_5.length : Int) then (patchworkref1_Glob.l1 kj79 a0 a1 x5_1 x6_1 (x7_5.set ((wrap64 (x13_5 + 1)) : Int).toNat (t186 != x10_16)) x8_29 x9_16 x10_16 true x12_29 (wrap64 (x13_5 + 1))) else (none)) else (none)))) else (none)) else (none)) = some r := by rw [if_pos rfl] at H; exact H
                                                              clear H
                                                              have H := H1
                                                              clear H1
                                                              by_cases c100 : 0 ≤ x13_5
                                                              · rw [if_pos c100] at H
                                                                have c100b0 : decide (0 ≤ x13_5) = true := decide_eq_true c100
                                                                clear c100
                                                                by_cases c101 : x13_5 < (a1.size : Int)
                                                                · rw [if_pos c101] at H
                                                                  have c101b0 : decide (x13_5 < (a1.size : Int)) = true := decide_eq_true c101
                                                                  clear c101
                                                                  by_cases c103 : (bt a1 x13_5) = 47
                                                                  · rw [if_pos c103] at H
                                                                    have c103b0 : ((bt a1 x13_5) == 47) = true := beq_iff_eq.mpr c103
                                                                    have c103b1 : ((bt a1 x13_5) != 47) = false := bne_eq_false_iff_eq.mpr c103
                                                                    clear c103
                                                                    obtain ⟨ji104, hji104⟩ : ∃ j_ : Int, (wrap64 (x13_5 + 1)) = j_ := ⟨_, rfl⟩
                                                                    replace H : (if 0 ≤ (ji104) then (if (ji104) < (x7_5.length : Int) then (patchworkref1_Glob.l1 kj79 a0 a1 x5_1 x6_1 (x7_5.set ((ji104) : Int).toNat false) x8_29 x9_16 x10_16 true x12_29 ji104) else (none)) else (none)) = some r := by first | (rw [hji104] at H; exact H) | (simp only [hji104] at H ⊢; exact H)
                                                                    have hji104w : (IntKind.i64.wrap (x13_5 + 1)) = ji104 := (i64_w _).trans hji104
                                                                    by_cases c105 : 0 ≤ (ji104)
                                                                    · rw [if_pos c105] at H
                                                                      have c105b0 : decide (0 ≤ (ji104)) = true := decide_eq_true c105
                                                                      clear c105
                                                                      by_cases c106 : (ji104) < (x7_5.length : Int)
                                                                      · rw [if_pos c106] at H
                                                                        have c106b0 : decide ((ji104) < (x7_5.length : Int)) = true := decide_eq_true c106
                                                                        clear c106
                                                                        obtain ⟨y185, hy185⟩ : ∃ y_ : List Bool, y_ = (x7_5.set ((ji104) : Int).toNat false) := ⟨_, rfl⟩
                                                                        replace H : (patchworkref1_Glob.l1 kj79 a0 a1 x5_1 x6_1 y185 x8_29 x9_16 x10_16 true x12_29 ji104) = some r := by first | (rw [hy185]; with_reducible exact H) | (have H2_ := (Option.bind_some _ _).symm.trans H; rw [hy185]; with_reducible exact H2_) | (have H2_ := (Option.bind_some _ _).symm.trans H; with_reducible exact H2_) | with_reducible exact H | (rw [hy185]; exact H) | exact H
                                                                        have Ny185 := Aside0.mk hy185
                                                                        clear hy185
                                                                        have H' := Aside0.mk H
                                                                        clear H
                                                                        have p88 : 0 ≤ (x6_1 : Int) := of_decide_eq_true (by first | (with_reducible assumption) | assumption)
                                                                        have q88 : x6_1 < (a0.size : Int) := of_decide_eq_true (by first | (with_reducible assumption) | assumption)
                                                                        have hx88 := bt_at a0 x6_1
                                                                        replace p88 := eq_true p88
                                                                        replace q88 := eq_true q88
                                                                        have p102 : 0 ≤ (x13_5 : Int) := of_decide_eq_true (by first | (with_reducible assumption) | assumption)
                                                                        have q102 : x13_5 < (a1.size : Int) := of_decide_eq_true (by first | (with_reducible assumption) | assumption)
                                                                        have hx102 := bt_at a1 x13_5
                                                                        replace p102 := eq_true p102
                                                                        replace q102 := eq_true q102
                                                                        have p107 : 0 ≤ ((ji104) : Int) := of_decide_eq_true (by first | (with_reducible assumption) | assumption)
                                                                        have q107 : ((ji104) : Int) < ((x7_5.length : Int) : Int) := of_decide_eq_true (by first | (with_reducible assumption) | assumption)
                                                                        obtain ⟨go107, co107, eo107, gb107, gl107, cl107, HG107⟩ := Kd.R_form HO_7.out (by omega)
                                                                        (first | cases eo107 | (injection eo107 with ea_ en_ ec_; (first | subst ea_ | (injection ea_ with ea_; subst ea_)); subst ec_; clear en_))
                                                                        have GB107 := Aside0.mk gb107
                                                                        have GG107 := Aside0.mk HG107
                                                                        clear gb107 gl107 HG107
                                                                        obtain ⟨hx107_0, hf107_0⟩ := Kd.R_celln false HO_7.out ((ji104) : Int) p107 q107
                                                                        replace p107 := eq_true p107
                                                                        replace q107 := eq_true q107
                                                                        have HP108 := Kd.R_putg HO_7.out ((ji104) : Int) false
                                                                        go_wp2_with (first | ((with_reducible refine gate_store (t := 4) (p := 159) rfl ?_); refine store_event (t := 4) (p := 159) (v := ?vo_w109) (w1 := (wc.setCell ⟨go107, ((ji104) : Int).toNat, none⟩ (.bool false))) ?hg ?ho ?hn ?hr ?_; (case ho => rfl); (case hg => rfl); (case hn => rfl); (case hr => first | (go_simp; done) | (go_simp; rfl)); intro w109 hw; have hg : wc.grownBy w109 (some go107) := (by rw [hw]; exact HP108.2); have hp_ : Kd.R Kd.bool 4 w109 w.heap.size (fun k_ => some k_ ≠ (u5 : Value).ownBlock) (.slice (some ⟨go107, 0, none⟩) x7_5.length co107) y185 := (by rw [hw, Ny185.out]; exact HP108.1); clear HP108; have n0_ := Aside0.mk (Kd.R_after (v := (.slice (some ⟨go107, 0, none⟩) x7_5.length co107)) (v1 := (.slice (some ⟨go107, 0, none⟩) x7_5.length co107)) (ok := (fun _ => True)) (by (with_reducible repeat (first | apply Kd.R_alloc | apply Kd.R_drewN | apply Kd.R_drew)); exact Kd.R_mono HO_5.out (fun _ hk => ⟨trivial, hk⟩)) hg (.inl rfl)); have n1_ := Aside0.mk (hp_); have n2_ := Aside0.mk (Kd.R_over' (v := (.slice (some ⟨go107, 0, none⟩) x7_5.length co107)) (by (with_reducible repeat (first | apply Kd.R_alloc | apply Kd.R_drewN | apply Kd.R_drew)); exact HO_9.out) (Kd.R_typed HO_7.out) (by decide) hg); have n3_ := Aside0.mk ((by rw [hw]; exact below_set (HB.out) GB107.out : Below w.heap.size w w109)); clear HO_5; clear HO_7; clear HO_9; clear HB; have HO_5 := n0_; have HO_7 := n1_; have HO_9 := n2_; have HB := n3_; clear n0_ n1_ n2_ n3_; clear hg hw hp_))
                                                                        (first | go_roundg kj79 | (simp only [← hji3, ← hji104]; go_roundg kj79) | (simp only [← hji3]; go_roundg kj79) | (simp only [← hji104]; go_roundg kj79))
                                                                        case measure => have := HK1.out; have := HJ16.out; have := HJ27.out; have := HJ29.out; have := HK5.out; have := HJ79.out; omega
                                                                        case rel => exact ⟨(y185), (ji104), (by first | rfl | (simp; done) | (simp only [← hji104] <;> (first | rfl | simp)) | (simp [*]; done)), (by first | (with_reducible exact H') | (simp only [hji3, hji104]; with_reducible exact H') | (simp only [hji3, hji104] at H' ⊢; with_reducible exact H') | exact H'), ⟨by have := HK1.out; have := HJ16.out; have := HJ27.out; have := HJ29.out; have := HK5.out; have := HJ79.out; omega⟩, ⟨by (with_reducible repeat (first | apply Kd.R_alloc | apply Kd.R_drewN | apply Kd.R_drew)); exact Kd.R_mono HO_5.out (fun _ hk => hk.2)⟩, ⟨by (with_reducible repeat (first | apply Kd.R_alloc | apply Kd.R_drewN | apply Kd.R_drew)); exact HO_7.out⟩, ⟨by (with_reducible repeat (first | apply Kd.R_alloc | apply Kd.R_drewN | apply Kd.R_drew)); exact HO_9.out⟩, ⟨by repeat (first | (with_reducible first | exact HB.out | apply below_alloc | apply pw_below_drewN | apply below_drew1) | exact HB.out)⟩⟩
                                                                      · rw [if_neg c106] at H
                                                                        exact absurd H (by simp)
                                                                    · rw [if_neg c105] at H
                                                                      exact absurd H (by simp)
                                                                  · rw [if_neg c103] at H
                                                                    have c103b0 : ((bt a1 x13_5) == 47) = false := beq_eq_false_iff_ne.mpr c103
                                                                    have c103b1 : ((bt a1 x13_5) != 47) = true := bne_iff_ne.mpr c103
                                                                    replace H := Option.bind_eq_some_iff.mp H
                                                                    obtain ⟨t186, A1110, H⟩ := H
                                                                    replace H : (if 0 ≤ (wrap64 (x13_5 + 1)) then (if (wrap64 (x13_5 + 1)) < (x7_5.length : Int) then (patchworkref1_Glob.l1 kj79 a0 a1 x5_1 x6_1 (x7_5.set ((wrap64 (x13_5 + 1)) : Int).toNat (t186 != x10_16)) x8_29 x9_16 x10_16 true x12_29 (wrap64 (x13_5 + 1))) else (none)) else (none)) = some r := H
                                                                    have A111 := Aside0.mk A1110
                                                                    clear A1110
                                                                    obtain ⟨ji112, hji112⟩ : ∃ j_ : Int, (wrap64 (x13_5 + 1)) = j_ := ⟨_, rfl⟩
                                                                    replace H : (if 0 ≤ (ji112) then (if (ji112) < (x7_5.length : Int) then (patchworkref1_Glob.l1 kj79 a0 a1 x5_1 x6_1 (x7_5.set ((ji112) : Int).toNat (t186 != x10_16)) x8_29 x9_16 x10_16 true x12_29 ji112) else (none)) else (none)) = some r := by first | (rw [hji112] at H; exact H) | (simp only [hji112] at H ⊢; exact H)
                                                                    (try rw [hji112] at A111)
                                                                    have hji112w : (IntKind.i64.wrap (x13_5 + 1)) = ji112 := (i64_w _).trans hji112
                                                                    by_cases c113 : 0 ≤ (ji112)
                                                                    · rw [if_pos c113] at H
                                                                      have c113b0 : decide (0 ≤ (ji112)) = true := decide_eq_true c113
                                                                      clear c113
                                                                      by_cases c114 : (ji112) < (x7_5.length : Int)
                                                                      · rw [if_pos c114] at H
                                                                        have c114b0 : decide ((ji112) < (x7_5.length : Int)) = true := decide_eq_true c114
                                                                        clear c114
                                                                        obtain ⟨y187, hy187⟩ : ∃ y_ : List Bool, y_ = (x7_5.set ((ji112) : Int).toNat (t186 != x10_16)) := ⟨_, rfl⟩
                                                                        replace H : (patchworkref1_Glob.l1 kj79 a0 a1 x5_1 x6_1 y187 x8_29 x9_16 x10_16 true x12_29 ji112) = some r := by first | (rw [hy187]; with_reducible exact H) | (have H2_ := (Option.bind_some _ _).symm.trans H; rw [hy187]; with_reducible exact H2_) | (have H2_ := (Option.bind_some _ _).symm.trans H; with_reducible exact H2_) | with_reducible exact H | (rw [hy187]; exact H) | exact H
                                                                        have Ny187 := Aside0.mk hy187
                                                                        clear hy187
                                                                        have H' := Aside0.mk H
                                                                        clear H
                                                                        have p88 : 0 ≤ (x6_1 : Int) := of_decide_eq_true (by first | (with_reducible assumption) | assumption)
                                                                        have q88 : x6_1 < (a0.size : Int) := of_decide_eq_true (by first | (with_reducible assumption) | assumption)
                                                                        have hx88 := bt_at a0 x6_1
                                                                        replace p88 := eq_true p88
                                                                        replace q88 := eq_true q88
                                                                        have p102 : 0 ≤ (x13_5 : Int) := of_decide_eq_true (by first | (with_reducible assumption) | assumption)
                                                                        have q102 : x13_5 < (a1.size : Int) := of_decide_eq_true (by first | (with_reducible assumption) | assumption)
                                                                        have hx102 := bt_at a1 x13_5
                                                                        replace p102 := eq_true p102
                                                                        replace q102 := eq_true q102
                                                                        have p110 : 0 ≤ (x13_5 : Int) := of_decide_eq_true (by first | (with_reducible assumption) | assumption)
                                                                        have q110 : x13_5 < (a1.size : Int) := of_decide_eq_true (by first | (with_reducible assumption) | assumption)
                                                                        have hx110 := bt_at a1 x13_5
                                                                        replace p110 := eq_true p110
                                                                        replace q110 := eq_true q110
                                                                        obtain ⟨Ao116, co116, eo116⟩ := Kd.R_slice HO_9.out
                                                                        subst eo116
                                                                        go_wp2_with (first | (go_at_call 39; (with_reducible refine (patchworkref1_inside.calls kj79 _ _ x9_16 (bt a1 x13_5) t186 _ ?side1 ?side2 A111.out).mono ?_); (case side1 => repeat (first | exact (Kd.R_reads' HO_9.out).2.2 | (with_reducible refine Kd.C_alloc ?_ _) | (with_reducible refine Kd.C_drewN ?_ _) | (with_reducible refine Kd.C_drew ?_))); (case side2 => exact (Kd.R_reads' HO_9.out).2.1); rintro e w' ⟨rfl, ⟨nd, rfl⟩⟩; (try (rw [drewN_self wc]; generalize hq_ : World.drewN wc _ = wc; have n0_ : Aside0 (Kd.R Kd.bool 4 wc w.heap.size (fun k_ => some k_ ≠ (v167 : Value).ownBlock) u5 x5_1) := ⟨by rw [← hq_]; exact (by (with_reducible repeat (first | apply Kd.R_alloc | apply Kd.R_drewN | apply Kd.R_drew)); exact HO_5.out)⟩; have n1_ : Aside0 (Kd.R Kd.bool 4 wc w.heap.size (fun k_ => some k_ ≠ (u5 : Value).ownBlock) v167 x7_5) := ⟨by rw [← hq_]; exact (by (with_reducible repeat (first | apply Kd.R_alloc | apply Kd.R_drewN | apply Kd.R_drew)); exact HO_7.out)⟩; have n2_ : Aside0 (Kd.R k63 63 wc w.heap.size (fun _ => True) (.slice Ao116 x9_16.length co116) x9_16) := ⟨by rw [← hq_]; exact (by (with_reducible repeat (first | apply Kd.R_alloc | apply Kd.R_drewN | apply Kd.R_drew)); exact HO_9.out)⟩; have n3_ : Aside0 (Below w.heap.size w wc) := ⟨by rw [← hq_]; exact (by repeat (first | (with_reducible first | exact HB.out | apply below_alloc | apply pw_below_drewN | apply below_drew1) | exact HB.out))⟩; clear HO_5 HO_7 HO_9 HB hq_; have HO_5 := n0_; have HO_7 := n1_; have HO_9 := n2_; have HB := n3_; clear n0_ n1_ n2_ n3_)); have p115 : 0 ≤ ((ji112) : Int) := of_decide_eq_true (by first | (with_reducible assumption) | assumption); have q115 : ((ji112) : Int) < ((x7_5.length : Int) : Int) := of_decide_eq_true (by first | (with_reducible assumption) | assumption); obtain ⟨go115, co115, eo115, gb115, gl115, cl115, HG115⟩ := Kd.R_form HO_7.out (by omega); (first | cases eo115 | (injection eo115 with ea_ en_ ec_; (first | subst ea_ | (injection ea_ with ea_; subst ea_)); subst ec_; clear en_)); have GB115 := Aside0.mk gb115; have GG115 := Aside0.mk HG115; clear gb115 gl115 HG115; obtain ⟨hx115_0, hf115_0⟩ := Kd.R_celln false HO_7.out ((ji112) : Int) p115 q115; replace p115 := eq_true p115; replace q115 := eq_true q115; obtain ⟨hy117_, hz117_⟩ := Kd.R_celln false HO_7.out ((ji112) : Int) (of_decide_eq_true (by first | (with_reducible assumption) | assumption)) (of_decide_eq_true (by first | (with_reducible assumption) | assumption)); have HP117 := Kd.R_putg HO_7.out ((ji112) : Int) (t186 != x10_16)) | ((with_reducible refine gate_store (t := 4) (p := 159) rfl ?_); refine store_event (t := 4) (p := 159) (v := ?vo_w118) (w1 := (wc.setCell ⟨go115, ((ji112) : Int).toNat, none⟩ (.bool (t186 != x10_16)))) ?hg ?ho ?hn ?hr ?_; (case ho => rfl); (case hg => rfl); (case hn => rfl); (case hr => first | (go_simp; done) | (go_simp; rfl)); intro w118 hw; have hg : wc.grownBy w118 (some go115) := (by rw [hw]; exact HP117.2); have hp_ : Kd.R Kd.bool 4 w118 w.heap.size (fun k_ => some k_ ≠ (u5 : Value).ownBlock) (.slice (some ⟨go115, 0, none⟩) x7_5.length co115) y187 := (by rw [hw, Ny187.out]; exact HP117.1); clear HP117; have n0_ := Aside0.mk (Kd.R_after (v := (.slice (some ⟨go115, 0, none⟩) x7_5.length co115)) (v1 := (.slice (some ⟨go115, 0, none⟩) x7_5.length co115)) (ok := (fun _ => True)) (by (with_reducible repeat (first | apply Kd.R_alloc | apply Kd.R_drewN | apply Kd.R_drew)); exact Kd.R_mono HO_5.out (fun _ hk => ⟨trivial, hk⟩)) hg (.inl rfl)); have n1_ := Aside0.mk (hp_); have n2_ := Aside0.mk (Kd.R_over' (v := (.slice (some ⟨go115, 0, none⟩) x7_5.length co115)) (by (with_reducible repeat (first | apply Kd.R_alloc | apply Kd.R_drewN | apply Kd.R_drew)); exact HO_9.out) (Kd.R_typed HO_7.out) (by decide) hg); have n3_ := Aside0.mk ((by rw [hw]; exact below_set (HB.out) GB115.out : Below w.heap.size w w118)); clear HO_5; clear HO_7; clear HO_9; clear HB; have HO_5 := n0_; have HO_7 := n1_; have HO_9 := n2_; have HB := n3_; clear n0_ n1_ n2_ n3_; clear hg hw hp_))
                                                                        (first | go_roundg kj79 | (simp only [← hji3, ← hji112]; go_roundg kj79) | (simp only [← hji3]; go_roundg kj79) | (simp only [← hji112]; go_roundg kj79))
                                                                        case measure => have := HK1.out; have := HJ16.out; have := HJ27.out; have := HJ29.out; have := HK5.out; have := HJ79.out; omega
                                                                        case rel => exact ⟨(y187), (ji112), (by first | rfl | (simp; done) | (simp only [← hji112] <;> (first | rfl | simp)) | (simp [*]; done)), (by first | (with_reducible exact H') | (simp only [hji3, hji112]; with_reducible exact H') | (simp only [hji3, hji112] at H' ⊢; with_reducible exact H') | exact H'), ⟨by have := HK1.out; have := HJ16.out; have := HJ27.out; have := HJ29.out; have := HK5.out; have := HJ79.out; omega⟩, ⟨by (with_reducible repeat (first | apply Kd.R_alloc | apply Kd.R_drewN | apply Kd.R_drew)); exact Kd.R_mono HO_5.out (fun _ hk => hk.2)⟩, ⟨by (with_reducible repeat (first | apply Kd.R_alloc | apply Kd.R_drewN | apply Kd.R_drew)); exact HO_7.out⟩, ⟨by (with_reducible repeat (first | apply Kd.R_alloc | apply Kd.R_drewN | apply Kd.R_drew)); exact HO_9.out⟩, ⟨by repeat (first | (with_reducible first | exact HB.out | apply below_alloc | apply pw_below_drewN | apply below_drew1) | exact HB.out)⟩⟩
                                                                      · rw [if_neg c114] at H
                                                                        exact absurd H (by simp)
                                                                    · rw [if_neg c113] at H
                                                                      exact absurd H (by simp)
                                                                · rw [if_neg c101] at H
                                                                  exact absurd H (by simp)
                                                              · rw [if_neg c100] at H
                                                                exact absurd H (by simp)
                                                            · replace c99 := Bool.eq_false_iff.mpr c99
                                                              subst c99
                                                              have H1 : (if 0 ≤ x13_5 then (if x13_5 < (a1.size : Int) then (if 0 ≤ (wrap64 (x13_5 + 1)) then (if (wrap64 (x13_5 + 1)) < (x7_5.length : Int) then (patchworkref1_Glob.l1 kj79 a0 a1 x5_1 x6_1 (x7_5.set ((wrap64 (x13_5 + 1)) : Int).toNat ((bt a1 x13_5) == x12_29)) x8_29 x9_16 x10_16 false x12_29 (wrap64 (x13_5 + 1))) else (none)) else (none)) else (none)) else (none)) = some r := by rw [if_neg (show ¬ (false = true) by decide)] at H; exact H
                                                              clear H
                                                              have H := H1
                                                              clear H1
                                                              by_cases c119 : 0 ≤ x13_5
                                                              · rw [if_pos c119] at H
                                                                have c119b0 : decide (0 ≤ x13_5) = true := decide_eq_true c119
                                                                clear c119
                                                                by_cases c120 : x13_5 < (a1.size : Int)
                                                                · rw [if_pos c120] at H
                                                                  have c120b0 : decide (x13_5 < (a1.size : Int)) = true := decide_eq_true c120
                                                                  clear c120
                                                                  obtain ⟨ji122, hji122⟩ : ∃ j_ : Int, (wrap64 (x13_5 + 1)) = j_ := ⟨_, rfl⟩
                                                                  replace H : (if 0 ≤ (ji122) then (if (ji122) < (x7_5.length : Int) then (patchworkref1_Glob.l1 kj79 a0 a1 x5_1 x6_1 (x7_5.set ((ji122) : Int).toNat ((bt a1 x13_5) == x12_29)) x8_29 x9_16 x10_16 false x12_29 ji122) else (none)) else (none)) = some r := by first | (rw [hji122] at H; exact H) | (simp only [hji122] at H ⊢; exact H)
                                                                  have hji122w : (IntKind.i64.wrap (x13_5 + 1)) = ji122 := (i64_w _).trans hji122
                                                                  by_cases c123 : 0 ≤ (ji122)
                                                                  · rw [if_pos c123] at H
                                                                    have c123b0 : decide (0 ≤ (ji122)) = true := decide_eq_true c123
                                                                    clear c123
                                                                    by_cases c124 : (ji122) < (x7_5.length : Int)
                                                                    · rw [if_pos c124] at H
                                                                      have c124b0 : decide ((ji122) < (x7_5.length : Int)) = true := decide_eq_true c124
                                                                      clear c124
                                                                      obtain ⟨y188, hy188⟩ : ∃ y_ : List Bool, y_ = (x7_5.set ((ji122) : Int).toNat ((bt a1 x13_5) == x12_29)) := ⟨_, rfl⟩
                                                                      replace H : (patchworkref1_Glob.l1 kj79 a0 a1 x5_1 x6_1 y188 x8_29 x9_16 x10_16 false x12_29 ji122) = some r := by first | (rw [hy188]; with_reducible exact H) | (have H2_ := (Option.bind_some _ _).symm.trans H; rw [hy188]; with_reducible exact H2_) | (have H2_ := (Option.bind_some _ _).symm.trans H; with_reducible exact H2_) | with_reducible exact H | (rw [hy188]; exact H) | exact H
                                                                      have Ny188 := Aside0.mk hy188
                                                                      clear hy188
                                                                      have H' := Aside0.mk H
                                                                      clear H
                                                                      have p88 : 0 ≤ (x6_1 : Int) := of_decide_eq_true (by first | (with_reducible assumption) | assumption)
                                                                      have q88 : x6_1 < (a0.size : Int) := of_decide_eq_true (by first | (with_reducible assumption) | assumption)
                                                                      have hx88 := bt_at a0 x6_1
                                                                      replace p88 := eq_true p88
                                                                      replace q88 := eq_true q88
                                                                      have p121 : 0 ≤ (x13_5 : Int) := of_decide_eq_true (by first | (with_reducible assumption) | assumption)
                                                                      have q121 : x13_5 < (a1.size : Int) := of_decide_eq_true (by first | (with_reducible assumption) | assumption)
                                                                      have hx121 := bt_at a1 x13_5
                                                                      replace p121 := eq_true p121
                                                                      replace q121 := eq_true q121
                                                                      have p125 : 0 ≤ ((ji122) : Int) := of_decide_eq_true (by first | (with_reducible assumption) | assumption)
                                                                      have q125 : ((ji122) : Int) < ((x7_5.length : Int) : Int) := of_decide_eq_true (by first | (with_reducible assumption) | assumption)
                                                                      obtain ⟨go125, co125, eo125, gb125, gl125, cl125, HG125⟩ := Kd.R_form HO_7.out (by omega)
                                                                      (first | cases eo125 | (injection eo125 with ea_ en_ ec_; (first | subst ea_ | (injection ea_ with ea_; subst ea_)); subst ec_; clear en_))
                                                                      have GB125 := Aside0.mk gb125
                                                                      have GG125 := Aside0.mk HG125
                                                                      clear gb125 gl125 HG125
                                                                      obtain ⟨hx125_0, hf125_0⟩ := Kd.R_celln false HO_7.out ((ji122) : Int) p125 q125
                                                                      replace p125 := eq_true p125
                                                                      replace q125 := eq_true q125
                                                                      have HP126 := Kd.R_putg HO_7.out ((ji122) : Int) ((bt a1 x13_5) == x12_29)
                                                                      go_wp2_with (first | ((with_reducible refine gate_store (t := 4) (p := 79) rfl ?_); refine store_event (t := 4) (p := 79) (v := ?vo_w127) (w1 := (wc.setCell ⟨go125, ((ji122) : Int).toNat, none⟩ (.bool ((bt a1 x13_5) == x12_29)))) ?hg ?ho ?hn ?hr ?_; (case ho => rfl); (case hg => rfl); (case hn => rfl); (case hr => first | (go_simp; done) | (go_simp; rfl)); intro w127 hw; have hg : wc.grownBy w127 (some go125) := (by rw [hw]; exact HP126.2); have hp_ : Kd.R Kd.bool 4 w127 w.heap.size (fun k_ => some k_ ≠ (u5 : Value).ownBlock) (.slice (some ⟨go125, 0, none⟩) x7_5.length co125) y188 := (by rw [hw, Ny188.out]; exact HP126.1); clear HP126; have n0_ := Aside0.mk (Kd.R_after (v := (.slice (some ⟨go125, 0, none⟩) x7_5.length co125)) (v1 := (.slice (some ⟨go125, 0, none⟩) x7_5.length co125)) (ok := (fun _ => True)) (by (with_reducible repeat (first | apply Kd.R_alloc | apply Kd.R_drewN | apply Kd.R_drew)); exact Kd.R_mono HO_5.out (fun _ hk => ⟨trivial, hk⟩)) hg (.inl rfl)); have n1_ := Aside0.mk (hp_); have n2_ := Aside0.mk (Kd.R_over' (v := (.slice (some ⟨go125, 0, none⟩) x7_5.length co125)) (by (with_reducible repeat (first | apply Kd.R_alloc | apply Kd.R_drewN | apply Kd.R_drew)); exact HO_9.out) (Kd.R_typed HO_7.out) (by decide) hg); have n3_ := Aside0.mk ((by rw [hw]; exact below_set (HB.out) GB125.out : Below w.heap.size w w127)); clear HO_5; clear HO_7; clear HO_9; clear HB; have HO_5 := n0_; have HO_7 := n1_; have HO_9 := n2_; have HB := n3_; clear n0_ n1_ n2_ n3_; clear hg hw hp_))
                                                                      (first | go_roundg kj79 | (simp only [← hji3, ← hji122]; go_roundg kj79) | (simp only [← hji3]; go_roundg kj79) | (simp only [← hji122]; go_roundg kj79))
                                                                      case measure => have := HK1.out; have := HJ16.out; have := HJ27.out; have := HJ29.out; have := HK5.out; have := HJ79.out; omega
                                                                      case rel => exact ⟨(y188), (ji122), (by first | rfl | (simp; done) | (simp only [← hji122] <;> (first | rfl | simp)) | (simp [*]; done)), (by first | (with_reducible exact H') | (simp only [hji3, hji122]; with_reducible exact H') | (simp only [hji3, hji122] at H' ⊢; with_reducible exact H') | exact H'), ⟨by have := HK1.out; have := HJ16.out; have := HJ27.out; have := HJ29.out; have := HK5.out; have := HJ79.out; omega⟩, ⟨by (with_reducible repeat (first | apply Kd.R_alloc | apply Kd.R_drewN | apply Kd.R_drew)); exact Kd.R_mono HO_5.out (fun _ hk => hk.2)⟩, ⟨by (with_reducible repeat (first | apply Kd.R_alloc | apply Kd.R_drewN | apply Kd.R_drew)); exact HO_7.out⟩, ⟨by (with_reducible repeat (first | apply Kd.R_alloc | apply Kd.R_drewN | apply Kd.R_drew)); exact HO_9.out⟩, ⟨by repeat (first | (with_reducible first | exact HB.out | apply below_alloc | apply pw_below_drewN | apply below_drew1) | exact HB.out)⟩⟩
                                                                    · rw [if_neg c124] at H
                                                                      exact absurd H (by simp)
                                                                  · rw [if_neg c123] at H
                                                                    exact absurd H (by simp)
                                                                · rw [if_neg c120] at H
                                                                  exact absurd H (by simp)
                                                              · rw [if_neg c119] at H
                                                                exact absurd H (by simp)
                                                        · rw [if_neg c87] at H
                                                          exact absurd H (by simp)
                                                      · rw [if_neg c86] at H
                                                        exact absurd H (by simp)
                                            · rw [if_neg c38] at H
                                              exact absurd H (by simp)
                                          · rw [if_neg c37] at H
                                            exact absurd H (by simp)
                                        · rw [if_neg c36] at H
                                          have c36b0 : decide (x13_5 ≤ (a1.size : Int)) = false := decide_eq_false c36
                                          clear c36
                                          have H' := Aside0.mk H
                                          clear H
                                          go_wp2
                                          (first | go_roundg k5 | (simp only [← hji3]; go_roundg k5))
                                          case measure => have := HK1.out; have := HJ16.out; have := HJ27.out; have := HJ29.out; have := HK5.out; omega
                                          case rel => exact ⟨(x7_5), (x8_29), (by first | rfl | (simp; done) | (simp [*]; done)), (by first | (with_reducible exact H') | (simp only [hji3]; with_reducible exact H') | (simp only [hji3] at H' ⊢; with_reducible exact H') | exact H'), ⟨by have := HK1.out; have := HJ16.out; have := HJ27.out; have := HJ29.out; have := HK5.out; omega⟩, ⟨by (with_reducible repeat (first | apply Kd.R_alloc | apply Kd.R_drewN | apply Kd.R_drew)); exact Kd.R_mono HO_7.out (fun _ hk => trivial)⟩, ⟨by repeat (first | (with_reducible first | exact HB.out | apply below_alloc | apply pw_below_drewN | apply below_drew1) | exact HB.out)⟩⟩
                          · rw [if_neg c26] at H
                            exact absurd H (by simp)
                        · rw [if_neg c25] at H
                          exact absurd H (by simp)
                  · rw [if_neg c15] at H
                    exact absurd H (by simp)
                · rw [if_neg c14] at H
                  exact absurd H (by simp)
              · rw [if_neg c13] at H
                exact absurd H (by simp)
            · rw [if_neg c12] at H
              have c12b0 : decide (x6_1 < (a0.size : Int)) = false := decide_eq_false c12
              clear c12
              by_cases c128 : 0 ≤ (a1.size : Int)
              · rw [if_pos c128] at H
                have c128b0 : decide (0 ≤ (a1.size : Int)) = true := decide_eq_true c128
                have c128b1 : decide (0 ≤ a1.size) = true := decide_eq_true (by omega)
                clear c128
                by_cases c129 : (a1.size : Int) < (x5_1.length : Int)
                · rw [if_pos c129] at H
                  have c129b0 : decide ((a1.size : Int) < (x5_1.length : Int)) = true := decide_eq_true c129
                  have c129b1 : decide (a1.size < x5_1.length) = true := decide_eq_true (Int.ofNat_lt.mp c129)
                  clear c129
                  obtain rfl := Option.some.inj H
                  obtain ⟨Ao130, co130, eo130⟩ := Kd.R_slice HO_5.out
                  subst eo130
                  have p165 : 0 ≤ ((a1.size : Int) : Int) := of_decide_eq_true (by first | (with_reducible assumption) | assumption)
                  have q165 : (a1.size : Int) < (x5_1.length : Int) := of_decide_eq_true (by first | (with_reducible assumption) | assumption)
                  obtain ⟨ad165, e165, hx165_0⟩ := Kd.at_bool (Kd.R_reads' HO_5.out).2.2 (a1.size : Int) p165 q165
                  cases e165
                  (try simp only [Go.IntWalk.toNatUp] at hx165_0)
                  replace p165 := eq_true p165
                  replace q165 := eq_true q165
                  go_wp2
                  go_ret
                  exact ⟨by first | rfl | (simp [errW_none, errW_some] <;> rfl) | (simp only [← hji3]; first | rfl | (simp [errW_none, errW_some] <;> rfl)) | (simp [*, errW_none, errW_some] <;> rfl), by repeat (first | (with_reducible first | exact HB.out | apply below_alloc | apply pw_below_drewN | apply below_drew1) | exact HB.out)⟩
                · rw [if_neg c129] at H
                  exact absurd H (by simp)
              · rw [if_neg c128] at H
                exact absurd H (by simp)
      · rw [if_neg c6] at H
        exact absurd H (by simp)
    · rw [if_neg c5] at H
      exact absurd H (by simp)
  · rw [if_neg c4] at H
    exact absurd H (by simp)

end Go.Proofs.Ytahfoeichmfloaa.Gl
