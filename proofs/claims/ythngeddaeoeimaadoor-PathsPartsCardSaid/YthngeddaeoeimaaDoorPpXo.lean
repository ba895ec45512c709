/- The frame's own conditions. -/
import Derived.Test.YthngeddaeoeimaaDoorPpEnv
import Derived.Test.YthngeddaeoeimaaDoorTeV1
namespace Go.Proofs.YthngeddaeoeimaaDoorTE
open Go Go.Proofs.YthngeddaeoeimaaDoorVE
set_option linter.unusedVariables false
theorem wd_ok : ∀ t n, wd t = some n → tySize X0.C.P t = some n ∧ 0 < n ∧ zOk X0.C.P t n = true ∧ ∀ a : A t, (lay t a).length = n ∧ (lay t a).all (plainC wd) = true := by
  intro t n h
  unfold wd at h
  split at h
  · cases h; exact ⟨by kernel_rfl, by decide, by kernel_rfl, fun a => ⟨rfl, rfl⟩⟩
  · cases h; exact ⟨by kernel_rfl, by decide, by kernel_rfl, fun a => ⟨rfl, rfl⟩⟩
  · cases h; exact ⟨by kernel_rfl, by decide, by kernel_rfl, fun a => ⟨rfl, rfl⟩⟩
  · cases h; exact ⟨by kernel_rfl, by decide, by kernel_rfl, fun a => ⟨rfl, rfl⟩⟩
  · cases h; exact ⟨by kernel_rfl, by decide, by kernel_rfl, fun a => ⟨rfl, rfl⟩⟩
  · cases h; exact ⟨by kernel_rfl, by decide, by kernel_rfl, fun a => ⟨rfl, rfl⟩⟩
  · cases h; exact ⟨by kernel_rfl, by decide, by kernel_rfl, fun a => ⟨rfl, rfl⟩⟩
  · cases h; exact ⟨by kernel_rfl, by decide, by kernel_rfl, fun a => ⟨rfl, rfl⟩⟩
  · cases h; exact ⟨by kernel_rfl, by decide, by kernel_rfl, fun a => ⟨rfl, rfl⟩⟩
  · cases h; exact ⟨by kernel_rfl, by decide, by kernel_rfl, fun a => ⟨rfl, rfl⟩⟩
  · cases h; exact ⟨by kernel_rfl, by decide, by kernel_rfl, fun a => ⟨rfl, rfl⟩⟩
  · cases h; exact ⟨by kernel_rfl, by decide, by kernel_rfl, fun a => ⟨rfl, rfl⟩⟩
  · cases h; exact ⟨by kernel_rfl, by decide, by kernel_rfl, fun a => ⟨rfl, rfl⟩⟩
  · cases h; exact ⟨by kernel_rfl, by decide, by kernel_rfl, fun a => ⟨rfl, rfl⟩⟩
  · cases h; exact ⟨by kernel_rfl, by decide, by kernel_rfl, fun a => ⟨rfl, rfl⟩⟩
  · cases h; exact ⟨by kernel_rfl, by decide, by kernel_rfl, fun a => ⟨rfl, rfl⟩⟩
  · cases h; exact ⟨by kernel_rfl, by decide, by kernel_rfl, fun a => ⟨rfl, rfl⟩⟩
  · cases h; exact ⟨by kernel_rfl, by decide, by kernel_rfl, fun a => ⟨rfl, rfl⟩⟩
  · cases h; exact ⟨by kernel_rfl, by decide, by kernel_rfl, fun a => ⟨rfl, rfl⟩⟩
  · cases h; exact ⟨by kernel_rfl, by decide, by kernel_rfl, fun a => ⟨rfl, rfl⟩⟩
  · cases h; exact ⟨by kernel_rfl, by decide, by kernel_rfl, fun a => ⟨rfl, rfl⟩⟩
  · cases h; exact ⟨by kernel_rfl, by decide, by kernel_rfl, fun a => ⟨rfl, rfl⟩⟩
  · cases h; exact ⟨by kernel_rfl, by decide, by kernel_rfl, fun a => ⟨rfl, rfl⟩⟩
  · cases h; exact ⟨by kernel_rfl, by decide, by kernel_rfl, fun a => ⟨rfl, rfl⟩⟩
  · cases h; exact ⟨by kernel_rfl, by decide, by kernel_rfl, fun a => ⟨rfl, rfl⟩⟩
  · cases h; exact ⟨by kernel_rfl, by decide, by kernel_rfl, fun a => ⟨rfl, rfl⟩⟩
  · cases h; exact ⟨by kernel_rfl, by decide, by kernel_rfl, fun a => ⟨rfl, rfl⟩⟩
  · cases h; exact ⟨by kernel_rfl, by decide, by kernel_rfl, fun a => ⟨rfl, rfl⟩⟩
  · cases h; exact ⟨by kernel_rfl, by decide, by kernel_rfl, fun a => ⟨rfl, rfl⟩⟩
  · cases h; exact ⟨by kernel_rfl, by decide, by kernel_rfl, fun a => ⟨rfl, rfl⟩⟩
  · cases h; exact ⟨by kernel_rfl, by decide, by kernel_rfl, fun a => ⟨rfl, rfl⟩⟩
  · cases h
theorem dec_2 (cs : List (TV A)) (x : A 2) (h : dec 2 cs = some x) (r : Rn) (cs' : List PV) (hv : VRs X0 r cs cs') : VRs X0 r (lay 2 x) cs' := by
  rcases cs with _ | ⟨c0, cs⟩
  · cases h
  rcases cs with _ | ⟨c1, cs⟩
  rotate_left
  · cases h
  have h : (match dI .i64 c0 with | some a0 => some a0 | none => none) = some (x : Int) := h
  obtain ⟨a0, e0⟩ : ∃ a, dI .i64 c0 = some a := by
    cases e : dI .i64 c0 with
    | none => rw [e] at h; cases h
    | some a => exact ⟨a, rfl⟩
  rw [e0] at h
  have h : some a0 = some (x : Int) := h
  obtain ⟨q0, cs', rfl, g0, hv⟩ := VRs.cons_iff.1 hv
  cases h
  exact VRs.cons (cI e0 g0) (hv)
theorem dec_3 (cs : List (TV A)) (x : A 3) (h : dec 3 cs = some x) (r : Rn) (cs' : List PV) (hv : VRs X0 r cs cs') : VRs X0 r (lay 3 x) cs' := by
  rcases cs with _ | ⟨c0, cs⟩
  · cases h
  rcases cs with _ | ⟨c1, cs⟩
  rotate_left
  · cases h
  have h : (match dI .i64 c0 with | some a0 => some a0 | none => none) = some (x : Int) := h
  obtain ⟨a0, e0⟩ : ∃ a, dI .i64 c0 = some a := by
    cases e : dI .i64 c0 with
    | none => rw [e] at h; cases h
    | some a => exact ⟨a, rfl⟩
  rw [e0] at h
  have h : some a0 = some (x : Int) := h
  obtain ⟨q0, cs', rfl, g0, hv⟩ := VRs.cons_iff.1 hv
  cases h
  exact VRs.cons (cI e0 g0) (hv)
theorem dec_4 (cs : List (TV A)) (x : A 4) (h : dec 4 cs = some x) (r : Rn) (cs' : List PV) (hv : VRs X0 r cs cs') : VRs X0 r (lay 4 x) cs' := by
  rcases cs with _ | ⟨c0, cs⟩
  · cases h
  rcases cs with _ | ⟨c1, cs⟩
  rotate_left
  · cases h
  have h : (match dB c0 with | some a0 => some a0 | none => none) = some (x : Bool) := h
  obtain ⟨a0, e0⟩ : ∃ a, dB c0 = some a := by
    cases e : dB c0 with
    | none => rw [e] at h; cases h
    | some a => exact ⟨a, rfl⟩
  rw [e0] at h
  have h : some a0 = some (x : Bool) := h
  obtain ⟨q0, cs', rfl, g0, hv⟩ := VRs.cons_iff.1 hv
  cases h
  exact VRs.cons (cB e0 g0) (hv)
theorem dec_5 (cs : List (TV A)) (x : A 5) (h : dec 5 cs = some x) (r : Rn) (cs' : List PV) (hv : VRs X0 r cs cs') : VRs X0 r (lay 5 x) cs' := by
  rcases cs with _ | ⟨c0, cs⟩
  · cases h
  rcases cs with _ | ⟨c1, cs⟩
  rotate_left
  · cases h
  have h : (match dI .u8 c0 with | some a0 => some a0 | none => none) = some (x : Int) := h
  obtain ⟨a0, e0⟩ : ∃ a, dI .u8 c0 = some a := by
    cases e : dI .u8 c0 with
    | none => rw [e] at h; cases h
    | some a => exact ⟨a, rfl⟩
  rw [e0] at h
  have h : some a0 = some (x : Int) := h
  obtain ⟨q0, cs', rfl, g0, hv⟩ := VRs.cons_iff.1 hv
  cases h
  exact VRs.cons (cI e0 g0) (hv)
theorem dec_6 (cs : List (TV A)) (x : A 6) (h : dec 6 cs = some x) (r : Rn) (cs' : List PV) (hv : VRs X0 r cs cs') : VRs X0 r (lay 6 x) cs' := by
  rcases cs with _ | ⟨c0, cs⟩
  · cases h
  rcases cs with _ | ⟨c1, cs⟩
  rotate_left
  · cases h
  have h : (match dI .u8 c0 with | some a0 => some a0 | none => none) = some (x : Int) := h
  obtain ⟨a0, e0⟩ : ∃ a, dI .u8 c0 = some a := by
    cases e : dI .u8 c0 with
    | none => rw [e] at h; cases h
    | some a => exact ⟨a, rfl⟩
  rw [e0] at h
  have h : some a0 = some (x : Int) := h
  obtain ⟨q0, cs', rfl, g0, hv⟩ := VRs.cons_iff.1 hv
  cases h
  exact VRs.cons (cI e0 g0) (hv)
theorem dec_8 (cs : List (TV A)) (x : A 8) (h : dec 8 cs = some x) (r : Rn) (cs' : List PV) (hv : VRs X0 r cs cs') : VRs X0 r (lay 8 x) cs' := by
  rcases cs with _ | ⟨c0, cs⟩
  · cases h
  rcases cs with _ | ⟨c1, cs⟩
  · cases h
  rcases cs with _ | ⟨c2, cs⟩
  · cases h
  rcases cs with _ | ⟨c3, cs⟩
  · cases h
  rcases cs with _ | ⟨c4, cs⟩
  rotate_left
  · cases h
  have h : (match dI .i64 c0 with | some a0 => (match dI .i64 c1 with | some a1 => (match dB c2 with | some a2 => (match dI .u8 c3 with | some a3 => some (RuntimeBoundsError.mk a0 a1 a2 a3) | none => none) | none => none) | none => none) | none => none) = some (x : RuntimeBoundsError) := h
  obtain ⟨a0, e0⟩ : ∃ a, dI .i64 c0 = some a := by
    cases e : dI .i64 c0 with
    | none => rw [e] at h; cases h
    | some a => exact ⟨a, rfl⟩
  rw [e0] at h
  have h : (match dI .i64 c1 with | some a1 => (match dB c2 with | some a2 => (match dI .u8 c3 with | some a3 => some (RuntimeBoundsError.mk a0 a1 a2 a3) | none => none) | none => none) | none => none) = some (x : RuntimeBoundsError) := h
  obtain ⟨q0, cs', rfl, g0, hv⟩ := VRs.cons_iff.1 hv
  obtain ⟨a1, e1⟩ : ∃ a, dI .i64 c1 = some a := by
    cases e : dI .i64 c1 with
    | none => rw [e] at h; cases h
    | some a => exact ⟨a, rfl⟩
  rw [e1] at h
  have h : (match dB c2 with | some a2 => (match dI .u8 c3 with | some a3 => some (RuntimeBoundsError.mk a0 a1 a2 a3) | none => none) | none => none) = some (x : RuntimeBoundsError) := h
  obtain ⟨q1, cs', rfl, g1, hv⟩ := VRs.cons_iff.1 hv
  obtain ⟨a2, e2⟩ : ∃ a, dB c2 = some a := by
    cases e : dB c2 with
    | none => rw [e] at h; cases h
    | some a => exact ⟨a, rfl⟩
  rw [e2] at h
  have h : (match dI .u8 c3 with | some a3 => some (RuntimeBoundsError.mk a0 a1 a2 a3) | none => none) = some (x : RuntimeBoundsError) := h
  obtain ⟨q2, cs', rfl, g2, hv⟩ := VRs.cons_iff.1 hv
  obtain ⟨a3, e3⟩ : ∃ a, dI .u8 c3 = some a := by
    cases e : dI .u8 c3 with
    | none => rw [e] at h; cases h
    | some a => exact ⟨a, rfl⟩
  rw [e3] at h
  have h : some (RuntimeBoundsError.mk a0 a1 a2 a3) = some (x : RuntimeBoundsError) := h
  obtain ⟨q3, cs', rfl, g3, hv⟩ := VRs.cons_iff.1 hv
  cases h
  exact VRs.cons (cI e0 g0) (VRs.cons (cI e1 g1) (VRs.cons (cB e2 g2) (VRs.cons (cI e3 g3) (hv))))
theorem dec_9 (cs : List (TV A)) (x : A 9) (h : dec 9 cs = some x) (r : Rn) (cs' : List PV) (hv : VRs X0 r cs cs') : VRs X0 r (lay 9 x) cs' := by
  rcases cs with _ | ⟨c0, cs⟩
  · cases h
  rcases cs with _ | ⟨c1, cs⟩
  rotate_left
  · cases h
  have h : (match dS c0 with | some a0 => some a0 | none => none) = some (x : List UInt8) := h
  obtain ⟨a0, e0⟩ : ∃ a, dS c0 = some a := by
    cases e : dS c0 with
    | none => rw [e] at h; cases h
    | some a => exact ⟨a, rfl⟩
  rw [e0] at h
  have h : some a0 = some (x : List UInt8) := h
  obtain ⟨q0, cs', rfl, g0, hv⟩ := VRs.cons_iff.1 hv
  cases h
  exact VRs.cons (cS e0 g0) (hv)
theorem dec_10 (cs : List (TV A)) (x : A 10) (h : dec 10 cs = some x) (r : Rn) (cs' : List PV) (hv : VRs X0 r cs cs') : VRs X0 r (lay 10 x) cs' := by
  rcases cs with _ | ⟨c0, cs⟩
  · cases h
  rcases cs with _ | ⟨c1, cs⟩
  rotate_left
  · cases h
  have h : (match dS c0 with | some a0 => some a0 | none => none) = some (x : List UInt8) := h
  obtain ⟨a0, e0⟩ : ∃ a, dS c0 = some a := by
    cases e : dS c0 with
    | none => rw [e] at h; cases h
    | some a => exact ⟨a, rfl⟩
  rw [e0] at h
  have h : some a0 = some (x : List UInt8) := h
  obtain ⟨q0, cs', rfl, g0, hv⟩ := VRs.cons_iff.1 hv
  cases h
  exact VRs.cons (cS e0 g0) (hv)
theorem dec_11 (cs : List (TV A)) (x : A 11) (h : dec 11 cs = some x) (r : Rn) (cs' : List PV) (hv : VRs X0 r cs cs') : VRs X0 r (lay 11 x) cs' := by
  rcases cs with _ | ⟨c0, cs⟩
  · cases h
  rcases cs with _ | ⟨c1, cs⟩
  rotate_left
  · cases h
  have h : (match dS c0 with | some a0 => some a0 | none => none) = some (x : List UInt8) := h
  obtain ⟨a0, e0⟩ : ∃ a, dS c0 = some a := by
    cases e : dS c0 with
    | none => rw [e] at h; cases h
    | some a => exact ⟨a, rfl⟩
  rw [e0] at h
  have h : some a0 = some (x : List UInt8) := h
  obtain ⟨q0, cs', rfl, g0, hv⟩ := VRs.cons_iff.1 hv
  cases h
  exact VRs.cons (cS e0 g0) (hv)
theorem dec_12 (cs : List (TV A)) (x : A 12) (h : dec 12 cs = some x) (r : Rn) (cs' : List PV) (hv : VRs X0 r cs cs') : VRs X0 r (lay 12 x) cs' := by
  rcases cs with _ | ⟨c0, cs⟩
  · cases h
  rcases cs with _ | ⟨c1, cs⟩
  rotate_left
  · cases h
  have h : (match dI .u64 c0 with | some a0 => some a0 | none => none) = some (x : Int) := h
  obtain ⟨a0, e0⟩ : ∃ a, dI .u64 c0 = some a := by
    cases e : dI .u64 c0 with
    | none => rw [e] at h; cases h
    | some a => exact ⟨a, rfl⟩
  rw [e0] at h
  have h : some a0 = some (x : Int) := h
  obtain ⟨q0, cs', rfl, g0, hv⟩ := VRs.cons_iff.1 hv
  cases h
  exact VRs.cons (cI e0 g0) (hv)
theorem dec_14 (cs : List (TV A)) (x : A 14) (h : dec 14 cs = some x) (r : Rn) (cs' : List PV) (hv : VRs X0 r cs cs') : VRs X0 r (lay 14 x) cs' := by
  rcases cs with _ | ⟨c0, cs⟩
  · cases h
  rcases cs with _ | ⟨c1, cs⟩
  · cases h
  rcases cs with _ | ⟨c2, cs⟩
  rotate_left
  · cases h
  have h : (match dS c0 with | some a0 => (match dI .u64 c1 with | some a1 => some (RuntimeErrorAddressString.mk a0 a1) | none => none) | none => none) = some (x : RuntimeErrorAddressString) := h
  obtain ⟨a0, e0⟩ : ∃ a, dS c0 = some a := by
    cases e : dS c0 with
    | none => rw [e] at h; cases h
    | some a => exact ⟨a, rfl⟩
  rw [e0] at h
  have h : (match dI .u64 c1 with | some a1 => some (RuntimeErrorAddressString.mk a0 a1) | none => none) = some (x : RuntimeErrorAddressString) := h
  obtain ⟨q0, cs', rfl, g0, hv⟩ := VRs.cons_iff.1 hv
  obtain ⟨a1, e1⟩ : ∃ a, dI .u64 c1 = some a := by
    cases e : dI .u64 c1 with
    | none => rw [e] at h; cases h
    | some a => exact ⟨a, rfl⟩
  rw [e1] at h
  have h : some (RuntimeErrorAddressString.mk a0 a1) = some (x : RuntimeErrorAddressString) := h
  obtain ⟨q1, cs', rfl, g1, hv⟩ := VRs.cons_iff.1 hv
  cases h
  exact VRs.cons (cS e0 g0) (VRs.cons (cI e1 g1) (hv))
theorem dec_21 (cs : List (TV A)) (x : A 21) (h : dec 21 cs = some x) (r : Rn) (cs' : List PV) (hv : VRs X0 r cs cs') : VRs X0 r (lay 21 x) cs' := by
  rcases cs with _ | ⟨c0, cs⟩
  · cases h
  rcases cs with _ | ⟨c1, cs⟩
  rotate_left
  · cases h
  have h : (match dI .i32 c0 with | some a0 => some a0 | none => none) = some (x : Int) := h
  obtain ⟨a0, e0⟩ : ∃ a, dI .i32 c0 = some a := by
    cases e : dI .i32 c0 with
    | none => rw [e] at h; cases h
    | some a => exact ⟨a, rfl⟩
  rw [e0] at h
  have h : some a0 = some (x : Int) := h
  obtain ⟨q0, cs', rfl, g0, hv⟩ := VRs.cons_iff.1 hv
  cases h
  exact VRs.cons (cI e0 g0) (hv)
theorem dec_22 (cs : List (TV A)) (x : A 22) (h : dec 22 cs = some x) (r : Rn) (cs' : List PV) (hv : VRs X0 r cs cs') : VRs X0 r (lay 22 x) cs' := by
  rcases cs with _ | ⟨c0, cs⟩
  · cases h
  rcases cs with _ | ⟨c1, cs⟩
  rotate_left
  · cases h
  have h : (match dR 9 c0 with | some a0 => some a0 | none => none) = some (x : List (List UInt8)) := h
  obtain ⟨a0, e0⟩ : ∃ a, dR 9 c0 = some a := by
    cases e : dR 9 c0 with
    | none => rw [e] at h; cases h
    | some a => exact ⟨a, rfl⟩
  rw [e0] at h
  have h : some a0 = some (x : List (List UInt8)) := h
  obtain ⟨q0, cs', rfl, g0, hv⟩ := VRs.cons_iff.1 hv
  cases h
  exact VRs.cons (cR (X := X0) (show wd 9 = some _ from rfl) e0 g0) (hv)
theorem dec_31 (cs : List (TV A)) (x : A 31) (h : dec 31 cs = some x) (r : Rn) (cs' : List PV) (hv : VRs X0 r cs cs') : VRs X0 r (lay 31 x) cs' := by
  rcases cs with _ | ⟨c0, cs⟩
  · cases h
  rcases cs with _ | ⟨c1, cs⟩
  rotate_left
  · cases h
  have h : (match dR 3 c0 with | some a0 => some a0 | none => none) = some (x : List Int) := h
  obtain ⟨a0, e0⟩ : ∃ a, dR 3 c0 = some a := by
    cases e : dR 3 c0 with
    | none => rw [e] at h; cases h
    | some a => exact ⟨a, rfl⟩
  rw [e0] at h
  have h : some a0 = some (x : List Int) := h
  obtain ⟨q0, cs', rfl, g0, hv⟩ := VRs.cons_iff.1 hv
  cases h
  exact VRs.cons (cR (X := X0) (show wd 3 = some _ from rfl) e0 g0) (hv)
theorem dec_32 (cs : List (TV A)) (x : A 32) (h : dec 32 cs = some x) (r : Rn) (cs' : List PV) (hv : VRs X0 r cs cs') : VRs X0 r (lay 32 x) cs' := by
  rcases cs with _ | ⟨c0, cs⟩
  · cases h
  rcases cs with _ | ⟨c1, cs⟩
  rotate_left
  · cases h
  have h : (match dR 4 c0 with | some a0 => some a0 | none => none) = some (x : List Bool) := h
  obtain ⟨a0, e0⟩ : ∃ a, dR 4 c0 = some a := by
    cases e : dR 4 c0 with
    | none => rw [e] at h; cases h
    | some a => exact ⟨a, rfl⟩
  rw [e0] at h
  have h : some a0 = some (x : List Bool) := h
  obtain ⟨q0, cs', rfl, g0, hv⟩ := VRs.cons_iff.1 hv
  cases h
  exact VRs.cons (cR (X := X0) (show wd 4 = some _ from rfl) e0 g0) (hv)
theorem dec_41 (cs : List (TV A)) (x : A 41) (h : dec 41 cs = some x) (r : Rn) (cs' : List PV) (hv : VRs X0 r cs cs') : VRs X0 r (lay 41 x) cs' := by
  rcases cs with _ | ⟨c0, cs⟩
  · cases h
  rcases cs with _ | ⟨c1, cs⟩
  rotate_left
  · cases h
  have h : (match dI .i64 c0 with | some a0 => some a0 | none => none) = some (x : Int) := h
  obtain ⟨a0, e0⟩ : ∃ a, dI .i64 c0 = some a := by
    cases e : dI .i64 c0 with
    | none => rw [e] at h; cases h
    | some a => exact ⟨a, rfl⟩
  rw [e0] at h
  have h : some a0 = some (x : Int) := h
  obtain ⟨q0, cs', rfl, g0, hv⟩ := VRs.cons_iff.1 hv
  cases h
  exact VRs.cons (cI e0 g0) (hv)
theorem dec_46 (cs : List (TV A)) (x : A 46) (h : dec 46 cs = some x) (r : Rn) (cs' : List PV) (hv : VRs X0 r cs cs') : VRs X0 r (lay 46 x) cs' := by
  rcases cs with _ | ⟨c0, cs⟩
  · cases h
  rcases cs with _ | ⟨c1, cs⟩
  rotate_left
  · cases h
  have h : (match dR 65 c0 with | some a0 => some a0 | none => none) = some (x : List Range) := h
  obtain ⟨a0, e0⟩ : ∃ a, dR 65 c0 = some a := by
    cases e : dR 65 c0 with
    | none => rw [e] at h; cases h
    | some a => exact ⟨a, rfl⟩
  rw [e0] at h
  have h : some a0 = some (x : List Range) := h
  obtain ⟨q0, cs', rfl, g0, hv⟩ := VRs.cons_iff.1 hv
  cases h
  exact VRs.cons (cR (X := X0) (show wd 65 = some _ from rfl) e0 g0) (hv)
theorem dec_49 (cs : List (TV A)) (x : A 49) (h : dec 49 cs = some x) (r : Rn) (cs' : List PV) (hv : VRs X0 r cs cs') : VRs X0 r (lay 49 x) cs' := by
  rcases cs with _ | ⟨c0, cs⟩
  · cases h
  rcases cs with _ | ⟨c1, cs⟩
  rotate_left
  · cases h
  have h : (match dR 5 c0 with | some a0 => some a0 | none => none) = some (x : List Int) := h
  obtain ⟨a0, e0⟩ : ∃ a, dR 5 c0 = some a := by
    cases e : dR 5 c0 with
    | none => rw [e] at h; cases h
    | some a => exact ⟨a, rfl⟩
  rw [e0] at h
  have h : some a0 = some (x : List Int) := h
  obtain ⟨q0, cs', rfl, g0, hv⟩ := VRs.cons_iff.1 hv
  cases h
  exact VRs.cons (cR (X := X0) (show wd 5 = some _ from rfl) e0 g0) (hv)
theorem dec_65 (cs : List (TV A)) (x : A 65) (h : dec 65 cs = some x) (r : Rn) (cs' : List PV) (hv : VRs X0 r cs cs') : VRs X0 r (lay 65 x) cs' := by
  rcases cs with _ | ⟨c0, cs⟩
  · cases h
  rcases cs with _ | ⟨c1, cs⟩
  · cases h
  rcases cs with _ | ⟨c2, cs⟩
  rotate_left
  · cases h
  have h : (match dI .i64 c0 with | some a0 => (match dI .i64 c1 with | some a1 => some (Range.mk a0 a1) | none => none) | none => none) = some (x : Range) := h
  obtain ⟨a0, e0⟩ : ∃ a, dI .i64 c0 = some a := by
    cases e : dI .i64 c0 with
    | none => rw [e] at h; cases h
    | some a => exact ⟨a, rfl⟩
  rw [e0] at h
  have h : (match dI .i64 c1 with | some a1 => some (Range.mk a0 a1) | none => none) = some (x : Range) := h
  obtain ⟨q0, cs', rfl, g0, hv⟩ := VRs.cons_iff.1 hv
  obtain ⟨a1, e1⟩ : ∃ a, dI .i64 c1 = some a := by
    cases e : dI .i64 c1 with
    | none => rw [e] at h; cases h
    | some a => exact ⟨a, rfl⟩
  rw [e1] at h
  have h : some (Range.mk a0 a1) = some (x : Range) := h
  obtain ⟨q1, cs', rfl, g1, hv⟩ := VRs.cons_iff.1 hv
  cases h
  exact VRs.cons (cI e0 g0) (VRs.cons (cI e1 g1) (hv))
theorem dec_82 (cs : List (TV A)) (x : A 82) (h : dec 82 cs = some x) (r : Rn) (cs' : List PV) (hv : VRs X0 r cs cs') : VRs X0 r (lay 82 x) cs' := by
  rcases cs with _ | ⟨c0, cs⟩
  · cases h
  rcases cs with _ | ⟨c1, cs⟩
  rotate_left
  · cases h
  have h : (match dR 84 c0 with | some a0 => some a0 | none => none) = some (x : List StringsSpan) := h
  obtain ⟨a0, e0⟩ : ∃ a, dR 84 c0 = some a := by
    cases e : dR 84 c0 with
    | none => rw [e] at h; cases h
    | some a => exact ⟨a, rfl⟩
  rw [e0] at h
  have h : some a0 = some (x : List StringsSpan) := h
  obtain ⟨q0, cs', rfl, g0, hv⟩ := VRs.cons_iff.1 hv
  cases h
  exact VRs.cons (cR (X := X0) (show wd 84 = some _ from rfl) e0 g0) (hv)
theorem dec_84 (cs : List (TV A)) (x : A 84) (h : dec 84 cs = some x) (r : Rn) (cs' : List PV) (hv : VRs X0 r cs cs') : VRs X0 r (lay 84 x) cs' := by
  rcases cs with _ | ⟨c0, cs⟩
  · cases h
  rcases cs with _ | ⟨c1, cs⟩
  · cases h
  rcases cs with _ | ⟨c2, cs⟩
  rotate_left
  · cases h
  have h : (match dI .i64 c0 with | some a0 => (match dI .i64 c1 with | some a1 => some (StringsSpan.mk a0 a1) | none => none) | none => none) = some (x : StringsSpan) := h
  obtain ⟨a0, e0⟩ : ∃ a, dI .i64 c0 = some a := by
    cases e : dI .i64 c0 with
    | none => rw [e] at h; cases h
    | some a => exact ⟨a, rfl⟩
  rw [e0] at h
  have h : (match dI .i64 c1 with | some a1 => some (StringsSpan.mk a0 a1) | none => none) = some (x : StringsSpan) := h
  obtain ⟨q0, cs', rfl, g0, hv⟩ := VRs.cons_iff.1 hv
  obtain ⟨a1, e1⟩ : ∃ a, dI .i64 c1 = some a := by
    cases e : dI .i64 c1 with
    | none => rw [e] at h; cases h
    | some a => exact ⟨a, rfl⟩
  rw [e1] at h
  have h : some (StringsSpan.mk a0 a1) = some (x : StringsSpan) := h
  obtain ⟨q1, cs', rfl, g1, hv⟩ := VRs.cons_iff.1 hv
  cases h
  exact VRs.cons (cI e0 g0) (VRs.cons (cI e1 g1) (hv))
theorem dec_95 (cs : List (TV A)) (x : A 95) (h : dec 95 cs = some x) (r : Rn) (cs' : List PV) (hv : VRs X0 r cs cs') : VRs X0 r (lay 95 x) cs' := by
  rcases cs with _ | ⟨c0, cs⟩
  · cases h
  rcases cs with _ | ⟨c1, cs⟩
  rotate_left
  · cases h
  have h : (match dI .i64 c0 with | some a0 => some a0 | none => none) = some (x : Int) := h
  obtain ⟨a0, e0⟩ : ∃ a, dI .i64 c0 = some a := by
    cases e : dI .i64 c0 with
    | none => rw [e] at h; cases h
    | some a => exact ⟨a, rfl⟩
  rw [e0] at h
  have h : some a0 = some (x : Int) := h
  obtain ⟨q0, cs', rfl, g0, hv⟩ := VRs.cons_iff.1 hv
  cases h
  exact VRs.cons (cI e0 g0) (hv)
theorem dec_103 (cs : List (TV A)) (x : A 103) (h : dec 103 cs = some x) (r : Rn) (cs' : List PV) (hv : VRs X0 r cs cs') : VRs X0 r (lay 103 x) cs' := by
  rcases cs with _ | ⟨c0, cs⟩
  · cases h
  rcases cs with _ | ⟨c1, cs⟩
  rotate_left
  · cases h
  have h : (match dI .u64 c0 with | some a0 => some a0 | none => none) = some (x : Int) := h
  obtain ⟨a0, e0⟩ : ∃ a, dI .u64 c0 = some a := by
    cases e : dI .u64 c0 with
    | none => rw [e] at h; cases h
    | some a => exact ⟨a, rfl⟩
  rw [e0] at h
  have h : some a0 = some (x : Int) := h
  obtain ⟨q0, cs', rfl, g0, hv⟩ := VRs.cons_iff.1 hv
  cases h
  exact VRs.cons (cI e0 g0) (hv)
theorem dec_110 (cs : List (TV A)) (x : A 110) (h : dec 110 cs = some x) (r : Rn) (cs' : List PV) (hv : VRs X0 r cs cs') : VRs X0 r (lay 110 x) cs' := by
  rcases cs with _ | ⟨c0, cs⟩
  · cases h
  rcases cs with _ | ⟨c1, cs⟩
  rotate_left
  · cases h
  have h : (match dI .u64 c0 with | some a0 => some a0 | none => none) = some (x : Int) := h
  obtain ⟨a0, e0⟩ : ∃ a, dI .u64 c0 = some a := by
    cases e : dI .u64 c0 with
    | none => rw [e] at h; cases h
    | some a => exact ⟨a, rfl⟩
  rw [e0] at h
  have h : some a0 = some (x : Int) := h
  obtain ⟨q0, cs', rfl, g0, hv⟩ := VRs.cons_iff.1 hv
  cases h
  exact VRs.cons (cI e0 g0) (hv)
theorem dec_120 (cs : List (TV A)) (x : A 120) (h : dec 120 cs = some x) (r : Rn) (cs' : List PV) (hv : VRs X0 r cs cs') : VRs X0 r (lay 120 x) cs' := by
  rcases cs with _ | ⟨c0, cs⟩
  · cases h
  rcases cs with _ | ⟨c1, cs⟩
  rotate_left
  · cases h
  have h : (match dI .u32 c0 with | some a0 => some a0 | none => none) = some (x : Int) := h
  obtain ⟨a0, e0⟩ : ∃ a, dI .u32 c0 = some a := by
    cases e : dI .u32 c0 with
    | none => rw [e] at h; cases h
    | some a => exact ⟨a, rfl⟩
  rw [e0] at h
  have h : some a0 = some (x : Int) := h
  obtain ⟨q0, cs', rfl, g0, hv⟩ := VRs.cons_iff.1 hv
  cases h
  exact VRs.cons (cI e0 g0) (hv)
theorem dec_125 (cs : List (TV A)) (x : A 125) (h : dec 125 cs = some x) (r : Rn) (cs' : List PV) (hv : VRs X0 r cs cs') : VRs X0 r (lay 125 x) cs' := by
  rcases cs with _ | ⟨c0, cs⟩
  · cases h
  rcases cs with _ | ⟨c1, cs⟩
  · cases h
  rcases cs with _ | ⟨c2, cs⟩
  rotate_left
  · cases h
  have h : (match dI .u8 c0 with | some a0 => (match dI .u8 c1 with | some a1 => some (Utf8AcceptRange.mk a0 a1) | none => none) | none => none) = some (x : Utf8AcceptRange) := h
  obtain ⟨a0, e0⟩ : ∃ a, dI .u8 c0 = some a := by
    cases e : dI .u8 c0 with
    | none => rw [e] at h; cases h
    | some a => exact ⟨a, rfl⟩
  rw [e0] at h
  have h : (match dI .u8 c1 with | some a1 => some (Utf8AcceptRange.mk a0 a1) | none => none) = some (x : Utf8AcceptRange) := h
  obtain ⟨q0, cs', rfl, g0, hv⟩ := VRs.cons_iff.1 hv
  obtain ⟨a1, e1⟩ : ∃ a, dI .u8 c1 = some a := by
    cases e : dI .u8 c1 with
    | none => rw [e] at h; cases h
    | some a => exact ⟨a, rfl⟩
  rw [e1] at h
  have h : some (Utf8AcceptRange.mk a0 a1) = some (x : Utf8AcceptRange) := h
  obtain ⟨q1, cs', rfl, g1, hv⟩ := VRs.cons_iff.1 hv
  cases h
  exact VRs.cons (cI e0 g0) (VRs.cons (cI e1 g1) (hv))
theorem dec_134 (cs : List (TV A)) (x : A 134) (h : dec 134 cs = some x) (r : Rn) (cs' : List PV) (hv : VRs X0 r cs cs') : VRs X0 r (lay 134 x) cs' := by
  rcases cs with _ | ⟨c0, cs⟩
  · cases h
  rcases cs with _ | ⟨c1, cs⟩
  rotate_left
  · cases h
  have h : (match dS c0 with | some a0 => some (ErrorsErrorString.mk a0) | none => none) = some (x : ErrorsErrorString) := h
  obtain ⟨a0, e0⟩ : ∃ a, dS c0 = some a := by
    cases e : dS c0 with
    | none => rw [e] at h; cases h
    | some a => exact ⟨a, rfl⟩
  rw [e0] at h
  have h : some (ErrorsErrorString.mk a0) = some (x : ErrorsErrorString) := h
  obtain ⟨q0, cs', rfl, g0, hv⟩ := VRs.cons_iff.1 hv
  cases h
  exact VRs.cons (cS e0 g0) (hv)
theorem dec_144 (cs : List (TV A)) (x : A 144) (h : dec 144 cs = some x) (r : Rn) (cs' : List PV) (hv : VRs X0 r cs cs') : VRs X0 r (lay 144 x) cs' := by
  rcases cs with _ | ⟨c0, cs⟩
  · cases h
  rcases cs with _ | ⟨c1, cs⟩
  rotate_left
  · cases h
  have h : (match dI .u8 c0 with | some a0 => some a0 | none => none) = some (x : Int) := h
  obtain ⟨a0, e0⟩ : ∃ a, dI .u8 c0 = some a := by
    cases e : dI .u8 c0 with
    | none => rw [e] at h; cases h
    | some a => exact ⟨a, rfl⟩
  rw [e0] at h
  have h : some a0 = some (x : Int) := h
  obtain ⟨q0, cs', rfl, g0, hv⟩ := VRs.cons_iff.1 hv
  cases h
  exact VRs.cons (cI e0 g0) (hv)
theorem dec_145 (cs : List (TV A)) (x : A 145) (h : dec 145 cs = some x) (r : Rn) (cs' : List PV) (hv : VRs X0 r cs cs') : VRs X0 r (lay 145 x) cs' := by
  rcases cs with _ | ⟨c0, cs⟩
  · cases h
  rcases cs with _ | ⟨c1, cs⟩
  rotate_left
  · cases h
  have h : (match dI .u8 c0 with | some a0 => some a0 | none => none) = some (x : Int) := h
  obtain ⟨a0, e0⟩ : ∃ a, dI .u8 c0 = some a := by
    cases e : dI .u8 c0 with
    | none => rw [e] at h; cases h
    | some a => exact ⟨a, rfl⟩
  rw [e0] at h
  have h : some a0 = some (x : Int) := h
  obtain ⟨q0, cs', rfl, g0, hv⟩ := VRs.cons_iff.1 hv
  cases h
  exact VRs.cons (cI e0 g0) (hv)
theorem dec_147 (cs : List (TV A)) (x : A 147) (h : dec 147 cs = some x) (r : Rn) (cs' : List PV) (hv : VRs X0 r cs cs') : VRs X0 r (lay 147 x) cs' := by
  rcases cs with _ | ⟨c0, cs⟩
  · cases h
  rcases cs with _ | ⟨c1, cs⟩
  rotate_left
  · cases h
  have h : (match dI .i32 c0 with | some a0 => some a0 | none => none) = some (x : Int) := h
  obtain ⟨a0, e0⟩ : ∃ a, dI .i32 c0 = some a := by
    cases e : dI .i32 c0 with
    | none => rw [e] at h; cases h
    | some a => exact ⟨a, rfl⟩
  rw [e0] at h
  have h : some a0 = some (x : Int) := h
  obtain ⟨q0, cs', rfl, g0, hv⟩ := VRs.cons_iff.1 hv
  cases h
  exact VRs.cons (cI e0 g0) (hv)
theorem dec_148 (cs : List (TV A)) (x : A 148) (h : dec 148 cs = some x) (r : Rn) (cs' : List PV) (hv : VRs X0 r cs cs') : VRs X0 r (lay 148 x) cs' := by
  rcases cs with _ | ⟨c0, cs⟩
  · cases h
  rcases cs with _ | ⟨c1, cs⟩
  rotate_left
  · cases h
  have h : (match dI .i32 c0 with | some a0 => some a0 | none => none) = some (x : Int) := h
  obtain ⟨a0, e0⟩ : ∃ a, dI .i32 c0 = some a := by
    cases e : dI .i32 c0 with
    | none => rw [e] at h; cases h
    | some a => exact ⟨a, rfl⟩
  rw [e0] at h
  have h : some a0 = some (x : Int) := h
  obtain ⟨q0, cs', rfl, g0, hv⟩ := VRs.cons_iff.1 hv
  cases h
  exact VRs.cons (cI e0 g0) (hv)
theorem dec_ok : ∀ t n, wd t = some n → ∀ cs x, dec t cs = some x → ∀ r cs', VRs X0 r cs cs' → VRs X0 r (lay t x) cs' := by
  intro t n h
  unfold wd at h
  split at h
  · exact dec_2
  · exact dec_3
  · exact dec_4
  · exact dec_5
  · exact dec_6
  · exact dec_8
  · exact dec_9
  · exact dec_10
  · exact dec_11
  · exact dec_12
  · exact dec_14
  · exact dec_21
  · exact dec_22
  · exact dec_31
  · exact dec_32
  · exact dec_41
  · exact dec_46
  · exact dec_49
  · exact dec_65
  · exact dec_82
  · exact dec_84
  · exact dec_95
  · exact dec_103
  · exact dec_110
  · exact dec_120
  · exact dec_125
  · exact dec_134
  · exact dec_144
  · exact dec_145
  · exact dec_147
  · exact dec_148
  · cases h
end Go.Proofs.YthngeddaeoeimaaDoorTE
