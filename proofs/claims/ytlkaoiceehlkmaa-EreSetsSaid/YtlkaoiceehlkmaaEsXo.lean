/- The frame's own conditions. -/
import Derived.Test.YtlkaoiceehlkmaaEsEnv
import Derived.Test.YtlkaoiceehlkmaaTeV1
namespace Go.Proofs.YtlkaoiceehlkmaaTE
open Go Go.Proofs.YtlkaoiceehlkmaaVE
set_option linter.unusedVariables false
theorem wd_ok : ∀ t n, wd t = some n → tySize X0.C.P t = some n ∧ 0 < n ∧ zOk X0.C.P t n = true ∧ ∀ a : A t, (lay t a).length = n ∧ (lay t a).all (plainC wd) = true := by
  intro t n h
  unfold wd at h
  split at h
  · cases h; exact ⟨by kernel_rfl, by decide, by kernel_rfl, fun a => ⟨rfl, rfl⟩⟩
  · cases h; exact ⟨by kernel_rfl, by decide, by kernel_rfl, fun a => ⟨rfl, rfl⟩⟩
  · cases h; exact ⟨by kernel_rfl, by decide, by kernel_rfl, fun a => ⟨rfl, rfl⟩⟩
  · cases h; exact ⟨by kernel_rfl, by decide, by kernel_rfl, fun a => ⟨rfl, rfl⟩⟩
  · cases h; exact ⟨by kernel_rfl, by decide, by kernel_rfl, fun a => ⟨rfl, rfl⟩⟩
  · cases h; exact ⟨by kernel_rfl, by decide, by kernel_rfl, fun a => ⟨rfl, rfl⟩⟩
  · cases h; exact ⟨by kernel_rfl, by decide, by kernel_rfl, fun a => ⟨rfl, rfl⟩⟩
  · cases h; exact ⟨by kernel_rfl, by decide, by kernel_rfl, fun a => ⟨rfl, rfl⟩⟩
  · cases h; exact ⟨by kernel_rfl, by decide, by kernel_rfl, fun a => ⟨rfl, rfl⟩⟩
  · cases h; exact ⟨by kernel_rfl, by decide, by kernel_rfl, fun a => ⟨rfl, rfl⟩⟩
  · cases h; exact ⟨by kernel_rfl, by decide, by kernel_rfl, fun a => ⟨rfl, rfl⟩⟩
  · cases h; exact ⟨by kernel_rfl, by decide, by kernel_rfl, fun a => ⟨rfl, rfl⟩⟩
  · cases h; exact ⟨by kernel_rfl, by decide, by kernel_rfl, fun a => ⟨rfl, rfl⟩⟩
  · cases h; exact ⟨by kernel_rfl, by decide, by kernel_rfl, fun a => ⟨rfl, rfl⟩⟩
  · cases h; exact ⟨by kernel_rfl, by decide, by kernel_rfl, fun a => ⟨rfl, rfl⟩⟩
  · cases h; exact ⟨by kernel_rfl, by decide, by kernel_rfl, fun a => ⟨rfl, rfl⟩⟩
  · cases h; exact ⟨by kernel_rfl, by decide, by kernel_rfl, fun a => ⟨rfl, rfl⟩⟩
  · cases h; exact ⟨by kernel_rfl, by decide, by kernel_rfl, fun a => ⟨rfl, rfl⟩⟩
  · cases h; exact ⟨by kernel_rfl, by decide, by kernel_rfl, fun a => ⟨rfl, rfl⟩⟩
  · cases h; exact ⟨by kernel_rfl, by decide, by kernel_rfl, fun a => ⟨rfl, rfl⟩⟩
  · cases h; exact ⟨by kernel_rfl, by decide, by kernel_rfl, fun a => ⟨rfl, rfl⟩⟩
  · cases h; exact ⟨by kernel_rfl, by decide, by kernel_rfl, fun a => ⟨rfl, rfl⟩⟩
  · cases h; exact ⟨by kernel_rfl, by decide, by kernel_rfl, fun a => ⟨rfl, rfl⟩⟩
  · cases h; exact ⟨by kernel_rfl, by decide, by kernel_rfl, fun a => ⟨rfl, rfl⟩⟩
  · cases h; exact ⟨by kernel_rfl, by decide, by kernel_rfl, fun a => ⟨rfl, rfl⟩⟩
  · cases h; exact ⟨by kernel_rfl, by decide, by kernel_rfl, fun a => ⟨rfl, rfl⟩⟩
  · cases h; exact ⟨by kernel_rfl, by decide, by kernel_rfl, fun a => ⟨rfl, rfl⟩⟩
  · cases h; exact ⟨by kernel_rfl, by decide, by kernel_rfl, fun a => ⟨rfl, rfl⟩⟩
  · cases h; exact ⟨by kernel_rfl, by decide, by kernel_rfl, fun a => ⟨rfl, rfl⟩⟩
  · cases h; exact ⟨by kernel_rfl, by decide, by kernel_rfl, fun a => ⟨rfl, rfl⟩⟩
  · cases h; exact ⟨by kernel_rfl, by decide, by kernel_rfl, fun a => ⟨rfl, rfl⟩⟩
  · cases h; exact ⟨by kernel_rfl, by decide, by kernel_rfl, fun a => ⟨rfl, rfl⟩⟩
  · cases h; exact ⟨by kernel_rfl, by decide, by kernel_rfl, fun a => ⟨rfl, rfl⟩⟩
  · cases h
theorem dec_2 (cs : List (TV A)) (x : A 2) (h : dec 2 cs = some x) (r : Rn) (cs' : List PV) (hv : VRs X0 r cs cs') : VRs X0 r (lay 2 x) cs' := by
  rcases cs with _ | ⟨c0, cs⟩
  · cases h
  rcases cs with _ | ⟨c1, cs⟩
  rotate_left
  · cases h
  have h : (match dI .i64 c0 with | some a0 => some a0 | none => none) = some (x : Int) := h
  obtain ⟨a0, e0⟩ : ∃ a, dI .i64 c0 = some a := by
    cases e : dI .i64 c0 with
    | none => rw [e] at h; cases h
    | some a => exact ⟨a, rfl⟩
  rw [e0] at h
  have h : some a0 = some (x : Int) := h
  obtain ⟨q0, cs', rfl, g0, hv⟩ := VRs.cons_iff.1 hv
  cases h
  exact VRs.cons (cI e0 g0) (hv)
theorem dec_3 (cs : List (TV A)) (x : A 3) (h : dec 3 cs = some x) (r : Rn) (cs' : List PV) (hv : VRs X0 r cs cs') : VRs X0 r (lay 3 x) cs' := by
  rcases cs with _ | ⟨c0, cs⟩
  · cases h
  rcases cs with _ | ⟨c1, cs⟩
  rotate_left
  · cases h
  have h : (match dI .i64 c0 with | some a0 => some a0 | none => none) = some (x : Int) := h
  obtain ⟨a0, e0⟩ : ∃ a, dI .i64 c0 = some a := by
    cases e : dI .i64 c0 with
    | none => rw [e] at h; cases h
    | some a => exact ⟨a, rfl⟩
  rw [e0] at h
  have h : some a0 = some (x : Int) := h
  obtain ⟨q0, cs', rfl, g0, hv⟩ := VRs.cons_iff.1 hv
  cases h
  exact VRs.cons (cI e0 g0) (hv)
theorem dec_4 (cs : List (TV A)) (x : A 4) (h : dec 4 cs = some x) (r : Rn) (cs' : List PV) (hv : VRs X0 r cs cs') : VRs X0 r (lay 4 x) cs' := by
  rcases cs with _ | ⟨c0, cs⟩
  · cases h
  rcases cs with _ | ⟨c1, cs⟩
  rotate_left
  · cases h
  have h : (match dB c0 with | some a0 => some a0 | none => none) = some (x : Bool) := h
  obtain ⟨a0, e0⟩ : ∃ a, dB c0 = some a := by
    cases e : dB c0 with
    | none => rw [e] at h; cases h
    | some a => exact ⟨a, rfl⟩
  rw [e0] at h
  have h : some a0 = some (x : Bool) := h
  obtain ⟨q0, cs', rfl, g0, hv⟩ := VRs.cons_iff.1 hv
  cases h
  exact VRs.cons (cB e0 g0) (hv)
theorem dec_5 (cs : List (TV A)) (x : A 5) (h : dec 5 cs = some x) (r : Rn) (cs' : List PV) (hv : VRs X0 r cs cs') : VRs X0 r (lay 5 x) cs' := by
  rcases cs with _ | ⟨c0, cs⟩
  · cases h
  rcases cs with _ | ⟨c1, cs⟩
  rotate_left
  · cases h
  have h : (match dI .u8 c0 with | some a0 => some a0 | none => none) = some (x : Int) := h
  obtain ⟨a0, e0⟩ : ∃ a, dI .u8 c0 = some a := by
    cases e : dI .u8 c0 with
    | none => rw [e] at h; cases h
    | some a => exact ⟨a, rfl⟩
  rw [e0] at h
  have h : some a0 = some (x : Int) := h
  obtain ⟨q0, cs', rfl, g0, hv⟩ := VRs.cons_iff.1 hv
  cases h
  exact VRs.cons (cI e0 g0) (hv)
theorem dec_6 (cs : List (TV A)) (x : A 6) (h : dec 6 cs = some x) (r : Rn) (cs' : List PV) (hv : VRs X0 r cs cs') : VRs X0 r (lay 6 x) cs' := by
  rcases cs with _ | ⟨c0, cs⟩
  · cases h
  rcases cs with _ | ⟨c1, cs⟩
  rotate_left
  · cases h
  have h : (match dI .u8 c0 with | some a0 => some a0 | none => none) = some (x : Int) := h
  obtain ⟨a0, e0⟩ : ∃ a, dI .u8 c0 = some a := by
    cases e : dI .u8 c0 with
    | none => rw [e] at h; cases h
    | some a => exact ⟨a, rfl⟩
  rw [e0] at h
  have h : some a0 = some (x : Int) := h
  obtain ⟨q0, cs', rfl, g0, hv⟩ := VRs.cons_iff.1 hv
  cases h
  exact VRs.cons (cI e0 g0) (hv)
theorem dec_8 (cs : List (TV A)) (x : A 8) (h : dec 8 cs = some x) (r : Rn) (cs' : List PV) (hv : VRs X0 r cs cs') : VRs X0 r (lay 8 x) cs' := by
  rcases cs with _ | ⟨c0, cs⟩
  · cases h
  rcases cs with _ | ⟨c1, cs⟩
  · cases h
  rcases cs with _ | ⟨c2, cs⟩
  · cases h
  rcases cs with _ | ⟨c3, cs⟩
  · cases h
  rcases cs with _ | ⟨c4, cs⟩
  rotate_left
  · cases h
  have h : (match dI .i64 c0 with | some a0 => (match dI .i64 c1 with | some a1 => (match dB c2 with | some a2 => (match dI .u8 c3 with | some a3 => some (RuntimeBoundsError.mk a0 a1 a2 a3) | none => none) | none => none) | none => none) | none => none) = some (x : RuntimeBoundsError) := h
  obtain ⟨a0, e0⟩ : ∃ a, dI .i64 c0 = some a := by
    cases e : dI .i64 c0 with
    | none => rw [e] at h; cases h
    | some a => exact ⟨a, rfl⟩
  rw [e0] at h
  have h : (match dI .i64 c1 with | some a1 => (match dB c2 with | some a2 => (match dI .u8 c3 with | some a3 => some (RuntimeBoundsError.mk a0 a1 a2 a3) | none => none) | none => none) | none => none) = some (x : RuntimeBoundsError) := h
  obtain ⟨q0, cs', rfl, g0, hv⟩ := VRs.cons_iff.1 hv
  obtain ⟨a1, e1⟩ : ∃ a, dI .i64 c1 = some a := by
    cases e : dI .i64 c1 with
    | none => rw [e] at h; cases h
    | some a => exact ⟨a, rfl⟩
  rw [e1] at h
  have h : (match dB c2 with | some a2 => (match dI .u8 c3 with | some a3 => some (RuntimeBoundsError.mk a0 a1 a2 a3) | none => none) | none => none) = some (x : RuntimeBoundsError) := h
  obtain ⟨q1, cs', rfl, g1, hv⟩ := VRs.cons_iff.1 hv
  obtain ⟨a2, e2⟩ : ∃ a, dB c2 = some a := by
    cases e : dB c2 with
    | none => rw [e] at h; cases h
    | some a => exact ⟨a, rfl⟩
  rw [e2] at h
  have h : (match dI .u8 c3 with | some a3 => some (RuntimeBoundsError.mk a0 a1 a2 a3) | none => none) = some (x : RuntimeBoundsError) := h
  obtain ⟨q2, cs', rfl, g2, hv⟩ := VRs.cons_iff.1 hv
  obtain ⟨a3, e3⟩ : ∃ a, dI .u8 c3 = some a := by
    cases e : dI .u8 c3 with
    | none => rw [e] at h; cases h
    | some a => exact ⟨a, rfl⟩
  rw [e3] at h
  have h : some (RuntimeBoundsError.mk a0 a1 a2 a3) = some (x : RuntimeBoundsError) := h
  obtain ⟨q3, cs', rfl, g3, hv⟩ := VRs.cons_iff.1 hv
  cases h
  exact VRs.cons (cI e0 g0) (VRs.cons (cI e1 g1) (VRs.cons (cB e2 g2) (VRs.cons (cI e3 g3) (hv))))
theorem dec_9 (cs : List (TV A)) (x : A 9) (h : dec 9 cs = some x) (r : Rn) (cs' : List PV) (hv : VRs X0 r cs cs') : VRs X0 r (lay 9 x) cs' := by
  rcases cs with _ | ⟨c0, cs⟩
  · cases h
  rcases cs with _ | ⟨c1, cs⟩
  rotate_left
  · cases h
  have h : (match dS c0 with | some a0 => some a0 | none => none) = some (x : List UInt8) := h
  obtain ⟨a0, e0⟩ : ∃ a, dS c0 = some a := by
    cases e : dS c0 with
    | none => rw [e] at h; cases h
    | some a => exact ⟨a, rfl⟩
  rw [e0] at h
  have h : some a0 = some (x : List UInt8) := h
  obtain ⟨q0, cs', rfl, g0, hv⟩ := VRs.cons_iff.1 hv
  cases h
  exact VRs.cons (cS e0 g0) (hv)
theorem dec_10 (cs : List (TV A)) (x : A 10) (h : dec 10 cs = some x) (r : Rn) (cs' : List PV) (hv : VRs X0 r cs cs') : VRs X0 r (lay 10 x) cs' := by
  rcases cs with _ | ⟨c0, cs⟩
  · cases h
  rcases cs with _ | ⟨c1, cs⟩
  rotate_left
  · cases h
  have h : (match dS c0 with | some a0 => some a0 | none => none) = some (x : List UInt8) := h
  obtain ⟨a0, e0⟩ : ∃ a, dS c0 = some a := by
    cases e : dS c0 with
    | none => rw [e] at h; cases h
    | some a => exact ⟨a, rfl⟩
  rw [e0] at h
  have h : some a0 = some (x : List UInt8) := h
  obtain ⟨q0, cs', rfl, g0, hv⟩ := VRs.cons_iff.1 hv
  cases h
  exact VRs.cons (cS e0 g0) (hv)
theorem dec_11 (cs : List (TV A)) (x : A 11) (h : dec 11 cs = some x) (r : Rn) (cs' : List PV) (hv : VRs X0 r cs cs') : VRs X0 r (lay 11 x) cs' := by
  rcases cs with _ | ⟨c0, cs⟩
  · cases h
  rcases cs with _ | ⟨c1, cs⟩
  rotate_left
  · cases h
  have h : (match dS c0 with | some a0 => some a0 | none => none) = some (x : List UInt8) := h
  obtain ⟨a0, e0⟩ : ∃ a, dS c0 = some a := by
    cases e : dS c0 with
    | none => rw [e] at h; cases h
    | some a => exact ⟨a, rfl⟩
  rw [e0] at h
  have h : some a0 = some (x : List UInt8) := h
  obtain ⟨q0, cs', rfl, g0, hv⟩ := VRs.cons_iff.1 hv
  cases h
  exact VRs.cons (cS e0 g0) (hv)
theorem dec_12 (cs : List (TV A)) (x : A 12) (h : dec 12 cs = some x) (r : Rn) (cs' : List PV) (hv : VRs X0 r cs cs') : VRs X0 r (lay 12 x) cs' := by
  rcases cs with _ | ⟨c0, cs⟩
  · cases h
  rcases cs with _ | ⟨c1, cs⟩
  rotate_left
  · cases h
  have h : (match dI .u64 c0 with | some a0 => some a0 | none => none) = some (x : Int) := h
  obtain ⟨a0, e0⟩ : ∃ a, dI .u64 c0 = some a := by
    cases e : dI .u64 c0 with
    | none => rw [e] at h; cases h
    | some a => exact ⟨a, rfl⟩
  rw [e0] at h
  have h : some a0 = some (x : Int) := h
  obtain ⟨q0, cs', rfl, g0, hv⟩ := VRs.cons_iff.1 hv
  cases h
  exact VRs.cons (cI e0 g0) (hv)
theorem dec_14 (cs : List (TV A)) (x : A 14) (h : dec 14 cs = some x) (r : Rn) (cs' : List PV) (hv : VRs X0 r cs cs') : VRs X0 r (lay 14 x) cs' := by
  rcases cs with _ | ⟨c0, cs⟩
  · cases h
  rcases cs with _ | ⟨c1, cs⟩
  · cases h
  rcases cs with _ | ⟨c2, cs⟩
  rotate_left
  · cases h
  have h : (match dS c0 with | some a0 => (match dI .u64 c1 with | some a1 => some (RuntimeErrorAddressString.mk a0 a1) | none => none) | none => none) = some (x : RuntimeErrorAddressString) := h
  obtain ⟨a0, e0⟩ : ∃ a, dS c0 = some a := by
    cases e : dS c0 with
    | none => rw [e] at h; cases h
    | some a => exact ⟨a, rfl⟩
  rw [e0] at h
  have h : (match dI .u64 c1 with | some a1 => some (RuntimeErrorAddressString.mk a0 a1) | none => none) = some (x : RuntimeErrorAddressString) := h
  obtain ⟨q0, cs', rfl, g0, hv⟩ := VRs.cons_iff.1 hv
  obtain ⟨a1, e1⟩ : ∃ a, dI .u64 c1 = some a := by
    cases e : dI .u64 c1 with
    | none => rw [e] at h; cases h
    | some a => exact ⟨a, rfl⟩
  rw [e1] at h
  have h : some (RuntimeErrorAddressString.mk a0 a1) = some (x : RuntimeErrorAddressString) := h
  obtain ⟨q1, cs', rfl, g1, hv⟩ := VRs.cons_iff.1 hv
  cases h
  exact VRs.cons (cS e0 g0) (VRs.cons (cI e1 g1) (hv))
theorem dec_21 (cs : List (TV A)) (x : A 21) (h : dec 21 cs = some x) (r : Rn) (cs' : List PV) (hv : VRs X0 r cs cs') : VRs X0 r (lay 21 x) cs' := by
  rcases cs with _ | ⟨c0, cs⟩
  · cases h
  rcases cs with _ | ⟨c1, cs⟩
  rotate_left
  · cases h
  have h : (match dI .i32 c0 with | some a0 => some a0 | none => none) = some (x : Int) := h
  obtain ⟨a0, e0⟩ : ∃ a, dI .i32 c0 = some a := by
    cases e : dI .i32 c0 with
    | none => rw [e] at h; cases h
    | some a => exact ⟨a, rfl⟩
  rw [e0] at h
  have h : some a0 = some (x : Int) := h
  obtain ⟨q0, cs', rfl, g0, hv⟩ := VRs.cons_iff.1 hv
  cases h
  exact VRs.cons (cI e0 g0) (hv)
theorem dec_23 (cs : List (TV A)) (x : A 23) (h : dec 23 cs = some x) (r : Rn) (cs' : List PV) (hv : VRs X0 r cs cs') : VRs X0 r (lay 23 x) cs' := by
  rcases cs with _ | ⟨c0, cs⟩
  · cases h
  rcases cs with _ | ⟨c1, cs⟩
  rotate_left
  · cases h
  have h : (match dI .u64 c0 with | some a0 => some a0 | none => none) = some (x : Int) := h
  obtain ⟨a0, e0⟩ : ∃ a, dI .u64 c0 = some a := by
    cases e : dI .u64 c0 with
    | none => rw [e] at h; cases h
    | some a => exact ⟨a, rfl⟩
  rw [e0] at h
  have h : some a0 = some (x : Int) := h
  obtain ⟨q0, cs', rfl, g0, hv⟩ := VRs.cons_iff.1 hv
  cases h
  exact VRs.cons (cI e0 g0) (hv)
theorem dec_25 (cs : List (TV A)) (x : A 25) (h : dec 25 cs = some x) (r : Rn) (cs' : List PV) (hv : VRs X0 r cs cs') : VRs X0 r (lay 25 x) cs' := by
  rcases cs with _ | ⟨c0, cs⟩
  · cases h
  rcases cs with _ | ⟨c1, cs⟩
  rotate_left
  · cases h
  have h : (match dR 27 c0 with | some a0 => some a0 | none => none) = some (x : List Node) := h
  obtain ⟨a0, e0⟩ : ∃ a, dR 27 c0 = some a := by
    cases e : dR 27 c0 with
    | none => rw [e] at h; cases h
    | some a => exact ⟨a, rfl⟩
  rw [e0] at h
  have h : some a0 = some (x : List Node) := h
  obtain ⟨q0, cs', rfl, g0, hv⟩ := VRs.cons_iff.1 hv
  cases h
  exact VRs.cons (cR (X := X0) (show wd 27 = some _ from rfl) e0 g0) (hv)
theorem dec_27 (cs : List (TV A)) (x : A 27) (h : dec 27 cs = some x) (r : Rn) (cs' : List PV) (hv : VRs X0 r cs cs') : VRs X0 r (lay 27 x) cs' := by
  rcases cs with _ | ⟨c0, cs⟩
  · cases h
  rcases cs with _ | ⟨c1, cs⟩
  · cases h
  rcases cs with _ | ⟨c2, cs⟩
  · cases h
  rcases cs with _ | ⟨c3, cs⟩
  · cases h
  rcases cs with _ | ⟨c4, cs⟩
  · cases h
  rcases cs with _ | ⟨c5, cs⟩
  · cases h
  rcases cs with _ | ⟨c6, cs⟩
  · cases h
  rcases cs with _ | ⟨c7, cs⟩
  · cases h
  rcases cs with _ | ⟨c8, cs⟩
  rotate_left
  · cases h
  have h : (match dI .i64 c0 with | some a0 => (match dI .u64 c1 with | some a1 => (match dI .u64 c2 with | some a2 => (match dI .u64 c3 with | some a3 => (match dI .u64 c4 with | some a4 => (match dR 27 c5 with | some a5 => (match dI .i64 c6 with | some a6 => (match dI .i64 c7 with | some a7 => some (Node.mk a0 a1 a2 a3 a4 a5 a6 a7) | none => none) | none => none) | none => none) | none => none) | none => none) | none => none) | none => none) | none => none) = some (x : Node) := h
  obtain ⟨a0, e0⟩ : ∃ a, dI .i64 c0 = some a := by
    cases e : dI .i64 c0 with
    | none => rw [e] at h; cases h
    | some a => exact ⟨a, rfl⟩
  rw [e0] at h
  have h : (match dI .u64 c1 with | some a1 => (match dI .u64 c2 with | some a2 => (match dI .u64 c3 with | some a3 => (match dI .u64 c4 with | some a4 => (match dR 27 c5 with | some a5 => (match dI .i64 c6 with | some a6 => (match dI .i64 c7 with | some a7 => some (Node.mk a0 a1 a2 a3 a4 a5 a6 a7) | none => none) | none => none) | none => none) | none => none) | none => none) | none => none) | none => none) = some (x : Node) := h
  obtain ⟨q0, cs', rfl, g0, hv⟩ := VRs.cons_iff.1 hv
  obtain ⟨a1, e1⟩ : ∃ a, dI .u64 c1 = some a := by
    cases e : dI .u64 c1 with
    | none => rw [e] at h; cases h
    | some a => exact ⟨a, rfl⟩
  rw [e1] at h
  have h : (match dI .u64 c2 with | some a2 => (match dI .u64 c3 with | some a3 => (match dI .u64 c4 with | some a4 => (match dR 27 c5 with | some a5 => (match dI .i64 c6 with | some a6 => (match dI .i64 c7 with | some a7 => some (Node.mk a0 a1 a2 a3 a4 a5 a6 a7) | none => none) | none => none) | none => none) | none => none) | none => none) | none => none) = some (x : Node) := h
  obtain ⟨q1, cs', rfl, g1, hv⟩ := VRs.cons_iff.1 hv
  obtain ⟨a2, e2⟩ : ∃ a, dI .u64 c2 = some a := by
    cases e : dI .u64 c2 with
    | none => rw [e] at h; cases h
    | some a => exact ⟨a, rfl⟩
  rw [e2] at h
  have h : (match dI .u64 c3 with | some a3 => (match dI .u64 c4 with | some a4 => (match dR 27 c5 with | some a5 => (match dI .i64 c6 with | some a6 => (match dI .i64 c7 with | some a7 => some (Node.mk a0 a1 a2 a3 a4 a5 a6 a7) | none => none) | none => none) | none => none) | none => none) | none => none) = some (x : Node) := h
  obtain ⟨q2, cs', rfl, g2, hv⟩ := VRs.cons_iff.1 hv
  obtain ⟨a3, e3⟩ : ∃ a, dI .u64 c3 = some a := by
    cases e : dI .u64 c3 with
    | none => rw [e] at h; cases h
    | some a => exact ⟨a, rfl⟩
  rw [e3] at h
  have h : (match dI .u64 c4 with | some a4 => (match dR 27 c5 with | some a5 => (match dI .i64 c6 with | some a6 => (match dI .i64 c7 with | some a7 => some (Node.mk a0 a1 a2 a3 a4 a5 a6 a7) | none => none) | none => none) | none => none) | none => none) = some (x : Node) := h
  obtain ⟨q3, cs', rfl, g3, hv⟩ := VRs.cons_iff.1 hv
  obtain ⟨a4, e4⟩ : ∃ a, dI .u64 c4 = some a := by
    cases e : dI .u64 c4 with
    | none => rw [e] at h; cases h
    | some a => exact ⟨a, rfl⟩
  rw [e4] at h
  have h : (match dR 27 c5 with | some a5 => (match dI .i64 c6 with | some a6 => (match dI .i64 c7 with | some a7 => some (Node.mk a0 a1 a2 a3 a4 a5 a6 a7) | none => none) | none => none) | none => none) = some (x : Node) := h
  obtain ⟨q4, cs', rfl, g4, hv⟩ := VRs.cons_iff.1 hv
  obtain ⟨a5, e5⟩ : ∃ a, dR 27 c5 = some a := by
    cases e : dR 27 c5 with
    | none => rw [e] at h; cases h
    | some a => exact ⟨a, rfl⟩
  rw [e5] at h
  have h : (match dI .i64 c6 with | some a6 => (match dI .i64 c7 with | some a7 => some (Node.mk a0 a1 a2 a3 a4 a5 a6 a7) | none => none) | none => none) = some (x : Node) := h
  obtain ⟨q5, cs', rfl, g5, hv⟩ := VRs.cons_iff.1 hv
  obtain ⟨a6, e6⟩ : ∃ a, dI .i64 c6 = some a := by
    cases e : dI .i64 c6 with
    | none => rw [e] at h; cases h
    | some a => exact ⟨a, rfl⟩
  rw [e6] at h
  have h : (match dI .i64 c7 with | some a7 => some (Node.mk a0 a1 a2 a3 a4 a5 a6 a7) | none => none) = some (x : Node) := h
  obtain ⟨q6, cs', rfl, g6, hv⟩ := VRs.cons_iff.1 hv
  obtain ⟨a7, e7⟩ : ∃ a, dI .i64 c7 = some a := by
    cases e : dI .i64 c7 with
    | none => rw [e] at h; cases h
    | some a => exact ⟨a, rfl⟩
  rw [e7] at h
  have h : some (Node.mk a0 a1 a2 a3 a4 a5 a6 a7) = some (x : Node) := h
  obtain ⟨q7, cs', rfl, g7, hv⟩ := VRs.cons_iff.1 hv
  cases h
  exact VRs.cons (cI e0 g0) (VRs.cons (cI e1 g1) (VRs.cons (cI e2 g2) (VRs.cons (cI e3 g3) (VRs.cons (cI e4 g4) (VRs.cons (cR (X := X0) (show wd 27 = some _ from rfl) e5 g5) (VRs.cons (cI e6 g6) (VRs.cons (cI e7 g7) (hv))))))))
theorem dec_35 (cs : List (TV A)) (x : A 35) (h : dec 35 cs = some x) (r : Rn) (cs' : List PV) (hv : VRs X0 r cs cs') : VRs X0 r (lay 35 x) cs' := by
  rcases cs with _ | ⟨c0, cs⟩
  · cases h
  rcases cs with _ | ⟨c1, cs⟩
  rotate_left
  · cases h
  have h : (match dR 9 c0 with | some a0 => some a0 | none => none) = some (x : List (List UInt8)) := h
  obtain ⟨a0, e0⟩ : ∃ a, dR 9 c0 = some a := by
    cases e : dR 9 c0 with
    | none => rw [e] at h; cases h
    | some a => exact ⟨a, rfl⟩
  rw [e0] at h
  have h : some a0 = some (x : List (List UInt8)) := h
  obtain ⟨q0, cs', rfl, g0, hv⟩ := VRs.cons_iff.1 hv
  cases h
  exact VRs.cons (cR (X := X0) (show wd 9 = some _ from rfl) e0 g0) (hv)
theorem dec_36 (cs : List (TV A)) (x : A 36) (h : dec 36 cs = some x) (r : Rn) (cs' : List PV) (hv : VRs X0 r cs cs') : VRs X0 r (lay 36 x) cs' := by
  rcases cs with _ | ⟨c0, cs⟩
  · cases h
  rcases cs with _ | ⟨c1, cs⟩
  rotate_left
  · cases h
  have h : (match dR 4 c0 with | some a0 => some a0 | none => none) = some (x : List Bool) := h
  obtain ⟨a0, e0⟩ : ∃ a, dR 4 c0 = some a := by
    cases e : dR 4 c0 with
    | none => rw [e] at h; cases h
    | some a => exact ⟨a, rfl⟩
  rw [e0] at h
  have h : some a0 = some (x : List Bool) := h
  obtain ⟨q0, cs', rfl, g0, hv⟩ := VRs.cons_iff.1 hv
  cases h
  exact VRs.cons (cR (X := X0) (show wd 4 = some _ from rfl) e0 g0) (hv)
theorem dec_40 (cs : List (TV A)) (x : A 40) (h : dec 40 cs = some x) (r : Rn) (cs' : List PV) (hv : VRs X0 r cs cs') : VRs X0 r (lay 40 x) cs' := by
  rcases cs with _ | ⟨c0, cs⟩
  · cases h
  rcases cs with _ | ⟨c1, cs⟩
  rotate_left
  · cases h
  have h : (match dI .i64 c0 with | some a0 => some a0 | none => none) = some (x : Int) := h
  obtain ⟨a0, e0⟩ : ∃ a, dI .i64 c0 = some a := by
    cases e : dI .i64 c0 with
    | none => rw [e] at h; cases h
    | some a => exact ⟨a, rfl⟩
  rw [e0] at h
  have h : some a0 = some (x : Int) := h
  obtain ⟨q0, cs', rfl, g0, hv⟩ := VRs.cons_iff.1 hv
  cases h
  exact VRs.cons (cI e0 g0) (hv)
theorem dec_48 (cs : List (TV A)) (x : A 48) (h : dec 48 cs = some x) (r : Rn) (cs' : List PV) (hv : VRs X0 r cs cs') : VRs X0 r (lay 48 x) cs' := by
  rcases cs with _ | ⟨c0, cs⟩
  · cases h
  rcases cs with _ | ⟨c1, cs⟩
  rotate_left
  · cases h
  have h : (match dR 3 c0 with | some a0 => some a0 | none => none) = some (x : List Int) := h
  obtain ⟨a0, e0⟩ : ∃ a, dR 3 c0 = some a := by
    cases e : dR 3 c0 with
    | none => rw [e] at h; cases h
    | some a => exact ⟨a, rfl⟩
  rw [e0] at h
  have h : some a0 = some (x : List Int) := h
  obtain ⟨q0, cs', rfl, g0, hv⟩ := VRs.cons_iff.1 hv
  cases h
  exact VRs.cons (cR (X := X0) (show wd 3 = some _ from rfl) e0 g0) (hv)
theorem dec_50 (cs : List (TV A)) (x : A 50) (h : dec 50 cs = some x) (r : Rn) (cs' : List PV) (hv : VRs X0 r cs cs') : VRs X0 r (lay 50 x) cs' := by
  rcases cs with _ | ⟨c0, cs⟩
  · cases h
  rcases cs with _ | ⟨c1, cs⟩
  rotate_left
  · cases h
  have h : (match dR 5 c0 with | some a0 => some a0 | none => none) = some (x : List Int) := h
  obtain ⟨a0, e0⟩ : ∃ a, dR 5 c0 = some a := by
    cases e : dR 5 c0 with
    | none => rw [e] at h; cases h
    | some a => exact ⟨a, rfl⟩
  rw [e0] at h
  have h : some a0 = some (x : List Int) := h
  obtain ⟨q0, cs', rfl, g0, hv⟩ := VRs.cons_iff.1 hv
  cases h
  exact VRs.cons (cR (X := X0) (show wd 5 = some _ from rfl) e0 g0) (hv)
theorem dec_60 (cs : List (TV A)) (x : A 60) (h : dec 60 cs = some x) (r : Rn) (cs' : List PV) (hv : VRs X0 r cs cs') : VRs X0 r (lay 60 x) cs' := by
  rcases cs with _ | ⟨c0, cs⟩
  · cases h
  rcases cs with _ | ⟨c1, cs⟩
  · cases h
  rcases cs with _ | ⟨c2, cs⟩
  · cases h
  rcases cs with _ | ⟨c3, cs⟩
  · cases h
  rcases cs with _ | ⟨c4, cs⟩
  · cases h
  rcases cs with _ | ⟨c5, cs⟩
  rotate_left
  · cases h
  have h : (match dS c0 with | some a0 => (match dI .i64 c1 with | some a1 => (match dI .i64 c2 with | some a2 => (match dI .i64 c3 with | some a3 => (match dI .i64 c4 with | some a4 => some (Ref1Reader.mk a0 a1 a2 a3 a4) | none => none) | none => none) | none => none) | none => none) | none => none) = some (x : Ref1Reader) := h
  obtain ⟨a0, e0⟩ : ∃ a, dS c0 = some a := by
    cases e : dS c0 with
    | none => rw [e] at h; cases h
    | some a => exact ⟨a, rfl⟩
  rw [e0] at h
  have h : (match dI .i64 c1 with | some a1 => (match dI .i64 c2 with | some a2 => (match dI .i64 c3 with | some a3 => (match dI .i64 c4 with | some a4 => some (Ref1Reader.mk a0 a1 a2 a3 a4) | none => none) | none => none) | none => none) | none => none) = some (x : Ref1Reader) := h
  obtain ⟨q0, cs', rfl, g0, hv⟩ := VRs.cons_iff.1 hv
  obtain ⟨a1, e1⟩ : ∃ a, dI .i64 c1 = some a := by
    cases e : dI .i64 c1 with
    | none => rw [e] at h; cases h
    | some a => exact ⟨a, rfl⟩
  rw [e1] at h
  have h : (match dI .i64 c2 with | some a2 => (match dI .i64 c3 with | some a3 => (match dI .i64 c4 with | some a4 => some (Ref1Reader.mk a0 a1 a2 a3 a4) | none => none) | none => none) | none => none) = some (x : Ref1Reader) := h
  obtain ⟨q1, cs', rfl, g1, hv⟩ := VRs.cons_iff.1 hv
  obtain ⟨a2, e2⟩ : ∃ a, dI .i64 c2 = some a := by
    cases e : dI .i64 c2 with
    | none => rw [e] at h; cases h
    | some a => exact ⟨a, rfl⟩
  rw [e2] at h
  have h : (match dI .i64 c3 with | some a3 => (match dI .i64 c4 with | some a4 => some (Ref1Reader.mk a0 a1 a2 a3 a4) | none => none) | none => none) = some (x : Ref1Reader) := h
  obtain ⟨q2, cs', rfl, g2, hv⟩ := VRs.cons_iff.1 hv
  obtain ⟨a3, e3⟩ : ∃ a, dI .i64 c3 = some a := by
    cases e : dI .i64 c3 with
    | none => rw [e] at h; cases h
    | some a => exact ⟨a, rfl⟩
  rw [e3] at h
  have h : (match dI .i64 c4 with | some a4 => some (Ref1Reader.mk a0 a1 a2 a3 a4) | none => none) = some (x : Ref1Reader) := h
  obtain ⟨q3, cs', rfl, g3, hv⟩ := VRs.cons_iff.1 hv
  obtain ⟨a4, e4⟩ : ∃ a, dI .i64 c4 = some a := by
    cases e : dI .i64 c4 with
    | none => rw [e] at h; cases h
    | some a => exact ⟨a, rfl⟩
  rw [e4] at h
  have h : some (Ref1Reader.mk a0 a1 a2 a3 a4) = some (x : Ref1Reader) := h
  obtain ⟨q4, cs', rfl, g4, hv⟩ := VRs.cons_iff.1 hv
  cases h
  exact VRs.cons (cS e0 g0) (VRs.cons (cI e1 g1) (VRs.cons (cI e2 g2) (VRs.cons (cI e3 g3) (VRs.cons (cI e4 g4) (hv)))))
theorem dec_70 (cs : List (TV A)) (x : A 70) (h : dec 70 cs = some x) (r : Rn) (cs' : List PV) (hv : VRs X0 r cs cs') : VRs X0 r (lay 70 x) cs' := by
  rcases cs with _ | ⟨c0, cs⟩
  · cases h
  rcases cs with _ | ⟨c1, cs⟩
  · cases h
  rcases cs with _ | ⟨c2, cs⟩
  rotate_left
  · cases h
  have h : (match dI .i64 c0 with | some a0 => (match dI .i64 c1 with | some a1 => some (EreWrong.mk a0 a1) | none => none) | none => none) = some (x : EreWrong) := h
  obtain ⟨a0, e0⟩ : ∃ a, dI .i64 c0 = some a := by
    cases e : dI .i64 c0 with
    | none => rw [e] at h; cases h
    | some a => exact ⟨a, rfl⟩
  rw [e0] at h
  have h : (match dI .i64 c1 with | some a1 => some (EreWrong.mk a0 a1) | none => none) = some (x : EreWrong) := h
  obtain ⟨q0, cs', rfl, g0, hv⟩ := VRs.cons_iff.1 hv
  obtain ⟨a1, e1⟩ : ∃ a, dI .i64 c1 = some a := by
    cases e : dI .i64 c1 with
    | none => rw [e] at h; cases h
    | some a => exact ⟨a, rfl⟩
  rw [e1] at h
  have h : some (EreWrong.mk a0 a1) = some (x : EreWrong) := h
  obtain ⟨q1, cs', rfl, g1, hv⟩ := VRs.cons_iff.1 hv
  cases h
  exact VRs.cons (cI e0 g0) (VRs.cons (cI e1 g1) (hv))
theorem dec_73 (cs : List (TV A)) (x : A 73) (h : dec 73 cs = some x) (r : Rn) (cs' : List PV) (hv : VRs X0 r cs cs') : VRs X0 r (lay 73 x) cs' := by
  rcases cs with _ | ⟨c0, cs⟩
  · cases h
  rcases cs with _ | ⟨c1, cs⟩
  rotate_left
  · cases h
  have h : (match dR 78 c0 with | some a0 => some a0 | none => none) = some (x : List NfaState) := h
  obtain ⟨a0, e0⟩ : ∃ a, dR 78 c0 = some a := by
    cases e : dR 78 c0 with
    | none => rw [e] at h; cases h
    | some a => exact ⟨a, rfl⟩
  rw [e0] at h
  have h : some a0 = some (x : List NfaState) := h
  obtain ⟨q0, cs', rfl, g0, hv⟩ := VRs.cons_iff.1 hv
  cases h
  exact VRs.cons (cR (X := X0) (show wd 78 = some _ from rfl) e0 g0) (hv)
theorem dec_75 (cs : List (TV A)) (x : A 75) (h : dec 75 cs = some x) (r : Rn) (cs' : List PV) (hv : VRs X0 r cs cs') : VRs X0 r (lay 75 x) cs' := by
  rcases cs with _ | ⟨c0, cs⟩
  · cases h
  rcases cs with _ | ⟨c1, cs⟩
  · cases h
  rcases cs with _ | ⟨c2, cs⟩
  rotate_left
  · cases h
  have h : (match dR 78 c0 with | some a0 => (match dS c1 with | some a1 => some (NfaMachine.mk a0 a1) | none => none) | none => none) = some (x : NfaMachine) := h
  obtain ⟨a0, e0⟩ : ∃ a, dR 78 c0 = some a := by
    cases e : dR 78 c0 with
    | none => rw [e] at h; cases h
    | some a => exact ⟨a, rfl⟩
  rw [e0] at h
  have h : (match dS c1 with | some a1 => some (NfaMachine.mk a0 a1) | none => none) = some (x : NfaMachine) := h
  obtain ⟨q0, cs', rfl, g0, hv⟩ := VRs.cons_iff.1 hv
  obtain ⟨a1, e1⟩ : ∃ a, dS c1 = some a := by
    cases e : dS c1 with
    | none => rw [e] at h; cases h
    | some a => exact ⟨a, rfl⟩
  rw [e1] at h
  have h : some (NfaMachine.mk a0 a1) = some (x : NfaMachine) := h
  obtain ⟨q1, cs', rfl, g1, hv⟩ := VRs.cons_iff.1 hv
  cases h
  exact VRs.cons (cR (X := X0) (show wd 78 = some _ from rfl) e0 g0) (VRs.cons (cS e1 g1) (hv))
theorem dec_78 (cs : List (TV A)) (x : A 78) (h : dec 78 cs = some x) (r : Rn) (cs' : List PV) (hv : VRs X0 r cs cs') : VRs X0 r (lay 78 x) cs' := by
  rcases cs with _ | ⟨c0, cs⟩
  · cases h
  rcases cs with _ | ⟨c1, cs⟩
  · cases h
  rcases cs with _ | ⟨c2, cs⟩
  · cases h
  rcases cs with _ | ⟨c3, cs⟩
  · cases h
  rcases cs with _ | ⟨c4, cs⟩
  · cases h
  rcases cs with _ | ⟨c5, cs⟩
  · cases h
  rcases cs with _ | ⟨c6, cs⟩
  · cases h
  rcases cs with _ | ⟨c7, cs⟩
  · cases h
  rcases cs with _ | ⟨c8, cs⟩
  · cases h
  rcases cs with _ | ⟨c9, cs⟩
  · cases h
  rcases cs with _ | ⟨c10, cs⟩
  rotate_left
  · cases h
  have h : (match dI .i64 c0 with | some a0 => (match dI .i64 c1 with | some a1 => (match dI .u64 c2 with | some a2 => (match dI .u64 c3 with | some a3 => (match dI .u64 c4 with | some a4 => (match dI .u64 c5 with | some a5 => (match dR 27 c6 with | some a6 => (match dI .i64 c7 with | some a7 => (match dI .i64 c8 with | some a8 => (match dR 3 c9 with | some a9 => some (NfaState.mk a0 a1 a2 a3 a4 a5 a6 a7 a8 a9) | none => none) | none => none) | none => none) | none => none) | none => none) | none => none) | none => none) | none => none) | none => none) | none => none) = some (x : NfaState) := h
  obtain ⟨a0, e0⟩ : ∃ a, dI .i64 c0 = some a := by
    cases e : dI .i64 c0 with
    | none => rw [e] at h; cases h
    | some a => exact ⟨a, rfl⟩
  rw [e0] at h
  have h : (match dI .i64 c1 with | some a1 => (match dI .u64 c2 with | some a2 => (match dI .u64 c3 with | some a3 => (match dI .u64 c4 with | some a4 => (match dI .u64 c5 with | some a5 => (match dR 27 c6 with | some a6 => (match dI .i64 c7 with | some a7 => (match dI .i64 c8 with | some a8 => (match dR 3 c9 with | some a9 => some (NfaState.mk a0 a1 a2 a3 a4 a5 a6 a7 a8 a9) | none => none) | none => none) | none => none) | none => none) | none => none) | none => none) | none => none) | none => none) | none => none) = some (x : NfaState) := h
  obtain ⟨q0, cs', rfl, g0, hv⟩ := VRs.cons_iff.1 hv
  obtain ⟨a1, e1⟩ : ∃ a, dI .i64 c1 = some a := by
    cases e : dI .i64 c1 with
    | none => rw [e] at h; cases h
    | some a => exact ⟨a, rfl⟩
  rw [e1] at h
  have h : (match dI .u64 c2 with | some a2 => (match dI .u64 c3 with | some a3 => (match dI .u64 c4 with | some a4 => (match dI .u64 c5 with | some a5 => (match dR 27 c6 with | some a6 => (match dI .i64 c7 with | some a7 => (match dI .i64 c8 with | some a8 => (match dR 3 c9 with | some a9 => some (NfaState.mk a0 a1 a2 a3 a4 a5 a6 a7 a8 a9) | none => none) | none => none) | none => none) | none => none) | none => none) | none => none) | none => none) | none => none) = some (x : NfaState) := h
  obtain ⟨q1, cs', rfl, g1, hv⟩ := VRs.cons_iff.1 hv
  obtain ⟨a2, e2⟩ : ∃ a, dI .u64 c2 = some a := by
    cases e : dI .u64 c2 with
    | none => rw [e] at h; cases h
    | some a => exact ⟨a, rfl⟩
  rw [e2] at h
  have h : (match dI .u64 c3 with | some a3 => (match dI .u64 c4 with | some a4 => (match dI .u64 c5 with | some a5 => (match dR 27 c6 with | some a6 => (match dI .i64 c7 with | some a7 => (match dI .i64 c8 with | some a8 => (match dR 3 c9 with | some a9 => some (NfaState.mk a0 a1 a2 a3 a4 a5 a6 a7 a8 a9) | none => none) | none => none) | none => none) | none => none) | none => none) | none => none) | none => none) = some (x : NfaState) := h
  obtain ⟨q2, cs', rfl, g2, hv⟩ := VRs.cons_iff.1 hv
  obtain ⟨a3, e3⟩ : ∃ a, dI .u64 c3 = some a := by
    cases e : dI .u64 c3 with
    | none => rw [e] at h; cases h
    | some a => exact ⟨a, rfl⟩
  rw [e3] at h
  have h : (match dI .u64 c4 with | some a4 => (match dI .u64 c5 with | some a5 => (match dR 27 c6 with | some a6 => (match dI .i64 c7 with | some a7 => (match dI .i64 c8 with | some a8 => (match dR 3 c9 with | some a9 => some (NfaState.mk a0 a1 a2 a3 a4 a5 a6 a7 a8 a9) | none => none) | none => none) | none => none) | none => none) | none => none) | none => none) = some (x : NfaState) := h
  obtain ⟨q3, cs', rfl, g3, hv⟩ := VRs.cons_iff.1 hv
  obtain ⟨a4, e4⟩ : ∃ a, dI .u64 c4 = some a := by
    cases e : dI .u64 c4 with
    | none => rw [e] at h; cases h
    | some a => exact ⟨a, rfl⟩
  rw [e4] at h
  have h : (match dI .u64 c5 with | some a5 => (match dR 27 c6 with | some a6 => (match dI .i64 c7 with | some a7 => (match dI .i64 c8 with | some a8 => (match dR 3 c9 with | some a9 => some (NfaState.mk a0 a1 a2 a3 a4 a5 a6 a7 a8 a9) | none => none) | none => none) | none => none) | none => none) | none => none) = some (x : NfaState) := h
  obtain ⟨q4, cs', rfl, g4, hv⟩ := VRs.cons_iff.1 hv
  obtain ⟨a5, e5⟩ : ∃ a, dI .u64 c5 = some a := by
    cases e : dI .u64 c5 with
    | none => rw [e] at h; cases h
    | some a => exact ⟨a, rfl⟩
  rw [e5] at h
  have h : (match dR 27 c6 with | some a6 => (match dI .i64 c7 with | some a7 => (match dI .i64 c8 with | some a8 => (match dR 3 c9 with | some a9 => some (NfaState.mk a0 a1 a2 a3 a4 a5 a6 a7 a8 a9) | none => none) | none => none) | none => none) | none => none) = some (x : NfaState) := h
  obtain ⟨q5, cs', rfl, g5, hv⟩ := VRs.cons_iff.1 hv
  obtain ⟨a6, e6⟩ : ∃ a, dR 27 c6 = some a := by
    cases e : dR 27 c6 with
    | none => rw [e] at h; cases h
    | some a => exact ⟨a, rfl⟩
  rw [e6] at h
  have h : (match dI .i64 c7 with | some a7 => (match dI .i64 c8 with | some a8 => (match dR 3 c9 with | some a9 => some (NfaState.mk a0 a1 a2 a3 a4 a5 a6 a7 a8 a9) | none => none) | none => none) | none => none) = some (x : NfaState) := h
  obtain ⟨q6, cs', rfl, g6, hv⟩ := VRs.cons_iff.1 hv
  obtain ⟨a7, e7⟩ : ∃ a, dI .i64 c7 = some a := by
    cases e : dI .i64 c7 with
    | none => rw [e] at h; cases h
    | some a => exact ⟨a, rfl⟩
  rw [e7] at h
  have h : (match dI .i64 c8 with | some a8 => (match dR 3 c9 with | some a9 => some (NfaState.mk a0 a1 a2 a3 a4 a5 a6 a7 a8 a9) | none => none) | none => none) = some (x : NfaState) := h
  obtain ⟨q7, cs', rfl, g7, hv⟩ := VRs.cons_iff.1 hv
  obtain ⟨a8, e8⟩ : ∃ a, dI .i64 c8 = some a := by
    cases e : dI .i64 c8 with
    | none => rw [e] at h; cases h
    | some a => exact ⟨a, rfl⟩
  rw [e8] at h
  have h : (match dR 3 c9 with | some a9 => some (NfaState.mk a0 a1 a2 a3 a4 a5 a6 a7 a8 a9) | none => none) = some (x : NfaState) := h
  obtain ⟨q8, cs', rfl, g8, hv⟩ := VRs.cons_iff.1 hv
  obtain ⟨a9, e9⟩ : ∃ a, dR 3 c9 = some a := by
    cases e : dR 3 c9 with
    | none => rw [e] at h; cases h
    | some a => exact ⟨a, rfl⟩
  rw [e9] at h
  have h : some (NfaState.mk a0 a1 a2 a3 a4 a5 a6 a7 a8 a9) = some (x : NfaState) := h
  obtain ⟨q9, cs', rfl, g9, hv⟩ := VRs.cons_iff.1 hv
  cases h
  exact VRs.cons (cI e0 g0) (VRs.cons (cI e1 g1) (VRs.cons (cI e2 g2) (VRs.cons (cI e3 g3) (VRs.cons (cI e4 g4) (VRs.cons (cI e5 g5) (VRs.cons (cR (X := X0) (show wd 27 = some _ from rfl) e6 g6) (VRs.cons (cI e7 g7) (VRs.cons (cI e8 g8) (VRs.cons (cR (X := X0) (show wd 3 = some _ from rfl) e9 g9) (hv))))))))))
theorem dec_89 (cs : List (TV A)) (x : A 89) (h : dec 89 cs = some x) (r : Rn) (cs' : List PV) (hv : VRs X0 r cs cs') : VRs X0 r (lay 89 x) cs' := by
  rcases cs with _ | ⟨c0, cs⟩
  · cases h
  rcases cs with _ | ⟨c1, cs⟩
  rotate_left
  · cases h
  have h : (match dR 98 c0 with | some a0 => some a0 | none => none) = some (x : List Ref1Member) := h
  obtain ⟨a0, e0⟩ : ∃ a, dR 98 c0 = some a := by
    cases e : dR 98 c0 with
    | none => rw [e] at h; cases h
    | some a => exact ⟨a, rfl⟩
  rw [e0] at h
  have h : some a0 = some (x : List Ref1Member) := h
  obtain ⟨q0, cs', rfl, g0, hv⟩ := VRs.cons_iff.1 hv
  cases h
  exact VRs.cons (cR (X := X0) (show wd 98 = some _ from rfl) e0 g0) (hv)
theorem dec_96 (cs : List (TV A)) (x : A 96) (h : dec 96 cs = some x) (r : Rn) (cs' : List PV) (hv : VRs X0 r cs cs') : VRs X0 r (lay 96 x) cs' := by
  rcases cs with _ | ⟨c0, cs⟩
  · cases h
  rcases cs with _ | ⟨c1, cs⟩
  rotate_left
  · cases h
  have h : (match dI .u64 c0 with | some a0 => some a0 | none => none) = some (x : Int) := h
  obtain ⟨a0, e0⟩ : ∃ a, dI .u64 c0 = some a := by
    cases e : dI .u64 c0 with
    | none => rw [e] at h; cases h
    | some a => exact ⟨a, rfl⟩
  rw [e0] at h
  have h : some a0 = some (x : Int) := h
  obtain ⟨q0, cs', rfl, g0, hv⟩ := VRs.cons_iff.1 hv
  cases h
  exact VRs.cons (cI e0 g0) (hv)
theorem dec_98 (cs : List (TV A)) (x : A 98) (h : dec 98 cs = some x) (r : Rn) (cs' : List PV) (hv : VRs X0 r cs cs') : VRs X0 r (lay 98 x) cs' := by
  rcases cs with _ | ⟨c0, cs⟩
  · cases h
  rcases cs with _ | ⟨c1, cs⟩
  · cases h
  rcases cs with _ | ⟨c2, cs⟩
  · cases h
  rcases cs with _ | ⟨c3, cs⟩
  · cases h
  rcases cs with _ | ⟨c4, cs⟩
  rotate_left
  · cases h
  have h : (match dI .i64 c0 with | some a0 => (match dI .i64 c1 with | some a1 => (match dI .i64 c2 with | some a2 => (match dS c3 with | some a3 => some (Ref1Member.mk a0 a1 a2 a3) | none => none) | none => none) | none => none) | none => none) = some (x : Ref1Member) := h
  obtain ⟨a0, e0⟩ : ∃ a, dI .i64 c0 = some a := by
    cases e : dI .i64 c0 with
    | none => rw [e] at h; cases h
    | some a => exact ⟨a, rfl⟩
  rw [e0] at h
  have h : (match dI .i64 c1 with | some a1 => (match dI .i64 c2 with | some a2 => (match dS c3 with | some a3 => some (Ref1Member.mk a0 a1 a2 a3) | none => none) | none => none) | none => none) = some (x : Ref1Member) := h
  obtain ⟨q0, cs', rfl, g0, hv⟩ := VRs.cons_iff.1 hv
  obtain ⟨a1, e1⟩ : ∃ a, dI .i64 c1 = some a := by
    cases e : dI .i64 c1 with
    | none => rw [e] at h; cases h
    | some a => exact ⟨a, rfl⟩
  rw [e1] at h
  have h : (match dI .i64 c2 with | some a2 => (match dS c3 with | some a3 => some (Ref1Member.mk a0 a1 a2 a3) | none => none) | none => none) = some (x : Ref1Member) := h
  obtain ⟨q1, cs', rfl, g1, hv⟩ := VRs.cons_iff.1 hv
  obtain ⟨a2, e2⟩ : ∃ a, dI .i64 c2 = some a := by
    cases e : dI .i64 c2 with
    | none => rw [e] at h; cases h
    | some a => exact ⟨a, rfl⟩
  rw [e2] at h
  have h : (match dS c3 with | some a3 => some (Ref1Member.mk a0 a1 a2 a3) | none => none) = some (x : Ref1Member) := h
  obtain ⟨q2, cs', rfl, g2, hv⟩ := VRs.cons_iff.1 hv
  obtain ⟨a3, e3⟩ : ∃ a, dS c3 = some a := by
    cases e : dS c3 with
    | none => rw [e] at h; cases h
    | some a => exact ⟨a, rfl⟩
  rw [e3] at h
  have h : some (Ref1Member.mk a0 a1 a2 a3) = some (x : Ref1Member) := h
  obtain ⟨q3, cs', rfl, g3, hv⟩ := VRs.cons_iff.1 hv
  cases h
  exact VRs.cons (cI e0 g0) (VRs.cons (cI e1 g1) (VRs.cons (cI e2 g2) (VRs.cons (cS e3 g3) (hv))))
theorem dec_111 (cs : List (TV A)) (x : A 111) (h : dec 111 cs = some x) (r : Rn) (cs' : List PV) (hv : VRs X0 r cs cs') : VRs X0 r (lay 111 x) cs' := by
  rcases cs with _ | ⟨c0, cs⟩
  · cases h
  rcases cs with _ | ⟨c1, cs⟩
  rotate_left
  · cases h
  have h : (match dI .u32 c0 with | some a0 => some a0 | none => none) = some (x : Int) := h
  obtain ⟨a0, e0⟩ : ∃ a, dI .u32 c0 = some a := by
    cases e : dI .u32 c0 with
    | none => rw [e] at h; cases h
    | some a => exact ⟨a, rfl⟩
  rw [e0] at h
  have h : some a0 = some (x : Int) := h
  obtain ⟨q0, cs', rfl, g0, hv⟩ := VRs.cons_iff.1 hv
  cases h
  exact VRs.cons (cI e0 g0) (hv)
theorem dec_121 (cs : List (TV A)) (x : A 121) (h : dec 121 cs = some x) (r : Rn) (cs' : List PV) (hv : VRs X0 r cs cs') : VRs X0 r (lay 121 x) cs' := by
  rcases cs with _ | ⟨c0, cs⟩
  · cases h
  rcases cs with _ | ⟨c1, cs⟩
  rotate_left
  · cases h
  have h : (match dI .u8 c0 with | some a0 => some a0 | none => none) = some (x : Int) := h
  obtain ⟨a0, e0⟩ : ∃ a, dI .u8 c0 = some a := by
    cases e : dI .u8 c0 with
    | none => rw [e] at h; cases h
    | some a => exact ⟨a, rfl⟩
  rw [e0] at h
  have h : some a0 = some (x : Int) := h
  obtain ⟨q0, cs', rfl, g0, hv⟩ := VRs.cons_iff.1 hv
  cases h
  exact VRs.cons (cI e0 g0) (hv)
theorem dec_122 (cs : List (TV A)) (x : A 122) (h : dec 122 cs = some x) (r : Rn) (cs' : List PV) (hv : VRs X0 r cs cs') : VRs X0 r (lay 122 x) cs' := by
  rcases cs with _ | ⟨c0, cs⟩
  · cases h
  rcases cs with _ | ⟨c1, cs⟩
  rotate_left
  · cases h
  have h : (match dI .u8 c0 with | some a0 => some a0 | none => none) = some (x : Int) := h
  obtain ⟨a0, e0⟩ : ∃ a, dI .u8 c0 = some a := by
    cases e : dI .u8 c0 with
    | none => rw [e] at h; cases h
    | some a => exact ⟨a, rfl⟩
  rw [e0] at h
  have h : some a0 = some (x : Int) := h
  obtain ⟨q0, cs', rfl, g0, hv⟩ := VRs.cons_iff.1 hv
  cases h
  exact VRs.cons (cI e0 g0) (hv)
theorem dec_125 (cs : List (TV A)) (x : A 125) (h : dec 125 cs = some x) (r : Rn) (cs' : List PV) (hv : VRs X0 r cs cs') : VRs X0 r (lay 125 x) cs' := by
  rcases cs with _ | ⟨c0, cs⟩
  · cases h
  rcases cs with _ | ⟨c1, cs⟩
  rotate_left
  · cases h
  have h : (match dI .i32 c0 with | some a0 => some a0 | none => none) = some (x : Int) := h
  obtain ⟨a0, e0⟩ : ∃ a, dI .i32 c0 = some a := by
    cases e : dI .i32 c0 with
    | none => rw [e] at h; cases h
    | some a => exact ⟨a, rfl⟩
  rw [e0] at h
  have h : some a0 = some (x : Int) := h
  obtain ⟨q0, cs', rfl, g0, hv⟩ := VRs.cons_iff.1 hv
  cases h
  exact VRs.cons (cI e0 g0) (hv)
theorem dec_126 (cs : List (TV A)) (x : A 126) (h : dec 126 cs = some x) (r : Rn) (cs' : List PV) (hv : VRs X0 r cs cs') : VRs X0 r (lay 126 x) cs' := by
  rcases cs with _ | ⟨c0, cs⟩
  · cases h
  rcases cs with _ | ⟨c1, cs⟩
  rotate_left
  · cases h
  have h : (match dI .i32 c0 with | some a0 => some a0 | none => none) = some (x : Int) := h
  obtain ⟨a0, e0⟩ : ∃ a, dI .i32 c0 = some a := by
    cases e : dI .i32 c0 with
    | none => rw [e] at h; cases h
    | some a => exact ⟨a, rfl⟩
  rw [e0] at h
  have h : some a0 = some (x : Int) := h
  obtain ⟨q0, cs', rfl, g0, hv⟩ := VRs.cons_iff.1 hv
  cases h
  exact VRs.cons (cI e0 g0) (hv)
theorem dec_ok : ∀ t n, wd t = some n → ∀ cs x, dec t cs = some x → ∀ r cs', VRs X0 r cs cs' → VRs X0 r (lay t x) cs' := by
  intro t n h
  unfold wd at h
  split at h
  · exact dec_2
  · exact dec_3
  · exact dec_4
  · exact dec_5
  · exact dec_6
  · exact dec_8
  · exact dec_9
  · exact dec_10
  · exact dec_11
  · exact dec_12
  · exact dec_14
  · exact dec_21
  · exact dec_23
  · exact dec_25
  · exact dec_27
  · exact dec_35
  · exact dec_36
  · exact dec_40
  · exact dec_48
  · exact dec_50
  · exact dec_60
  · exact dec_70
  · exact dec_73
  · exact dec_75
  · exact dec_78
  · exact dec_89
  · exact dec_96
  · exact dec_98
  · exact dec_111
  · exact dec_121
  · exact dec_122
  · exact dec_125
  · exact dec_126
  · cases h
end Go.Proofs.YtlkaoiceehlkmaaTE
