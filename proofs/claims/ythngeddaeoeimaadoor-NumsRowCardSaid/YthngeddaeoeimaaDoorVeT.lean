import Derived.Test.YthngeddaeoeimaaDoorVeP
import Derived.ChangeSlices
import Derived.WideShapes
namespace Go.Proofs.YthngeddaeoeimaaDoorVE
open Go Go.RowKit
set_option linter.unusedVariables false
/-! All of the memory is known as it stands. -/
noncomputable def gAll (w : World) : Gh := { g0 with own := fun b o => match w.cell? ⟨b, o, none⟩ with
  | some v => .im v
  | none => .other }
theorem gAll_im {w : World} {b o : Nat} {v : Value} (h : w.cell? ⟨b, o, none⟩ = some v) : (gAll w).own b o = .im v := by
  simp only [gAll, h]
theorem startAll (w : World) : SR ⟨w⟩ (gAll w) St.nil w where
  nl := rfl
  nt := rfl
  old := Below.refl _ _
  im := fun b o v h => by
    simp only [gAll] at h
    split at h
    · rename_i u hu; cases h; exact hu
    · cases h
  mloc := fun b o l h => by
    simp only [gAll] at h
    split at h <;> cases h
  mspare := fun b o t h => by
    simp only [gAll] at h
    split at h <;> cases h
  loc := fun l cs h => by simp [locAt, St.nil] at h
  tok := fun t h => by cases h
  obj := fun l r h => by cases h
/-- A slice of plain values that lie in memory. -/
theorem rep_flats {w : World} {a : Addr} {cap : Nat} {xs : List Value} (hs : a.spot = none) (hf : xs.all flat = true) (hc : xs.length ≤ cap) (hx : ∀ i v, xs[i]? = some v → w.cell? (a.add i) = some v) : Rep (gAll w) (.row (xs.map fun x => [.v x]) .sh) (.slice (some a) xs.length cap) := by
  obtain ⟨b, o, s⟩ := a
  simp only at hs
  subst hs
  rw [Rep]
  refine .inr ⟨b, o, 1, cap, xs, by simp, fun c hc => ?_, fun j v hv => gAll_im ?_, ?_, by simpa using hc, by simp [FlagOk]⟩
  · obtain ⟨x, _, rfl⟩ := List.mem_map.1 hc; rfl
  · have := hx j v hv
    by_cases hj : j = 0
    · subst hj; simpa [Addr.add] using this
    · simpa [Addr.add, hj] using this
  · rw [Repss_iff]
    have : ((xs.map fun x => [PV.v x])).flatten = xs.map .v := by
      clear hf hc hx
      induction xs with
      | nil => rfl
      | cons x xs ih => simp [ih]
    rw [this]
    exact Reps.flats xs hf
theorem spot_of {P : Program} {w : World} {base : Nat} {t e : TypeId} {a : Addr} {len cap : Nat} (ht : P.underlying t = some (.slice e)) (h : Value.okWide P w .any base t (.slice (some a) len cap)) : a.spot = none := by
  have h2 : Cell.ok P w .any base t (.slice (some a) len cap) := by simpa [Value.okWide, ht, Cell.okWide] using h
  have h3 : len ≤ cap ∧ (cap : Int) ≤ IntKind.i64.max ∧ w.has P .any base a e cap := by simpa [Cell.ok, ht] using h2
  exact h3.2.2.2.1
end Go.Proofs.YthngeddaeoeimaaDoorVE
