/- A fact on one cell of the library's memory, how it is carried, and rows of texts in new memory; no condition. -/
import Derived.Test.YthngeddaeoeimaaDoorWWords
import Derived.Test.YthngeddaeoeimaaDoorShelf
import Derived.Lib.SplitLaws
namespace Go.Proofs
open Go.RowKit Go.Proofs.YthngeddaeoeimaaDoorW.PrintWords
/-- The library's own variable (its cell is the first one) holds some number. -/
structure XW (w : World) : Prop where mk :: (out : ∃ m, w.cell? ⟨0, 0, none⟩ = some (.int .i64 m))
theorem XW.below {w W : World} (h : XW w) (hb : Below w.heap.size w W) : XW W := by
  obtain ⟨m, hm⟩ := h.out
  exact ⟨m, pw_cell_below hb hm⟩
theorem XW.drawn {w W : World} (h : XW w) (hb : Drawn0 w W) : XW W := h.below hb.below
/-- How many bytes a written text has. -/
theorem ba_size_lit (l : List UInt8) : (⟨l.toArray⟩ : ByteArray).size = l.length := rfl
theorem one_byte {s : ByteArray} (h : s.size = 1) : ∃ c : UInt8, s = ⟨#[c]⟩ := by
  obtain ⟨⟨l⟩⟩ := s
  have h' : l.length = 1 := h
  match l, h' with
  | [c], _ => exact ⟨c, rfl⟩

/-- texts in new memory, with room behind -/
theorem strs_own (W : World) (xs : List ByteArray) (N : Nat) (h : xs.length ≤ N) (hN : N ≤ 9223372036854775807) :
    Kd.R Kd.string 9 (W.alloc (.cells (Lib.cellsOf xs N) 9)) W.heap.size (fun _ => True) (.slice (some ⟨W.heap.size, 0, none⟩) xs.length N) xs := by
  refine ⟨fun _ _ => trivial, encs Value.string xs, ⟨by simp [encs, Kd.string, Kd.scalar], .inr ⟨W.heap.size, N, Lib.cellsOf xs N, rfl, Nat.le_refl _, heap_alloc_new W _, h, by simpa [maxLen] using hN, ?_, ?_⟩⟩, Kd.reps_scalar xs⟩
  · simp [Kd.string, Kd.scalar, Lib.cellsOf_size h]
  · simp [Kd.string, Kd.scalar, Lib.cellsOf, encs]

/-- a row of texts that is read: where it lies -/
theorem strs_read {w : World} {A : Option Addr} {l : List ByteArray} (h : Kd.C Kd.string w A l.length l) (hne : l ≠ []) :
    ∃ bk o, A = some ⟨bk, o, none⟩ ∧ (∀ (j : Nat) x, l[j]? = some x → w.cell? ⟨bk, o + j, none⟩ = some (.string x)) ∧ bk < w.heap.size := by
  have hpos := List.length_pos_iff.2 hne
  obtain ⟨ad, e, hc⟩ := h.2.2 hpos
  have cell : ∀ (j : Nat) x, l[j]? = some x → w.cell? (ad.add j) = some (.string x) := by
    intro j x hx
    obtain ⟨c, hl, hk, hcell⟩ := hc j x hx
    have hk' : c = [Value.string x] := hk
    subst hk'
    have := hcell 0 (.string x) rfl
    simpa [Kd.string, Kd.scalar] using this
  have h0 := cell 0 _ (List.getElem?_eq_getElem hpos)
  have hsp : ad.spot = none := by
    have h0' : w.cell? ad = some (.string l[0]) := by simpa [Addr.add] using h0
    unfold World.cell? at h0'
    split at h0'
    · split at h0'
      · cases h0'
      · rename_i hs
        simpa using hs
    · cases h0'
  obtain ⟨bk, o, sp⟩ := ad
  simp only at hsp
  subst hsp
  have add : ∀ j : Nat, (⟨bk, o, none⟩ : Addr).add j = ⟨bk, o + j, none⟩ := by
    intro j
    unfold Addr.add
    split
    · rename_i hj; subst hj; rfl
    · rfl
  refine ⟨bk, o, e, fun j x hx => by rw [← add]; exact cell j x hx, ?_⟩
  exact World.block_lt_of_cell? w _ (cell 0 _ (List.getElem?_eq_getElem hpos))
end Go.Proofs
