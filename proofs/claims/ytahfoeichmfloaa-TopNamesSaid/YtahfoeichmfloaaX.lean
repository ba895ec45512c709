/- A fact on one cell of the library's memory, and how it is carried. -/
import Derived.Test.YtahfoeichmfloaaWWords
import Derived.Test.YtahfoeichmfloaaShelf
namespace Go.Proofs
open Go.RowKit Go.Proofs.YtahfoeichmfloaaW.PrintWords
/-- The library's own variable (its cell is the first one) holds some number. -/
structure XW (w : World) : Prop where mk :: (out : ∃ m, w.cell? ⟨0, 0, none⟩ = some (.int .i64 m))
theorem XW.below {w W : World} (h : XW w) (hb : Below w.heap.size w W) : XW W := by
  obtain ⟨m, hm⟩ := h.out
  exact ⟨m, pw_cell_below hb hm⟩
theorem XW.drawn {w W : World} (h : XW w) (hb : Drawn0 w W) : XW W := h.below hb.below
/-- How many bytes a written text has. -/
theorem ba_size_lit (l : List UInt8) : (⟨l.toArray⟩ : ByteArray).size = l.length := rfl
end Go.Proofs
