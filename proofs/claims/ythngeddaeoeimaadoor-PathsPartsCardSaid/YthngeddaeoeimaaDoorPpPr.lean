/- What the library's functions of this seat promise; no condition. -/
import Derived.Test.YthngeddaeoeimaaDoorPpXo
import Derived.Test.YthngeddaeoeimaaDoorPpF
namespace Go.Proofs.YthngeddaeoeimaaDoorTE
open Go Go.Proofs.YthngeddaeoeimaaDoorVE
set_option linter.unusedVariables false
theorem xOk : XOk X0 := ⟨wd_ok, fun t n h cs x hd r cs' hv => dec_ok t n h cs x hd r cs' hv, fun _ _ => rfl, fun g hg args => by
  have hg : isKeep cfgX g = true := hg
  show primPp g args = none
  unfold primPp
  split
  all_goals first | rfl | (revert hg; show isKeep cfgX _ = true → _; intro h; cases h)⟩
theorem strRow (R : Rn) (l : List (List UInt8)) (f : Flag) : VRs X0 R [.row 9 l .sh] [.row (l.map fun s => [.v (.string ⟨s.toArray⟩)]) f] := by
  have hlen : l.length = (l.map fun s => [PV.v (.string ⟨s.toArray⟩)]).length := by simp
  refine .row (n := 1) rfl hlen (fun i a c ha hc => ?_) (fun c hc => ?_) trivial .nil
  · have ha' : l[i]? = some (show List UInt8 from a) := ha
    have hc' : (l[i]?).map (fun s => [PV.v (.string ⟨s.toArray⟩)]) = some c := by rw [← List.getElem?_map]; exact hc
    rw [ha'] at hc'
    cases hc'
    exact .str .nil
  · obtain ⟨n, _, rfl⟩ := List.mem_map.1 hc; rfl
theorem pParts_eq (s : List UInt8) (hl : s.length ≤ 4294967296) : pParts [.v (.string ⟨s.toArray⟩)] = some (.row ((Paths.parts s).map fun l => [.v (.string ⟨l.toArray⟩)]) .sh) := by
  have e : pParts [.v (.string ⟨s.toArray⟩)] = if (⟨s.toArray⟩ : ByteArray).size ≤ 4294967296 then some (.row ((Paths.parts s).map fun l => [.v (.string ⟨l.toArray⟩)]) .sh) else none := rfl
  rw [e, if_pos]
  show s.toArray.size ≤ _
  rw [List.size_toArray]; exact hl
theorem parts_ok : EntryOk X0 28 ⟨[(.tmp 0, .str)], 0, [(.tmp 0, .row 9 false)], tParts⟩ := prim_ok fun v w hw R args' ha => by
  obtain ⟨s, u⟩ := v
  have ha := args_s (show VRs X0 R [.str s] args' from ha)
  subst ha
  have hw : tParts (s, u) = some w := hw
  unfold tParts at hw
  split at hw
  · rename_i hl
    simp only [decide_eq_true_eq] at hl
    cases hw
    exact ⟨[_], pParts_eq s hl, strRow R (Paths.parts s) .sh⟩
  · cases hw
theorem tab0_ok : TabsOk X0 tab0 := fun g e he => by
  unfold tab0 at he
  split at he
  all_goals first | (cases he; done) | (have he := List.eq_of_mem_singleton he; subst he)
  all_goals first | exact (none_ok (fun _ => rfl)).any rfl | exact parts_ok.any rfl | exact (index_ok' rfl).any rfl
end Go.Proofs.YthngeddaeoeimaaDoorTE
