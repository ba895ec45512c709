/- What the library's functions of this seat promise; no condition. -/
import Derived.Test.YthngeddaeoeimaaDoorNcXo
import Derived.Test.YthngeddaeoeimaaDoorNcF
namespace Go.Proofs.YthngeddaeoeimaaDoorTE
open Go Go.Proofs.YthngeddaeoeimaaDoorVE
set_option linter.unusedVariables false
theorem xOk : XOk X0 := ⟨wd_ok, fun t n h cs x hd r cs' hv => dec_ok t n h cs x hd r cs' hv, fun _ _ => rfl, fun g hg args => by
  have hg : isKeep cfgX g = true := hg
  show primC g args = none
  unfold primC
  split
  all_goals first | rfl | (revert hg; show isKeep cfgX _ = true → _; intro h; cases h)⟩
theorem tab0_ok : TabsOk X0 tab0 := fun g e he => by
  unfold tab0 at he
  split at he
  all_goals first | (cases he; done) | (have he := List.eq_of_mem_singleton he; subst he)
  all_goals first | exact none_ok (fun _ => rfl) | exact atoiAll_ok rfl | exact itoa_ok' rfl | exact count_ok rfl | exact index_ok' rfl
end Go.Proofs.YthngeddaeoeimaaDoorTE
