/- What the library's functions of this seat promise; no condition. -/
import Derived.Test.YtlkaoiceehlkmaaEsXo
import Derived.Test.YtlkaoiceehlkmaaEsD
import Derived.Test.YtlkaoiceehlkmaaTeV1
namespace Go.Proofs.YtlkaoiceehlkmaaTE
open Go Go.Proofs.YtlkaoiceehlkmaaVE
set_option linter.unusedVariables false
theorem xOk : XOk X0 := ⟨wd_ok, fun t n h cs x hd r cs' hv => dec_ok t n h cs x hd r cs' hv, fun _ _ => rfl, fun g hg args => by
  have hg : isKeep cfgX g = true := hg
  show primEs g args = none
  unfold primEs
  split
  all_goals first | rfl | (revert hg; show isKeep cfgX _ = true → _; intro h; cases h)⟩
theorem indexByte_ok {X : TX} {g : FuncId} (hp : X.C.prim g = pIndexByte) : EntryOk X g ⟨[(.tmp 0, .str), (.tmp 1, .int .u8)], 0, [(.tmp 0, .int .i64)], tIndexByte⟩ := prim_ok fun v w hw R args' ha => by
  obtain ⟨s, c, u⟩ := v
  have ha : VRs X R [.str s, .int .u8 c] args' := ha
  have ha : args' = [.v (.string ⟨s.toArray⟩), .v (.int .u8 c)] := by
    cases ha with | str h => cases h with | int h => cases h; rfl
  subst ha
  have hw : tIndexByte (s, c, ()) = some w := hw
  unfold tIndexByte at hw
  cases hw
  refine ⟨[.v (.int .i64 (idxF s (Int.toNat c).toUInt8 0))], ?_, .int .nil⟩
  rw [hp]
  rfl
theorem tab0_ok : TabsOk X0 tab0 := fun g e he => by
  unfold tab0 at he
  split at he
  all_goals first | (cases he; done) | (have he := List.eq_of_mem_singleton he; subst he)
  all_goals first | exact (none_ok (fun _ => rfl)).any rfl | exact (indexByte_ok rfl).any rfl | exact (indexL_ok rfl).any rfl
end Go.Proofs.YtlkaoiceehlkmaaTE
