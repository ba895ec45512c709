/- The walk of EreRight. -/
import Derived.Test.YtlkaoiceehlkmaaEsW
import Derived.Test.YtlkaoiceehlkmaaTeV1
import Derived.Test.YtlkaoiceehlkmaaPureER
import Derived.Test.YtlkaoiceehlkmaaEsOkLEreRight
namespace Go.Proofs.YtlkaoiceehlkmaaTE
open Go Go.Proofs.YtlkaoiceehlkmaaVE Go.RowKit
theorem ereRight_walk (s : ByteArray) (w : World) (hw : ∃ m : Int, w.cell? ⟨0, 0, none⟩ = some (.int .i64 m)) : Calls Try.prog 8 #[.string s] w fun e w' => e = .returned (.bool true) ∧ Below w.heap.size w w' := by
  obtain ⟨m, hm⟩ := hw
  exact told_F (X := X0) law6_EreRight_ok rfl (fun _ => rfl) (s.data.toList, ()) (true, ()) (ereRight_pure s.data.toList) rfl (args' := [.v (.string s)]) (.str .nil) rfl (cfgOkX (B := ⟨w⟩) hm) (YtlkaoiceehlkmaaVE.start w) (vs := [.string s]) (by simp only [Reps]; exact ⟨_, _, rfl, Rep.ofFlat rfl, rfl⟩)
end Go.Proofs.YtlkaoiceehlkmaaTE
