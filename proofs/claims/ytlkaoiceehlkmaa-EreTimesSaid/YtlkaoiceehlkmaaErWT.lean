/- The walk of EreTimes; no condition. -/
import Derived.Test.YtlkaoiceehlkmaaErW
import Derived.Test.YtlkaoiceehlkmaaTeV1
import Derived.Test.YtlkaoiceehlkmaaPureET
import Derived.Test.YtlkaoiceehlkmaaErOkLEreTimes
namespace Go.Proofs.YtlkaoiceehlkmaaTE
open Go Go.Proofs.YtlkaoiceehlkmaaVE Go.RowKit
theorem ereTimes_walk (a b c : Int) (w : World) : Calls Try.prog 10 #[.int .i64 a, .int .i64 b, .int .i64 c] w fun e w' => e = .returned (.bool true) ∧ Below w.heap.size w w' :=
  told_F (X := X0) law6_EreTimes_ok rfl (fun _ => rfl) (a, b, c, ()) (true, ()) (ereTimes_pure a b c) rfl (args' := [.v (.int .i64 a), .v (.int .i64 b), .v (.int .i64 c)]) (.int (.int (.int .nil))) rfl (cfgOkX (B := ⟨w⟩)) (YtlkaoiceehlkmaaVE.start w) (vs := [.int .i64 a, .int .i64 b, .int .i64 c]) (by simp only [Reps]; exact ⟨_, _, rfl, Rep.ofFlat rfl, _, _, rfl, Rep.ofFlat rfl, _, _, rfl, Rep.ofFlat rfl, rfl⟩)
end Go.Proofs.YtlkaoiceehlkmaaTE
