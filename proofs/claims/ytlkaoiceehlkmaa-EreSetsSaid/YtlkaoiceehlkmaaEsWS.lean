/- The walk of EreSets. -/
import Derived.Test.YtlkaoiceehlkmaaEsW
import Derived.Test.YtlkaoiceehlkmaaTeV1
import Derived.Test.YtlkaoiceehlkmaaPureES3
import Derived.Test.YtlkaoiceehlkmaaEsOkLEreSets
namespace Go.Proofs.YtlkaoiceehlkmaaTE
open Go Go.Proofs.YtlkaoiceehlkmaaVE Go.RowKit
theorem ereSets_walk (a b c n : Int) (ha : 0 ≤ a) (hb : 0 ≤ b) (hc : 0 ≤ c) (hc2 : c ≤ 255) (w : World) (hw : ∃ m : Int, w.cell? ⟨0, 0, none⟩ = some (.int .i64 m)) : Calls Try.prog 11 #[.int .u8 a, .int .u8 b, .int .u8 c, .int .i64 n] w fun e w' => e = .returned (.bool true) ∧ Below w.heap.size w w' := by
  obtain ⟨m, hm⟩ := hw
  exact told_F (X := X0) law6_EreSets_ok rfl (fun _ => rfl) (a, b, c, n, ()) (true, ()) (ereSets_pure a b c n ha hb hc hc2) rfl (args' := [.v (.int .u8 a), .v (.int .u8 b), .v (.int .u8 c), .v (.int .i64 n)]) (.int (.int (.int (.int .nil)))) rfl (cfgOkX (B := ⟨w⟩) hm) (YtlkaoiceehlkmaaVE.start w) (vs := [.int .u8 a, .int .u8 b, .int .u8 c, .int .i64 n]) (by simp only [Reps]; exact ⟨_, _, rfl, Rep.ofFlat rfl, _, _, rfl, Rep.ofFlat rfl, _, _, rfl, Rep.ofFlat rfl, _, _, rfl, Rep.ofFlat rfl, rfl⟩)
end Go.Proofs.YtlkaoiceehlkmaaTE
