/- The walk of NumsRow; no condition but the table of powers. -/
import Derived.Test.YthngeddaeoeimaaDoorPureNR
import Derived.Test.YthngeddaeoeimaaDoorNcNB
import Derived.Test.YthngeddaeoeimaaDoorVeT
namespace Go.Proofs.YthngeddaeoeimaaDoorTE
open Go Go.Proofs.YthngeddaeoeimaaDoorVE Go.RowKit
set_option linter.unusedVariables false
theorem rowInts (l : List Int) : VRs X0 Rn.nil [.row 3 l .sh] [.row (l.map fun n => [.v (.int .i64 n)]) .sh] := by
  have hlen : l.length = (l.map fun n => [PV.v (.int .i64 n)]).length := by simp
  refine .row (n := 1) rfl hlen (fun i a c ha hc => ?_) (fun c hc => ?_) trivial .nil
  · have ha' : l[i]? = some (show Int from a) := ha
    have hc' : (l[i]?).map (fun n => [PV.v (.int .i64 n)]) = some c := by rw [← List.getElem?_map]; exact hc
    rw [ha'] at hc'
    cases hc'
    exact .int .nil
  · obtain ⟨n, _, rfl⟩ := List.mem_map.1 hc; rfl
theorem numsRow_walk (xs : List Int) (sep : Int) (h0 : 0 ≤ sep) (h1 : sep ≤ 255) (a : Addr) (cap : Nat) (w : World) (hs : a.spot = none) (hc : xs.length ≤ cap) (hx : ∀ i, i < xs.length → w.cell? (a.add i) = some (.int .i64 (xs.getD i 0)))
    (htab : Lib.TabIs Tryd.prog w "internal/strconv.uint64pow10" .u64 Lib.pow10Tab) : Calls Tryd.prog 14 #[.slice (some a) xs.length cap, .int .u8 sep] w fun e w' => e = .returned (.bool true) ∧ Below w.heap.size w w' := by
  obtain ⟨k, hk⟩ := told_of (X := X0) law2_NumsRow_ok rfl (fun _ => rfl) (v := (xs, sep, ())) (w := (true, ())) (numsRow_pure xs sep h0 h1) rfl (args' := [.row (xs.map fun n => [.v (.int .i64 n)]) .sh, .v (.int .u8 sep)]) (VRs.cons (rowInts xs) (.int .nil)) rfl
  have hr : Rep (gAll w) (.row (xs.map fun n => [PV.v (.int .i64 n)]) .sh) (.slice (some a) xs.length cap) := by
    have := rep_flats (w := w) (a := a) (cap := cap) (xs := xs.map fun n => Value.int .i64 n) hs (by rw [List.all_eq_true]; intro x hx; obtain ⟨n, _, rfl⟩ := List.mem_map.1 hx; rfl) (by simpa using hc) (fun i v hv => by
      rw [List.getElem?_map, Option.map_eq_some_iff] at hv
      obtain ⟨n, hn, rfl⟩ := hv
      have hi := (List.getElem?_eq_some_iff.1 hn).1
      rw [hx i hi]
      simp [List.getD, hn])
    simpa [Function.comp_def] using this
  exact told (C := cfgX) (cfgOkX (B := ⟨w⟩) htab) hk (startAll w) (vs := [.slice (some a) xs.length cap, .int .u8 sep]) (by simp only [Reps]; exact ⟨_, _, rfl, hr, _, _, rfl, Rep.ofFlat rfl, rfl⟩)
theorem numsRow_walk0 (sep : Int) (h0 : 0 ≤ sep) (h1 : sep ≤ 255) (w : World)
    (htab : Lib.TabIs Tryd.prog w "internal/strconv.uint64pow10" .u64 Lib.pow10Tab) : Calls Tryd.prog 14 #[.slice none 0 0, .int .u8 sep] w fun e w' => e = .returned (.bool true) ∧ Below w.heap.size w w' := by
  obtain ⟨k, hk⟩ := told_of (X := X0) law2_NumsRow_ok rfl (fun _ => rfl) (v := ([], sep, ())) (w := (true, ())) (numsRow_pure [] sep h0 h1) rfl (args' := [.row [] .sh, .v (.int .u8 sep)]) (VRs.cons (rowInts []) (.int .nil)) rfl
  exact told (C := cfgX) (cfgOkX (B := ⟨w⟩) htab) hk (YthngeddaeoeimaaDoorVE.start w) (vs := [.slice none 0 0, .int .u8 sep]) (by
    simp only [Reps]
    exact ⟨_, _, rfl, by rw [Rep]; exact .inl ⟨rfl, rfl, trivial⟩, _, _, rfl, Rep.ofFlat rfl, rfl⟩)
end Go.Proofs.YthngeddaeoeimaaDoorTE
