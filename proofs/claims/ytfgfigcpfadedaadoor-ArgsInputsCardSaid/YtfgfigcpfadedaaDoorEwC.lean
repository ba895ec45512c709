import Derived.Test.YtfgfigcpfadedaaDoorEwA
namespace Go.Proofs.YtfgfigcpfadedaaDoorVE
open Go Go.RowKit
set_option maxRecDepth 100000
theorem ai0 : isTrue (evCall cfgE 200 5 [.v (.int .i64 (Int.ofNat 0))] ⟨0, none⟩ St.nil) = true := by kernel_rfl
theorem ai1 : isTrue (evCall cfgE 200 5 [.v (.int .i64 (Int.ofNat 1))] ⟨0, none⟩ St.nil) = true := by kernel_rfl
theorem ai2 : isTrue (evCall cfgE 200 5 [.v (.int .i64 (Int.ofNat 2))] ⟨0, none⟩ St.nil) = true := by kernel_rfl
theorem ai3 : isTrue (evCall cfgE 200 5 [.v (.int .i64 (Int.ofNat 3))] ⟨0, none⟩ St.nil) = true := by kernel_rfl
theorem ai4 : isTrue (evCall cfgE 200 5 [.v (.int .i64 (Int.ofNat 4))] ⟨0, none⟩ St.nil) = true := by kernel_rfl
theorem ai5 : isTrue (evCall cfgE 200 5 [.v (.int .i64 (Int.ofNat 5))] ⟨0, none⟩ St.nil) = true := by kernel_rfl
theorem ai6 : isTrue (evCall cfgE 200 5 [.v (.int .i64 (Int.ofNat 6))] ⟨0, none⟩ St.nil) = true := by kernel_rfl
theorem ai7 : isTrue (evCall cfgE 200 5 [.v (.int .i64 (Int.ofNat 7))] ⟨0, none⟩ St.nil) = true := by kernel_rfl
theorem ai8 : isTrue (evCall cfgE 200 5 [.v (.int .i64 (Int.ofNat 8))] ⟨0, none⟩ St.nil) = true := by kernel_rfl
theorem aiOne : isTrue (evCall cfgE 200 5 [.v (.int .i64 (Int.negSucc 0))] ⟨0, none⟩ St.nil) = true := by kernel_rfl
theorem aiNeg (k : Nat) : isTrue (evCall cfgE 200 5 [.v (.int .i64 (Int.negSucc (k + 1)))] ⟨0, none⟩ St.nil) = true := by kernel_rfl
theorem aiBig (k : Nat) : isTrue (evCall cfgE 200 5 [.v (.int .i64 (Int.ofNat (k + 9)))] ⟨0, none⟩ St.nil) = true := by kernel_rfl
theorem aiAll (n : Int) : isTrue (evCall cfgE 200 5 [.v (.int .i64 (n))] ⟨0, none⟩ St.nil) = true :=
  int_parts 9 (fun n => isTrue (evCall cfgE 200 5 [.v (.int .i64 (n))] ⟨0, none⟩ St.nil) = true) aiOne aiNeg (fun i hi => by
    match i, hi with
    | 0, _ => exact ai0
    | 1, _ => exact ai1
    | 2, _ => exact ai2
    | 3, _ => exact ai3
    | 4, _ => exact ai4
    | 5, _ => exact ai5
    | 6, _ => exact ai6
    | 7, _ => exact ai7
    | 8, _ => exact ai8
    | i + 9, h => exact absurd h (by omega)) aiBig n
theorem argsInputs_walk (n : Int) (w : World) (htab : Lib.TabIs Tryd.prog w "strings.asciiSpace" .u8 Lib.asciiSpaceTab) : Calls Tryd.prog 5 #[.int .i64 n] w fun e w' => e = .returned (.bool true) ∧ Below w.heap.size w w' :=
  told (cfgOkE (B := ⟨w⟩) htab) (aiAll n) (start w) (vs := [.int .i64 n]) (by simp only [Reps]; exact ⟨_, _, rfl, Rep.ofFlat rfl, rfl⟩)
end Go.Proofs.YtfgfigcpfadedaaDoorVE
