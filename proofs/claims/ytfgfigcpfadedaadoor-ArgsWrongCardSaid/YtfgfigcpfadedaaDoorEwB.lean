import Derived.Test.YtfgfigcpfadedaaDoorEwA
namespace Go.Proofs.YtfgfigcpfadedaaDoorVE
open Go Go.RowKit
set_option maxRecDepth 100000
theorem aw0 : isTrue (evCall cfgE 200 4 [.v (.int .i64 (Int.ofNat 0))] ⟨0, none⟩ St.nil) = true := by kernel_rfl
theorem aw1 : isTrue (evCall cfgE 200 4 [.v (.int .i64 (Int.ofNat 1))] ⟨0, none⟩ St.nil) = true := by kernel_rfl
theorem aw2 : isTrue (evCall cfgE 200 4 [.v (.int .i64 (Int.ofNat 2))] ⟨0, none⟩ St.nil) = true := by kernel_rfl
theorem aw3 : isTrue (evCall cfgE 200 4 [.v (.int .i64 (Int.ofNat 3))] ⟨0, none⟩ St.nil) = true := by kernel_rfl
theorem aw4 : isTrue (evCall cfgE 200 4 [.v (.int .i64 (Int.ofNat 4))] ⟨0, none⟩ St.nil) = true := by kernel_rfl
theorem aw5 : isTrue (evCall cfgE 200 4 [.v (.int .i64 (Int.ofNat 5))] ⟨0, none⟩ St.nil) = true := by kernel_rfl
theorem aw6 : isTrue (evCall cfgE 200 4 [.v (.int .i64 (Int.ofNat 6))] ⟨0, none⟩ St.nil) = true := by kernel_rfl
theorem aw7 : isTrue (evCall cfgE 200 4 [.v (.int .i64 (Int.ofNat 7))] ⟨0, none⟩ St.nil) = true := by kernel_rfl
theorem aw8 : isTrue (evCall cfgE 200 4 [.v (.int .i64 (Int.ofNat 8))] ⟨0, none⟩ St.nil) = true := by kernel_rfl
theorem aw9 : isTrue (evCall cfgE 200 4 [.v (.int .i64 (Int.ofNat 9))] ⟨0, none⟩ St.nil) = true := by kernel_rfl
theorem aw10 : isTrue (evCall cfgE 200 4 [.v (.int .i64 (Int.ofNat 10))] ⟨0, none⟩ St.nil) = true := by kernel_rfl
theorem aw11 : isTrue (evCall cfgE 200 4 [.v (.int .i64 (Int.ofNat 11))] ⟨0, none⟩ St.nil) = true := by kernel_rfl
theorem aw12 : isTrue (evCall cfgE 200 4 [.v (.int .i64 (Int.ofNat 12))] ⟨0, none⟩ St.nil) = true := by kernel_rfl
theorem aw13 : isTrue (evCall cfgE 200 4 [.v (.int .i64 (Int.ofNat 13))] ⟨0, none⟩ St.nil) = true := by kernel_rfl
theorem aw14 : isTrue (evCall cfgE 200 4 [.v (.int .i64 (Int.ofNat 14))] ⟨0, none⟩ St.nil) = true := by kernel_rfl
theorem aw15 : isTrue (evCall cfgE 200 4 [.v (.int .i64 (Int.ofNat 15))] ⟨0, none⟩ St.nil) = true := by kernel_rfl
theorem aw16 : isTrue (evCall cfgE 200 4 [.v (.int .i64 (Int.ofNat 16))] ⟨0, none⟩ St.nil) = true := by kernel_rfl
theorem aw17 : isTrue (evCall cfgE 200 4 [.v (.int .i64 (Int.ofNat 17))] ⟨0, none⟩ St.nil) = true := by kernel_rfl
theorem aw18 : isTrue (evCall cfgE 200 4 [.v (.int .i64 (Int.ofNat 18))] ⟨0, none⟩ St.nil) = true := by kernel_rfl
theorem aw19 : isTrue (evCall cfgE 200 4 [.v (.int .i64 (Int.ofNat 19))] ⟨0, none⟩ St.nil) = true := by kernel_rfl
theorem aw20 : isTrue (evCall cfgE 200 4 [.v (.int .i64 (Int.ofNat 20))] ⟨0, none⟩ St.nil) = true := by kernel_rfl
theorem aw21 : isTrue (evCall cfgE 200 4 [.v (.int .i64 (Int.ofNat 21))] ⟨0, none⟩ St.nil) = true := by kernel_rfl
theorem aw22 : isTrue (evCall cfgE 200 4 [.v (.int .i64 (Int.ofNat 22))] ⟨0, none⟩ St.nil) = true := by kernel_rfl
theorem aw23 : isTrue (evCall cfgE 200 4 [.v (.int .i64 (Int.ofNat 23))] ⟨0, none⟩ St.nil) = true := by kernel_rfl
theorem aw24 : isTrue (evCall cfgE 200 4 [.v (.int .i64 (Int.ofNat 24))] ⟨0, none⟩ St.nil) = true := by kernel_rfl
theorem aw25 : isTrue (evCall cfgE 200 4 [.v (.int .i64 (Int.ofNat 25))] ⟨0, none⟩ St.nil) = true := by kernel_rfl
theorem aw26 : isTrue (evCall cfgE 200 4 [.v (.int .i64 (Int.ofNat 26))] ⟨0, none⟩ St.nil) = true := by kernel_rfl
theorem aw27 : isTrue (evCall cfgE 200 4 [.v (.int .i64 (Int.ofNat 27))] ⟨0, none⟩ St.nil) = true := by kernel_rfl
theorem aw28 : isTrue (evCall cfgE 200 4 [.v (.int .i64 (Int.ofNat 28))] ⟨0, none⟩ St.nil) = true := by kernel_rfl
theorem awOne : isTrue (evCall cfgE 200 4 [.v (.int .i64 (Int.negSucc 0))] ⟨0, none⟩ St.nil) = true := by kernel_rfl
theorem awNeg (k : Nat) : isTrue (evCall cfgE 200 4 [.v (.int .i64 (Int.negSucc (k + 1)))] ⟨0, none⟩ St.nil) = true := by kernel_rfl
theorem awBig (k : Nat) : isTrue (evCall cfgE 200 4 [.v (.int .i64 (Int.ofNat (k + 29)))] ⟨0, none⟩ St.nil) = true := by kernel_rfl
theorem awAll (n : Int) : isTrue (evCall cfgE 200 4 [.v (.int .i64 (n))] ⟨0, none⟩ St.nil) = true :=
  int_parts 29 (fun n => isTrue (evCall cfgE 200 4 [.v (.int .i64 (n))] ⟨0, none⟩ St.nil) = true) awOne awNeg (fun i hi => by
    match i, hi with
    | 0, _ => exact aw0
    | 1, _ => exact aw1
    | 2, _ => exact aw2
    | 3, _ => exact aw3
    | 4, _ => exact aw4
    | 5, _ => exact aw5
    | 6, _ => exact aw6
    | 7, _ => exact aw7
    | 8, _ => exact aw8
    | 9, _ => exact aw9
    | 10, _ => exact aw10
    | 11, _ => exact aw11
    | 12, _ => exact aw12
    | 13, _ => exact aw13
    | 14, _ => exact aw14
    | 15, _ => exact aw15
    | 16, _ => exact aw16
    | 17, _ => exact aw17
    | 18, _ => exact aw18
    | 19, _ => exact aw19
    | 20, _ => exact aw20
    | 21, _ => exact aw21
    | 22, _ => exact aw22
    | 23, _ => exact aw23
    | 24, _ => exact aw24
    | 25, _ => exact aw25
    | 26, _ => exact aw26
    | 27, _ => exact aw27
    | 28, _ => exact aw28
    | i + 29, h => exact absurd h (by omega)) awBig n
theorem argsWrong_walk (n : Int) (w : World) (htab : Lib.TabIs Tryd.prog w "strings.asciiSpace" .u8 Lib.asciiSpaceTab) : Calls Tryd.prog 4 #[.int .i64 n] w fun e w' => e = .returned (.bool true) ∧ Below w.heap.size w w' :=
  told (cfgOkE (B := ⟨w⟩) htab) (awAll n) (start w) (vs := [.int .i64 n]) (by simp only [Reps]; exact ⟨_, _, rfl, Rep.ofFlat rfl, rfl⟩)
end Go.Proofs.YtfgfigcpfadedaaDoorVE
