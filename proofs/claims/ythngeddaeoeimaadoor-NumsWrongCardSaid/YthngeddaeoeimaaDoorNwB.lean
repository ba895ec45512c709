import Derived.Test.YthngeddaeoeimaaDoorNwA
namespace Go.Proofs.YthngeddaeoeimaaDoorVE
open Go Go.RowKit
set_option maxRecDepth 100000
theorem nw0 : isTrue (evCall cfgC 100 13 [.v (.int .i64 (Int.ofNat 0))] ⟨0, none⟩ St.nil) = true := by kernel_rfl
theorem nw1 : isTrue (evCall cfgC 100 13 [.v (.int .i64 (Int.ofNat 1))] ⟨0, none⟩ St.nil) = true := by kernel_rfl
theorem nw2 : isTrue (evCall cfgC 100 13 [.v (.int .i64 (Int.ofNat 2))] ⟨0, none⟩ St.nil) = true := by kernel_rfl
theorem nw3 : isTrue (evCall cfgC 100 13 [.v (.int .i64 (Int.ofNat 3))] ⟨0, none⟩ St.nil) = true := by kernel_rfl
theorem nw4 : isTrue (evCall cfgC 100 13 [.v (.int .i64 (Int.ofNat 4))] ⟨0, none⟩ St.nil) = true := by kernel_rfl
theorem nw5 : isTrue (evCall cfgC 100 13 [.v (.int .i64 (Int.ofNat 5))] ⟨0, none⟩ St.nil) = true := by kernel_rfl
theorem nw6 : isTrue (evCall cfgC 100 13 [.v (.int .i64 (Int.ofNat 6))] ⟨0, none⟩ St.nil) = true := by kernel_rfl
theorem nw7 : isTrue (evCall cfgC 100 13 [.v (.int .i64 (Int.ofNat 7))] ⟨0, none⟩ St.nil) = true := by kernel_rfl
theorem nw8 : isTrue (evCall cfgC 100 13 [.v (.int .i64 (Int.ofNat 8))] ⟨0, none⟩ St.nil) = true := by kernel_rfl
theorem nw9 : isTrue (evCall cfgC 100 13 [.v (.int .i64 (Int.ofNat 9))] ⟨0, none⟩ St.nil) = true := by kernel_rfl
theorem nw10 : isTrue (evCall cfgC 100 13 [.v (.int .i64 (Int.ofNat 10))] ⟨0, none⟩ St.nil) = true := by kernel_rfl
theorem nw11 : isTrue (evCall cfgC 100 13 [.v (.int .i64 (Int.ofNat 11))] ⟨0, none⟩ St.nil) = true := by kernel_rfl
theorem nw12 : isTrue (evCall cfgC 100 13 [.v (.int .i64 (Int.ofNat 12))] ⟨0, none⟩ St.nil) = true := by kernel_rfl
theorem nw13 : isTrue (evCall cfgC 100 13 [.v (.int .i64 (Int.ofNat 13))] ⟨0, none⟩ St.nil) = true := by kernel_rfl
theorem nw14 : isTrue (evCall cfgC 100 13 [.v (.int .i64 (Int.ofNat 14))] ⟨0, none⟩ St.nil) = true := by kernel_rfl
theorem nw15 : isTrue (evCall cfgC 100 13 [.v (.int .i64 (Int.ofNat 15))] ⟨0, none⟩ St.nil) = true := by kernel_rfl
theorem nw16 : isTrue (evCall cfgC 100 13 [.v (.int .i64 (Int.ofNat 16))] ⟨0, none⟩ St.nil) = true := by kernel_rfl
theorem nw17 : isTrue (evCall cfgC 100 13 [.v (.int .i64 (Int.ofNat 17))] ⟨0, none⟩ St.nil) = true := by kernel_rfl
theorem nw18 : isTrue (evCall cfgC 100 13 [.v (.int .i64 (Int.ofNat 18))] ⟨0, none⟩ St.nil) = true := by kernel_rfl
theorem nw19 : isTrue (evCall cfgC 100 13 [.v (.int .i64 (Int.ofNat 19))] ⟨0, none⟩ St.nil) = true := by kernel_rfl
theorem nw20 : isTrue (evCall cfgC 100 13 [.v (.int .i64 (Int.ofNat 20))] ⟨0, none⟩ St.nil) = true := by kernel_rfl
theorem nw21 : isTrue (evCall cfgC 100 13 [.v (.int .i64 (Int.ofNat 21))] ⟨0, none⟩ St.nil) = true := by kernel_rfl
theorem nw22 : isTrue (evCall cfgC 100 13 [.v (.int .i64 (Int.ofNat 22))] ⟨0, none⟩ St.nil) = true := by kernel_rfl
theorem nwOne : isTrue (evCall cfgC 100 13 [.v (.int .i64 (Int.negSucc 0))] ⟨0, none⟩ St.nil) = true := by kernel_rfl
theorem nwNeg (k : Nat) : isTrue (evCall cfgC 100 13 [.v (.int .i64 (Int.negSucc (k + 1)))] ⟨0, none⟩ St.nil) = true := by kernel_rfl
theorem nwBig (k : Nat) : isTrue (evCall cfgC 100 13 [.v (.int .i64 (Int.ofNat (k + 23)))] ⟨0, none⟩ St.nil) = true := by kernel_rfl
theorem nwAll (n : Int) : isTrue (evCall cfgC 100 13 [.v (.int .i64 n)] ⟨0, none⟩ St.nil) = true :=
  int_parts 23 (fun n => isTrue (evCall cfgC 100 13 [.v (.int .i64 n)] ⟨0, none⟩ St.nil) = true) nwOne nwNeg (fun i hi => by
    match i, hi with
    | 0, _ => exact nw0
    | 1, _ => exact nw1
    | 2, _ => exact nw2
    | 3, _ => exact nw3
    | 4, _ => exact nw4
    | 5, _ => exact nw5
    | 6, _ => exact nw6
    | 7, _ => exact nw7
    | 8, _ => exact nw8
    | 9, _ => exact nw9
    | 10, _ => exact nw10
    | 11, _ => exact nw11
    | 12, _ => exact nw12
    | 13, _ => exact nw13
    | 14, _ => exact nw14
    | 15, _ => exact nw15
    | 16, _ => exact nw16
    | 17, _ => exact nw17
    | 18, _ => exact nw18
    | 19, _ => exact nw19
    | 20, _ => exact nw20
    | 21, _ => exact nw21
    | 22, _ => exact nw22
    | i + 23, h => exact absurd h (by omega)) nwBig n
theorem numsWrong_walk (n : Int) (w : World) : Calls Tryd.prog 13 #[.int .i64 n] w fun e w' => e = .returned (.bool true) ∧ Below w.heap.size w w' :=
  told cfgOk (nwAll n) (start w) (vs := [.int .i64 n]) (by simp only [Reps]; exact ⟨_, _, rfl, Rep.ofFlat rfl, rfl⟩)
end Go.Proofs.YthngeddaeoeimaaDoorVE
