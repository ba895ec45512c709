/- Functions of the program as Lean functions, each reckoned; no condition. Printed by a program of this session's own. -/
import Derived.Test.YthngeddaeoeimaaDoorNcEnv
namespace Go.Proofs.YthngeddaeoeimaaDoorTE
open Go Go.Proofs.YthngeddaeoeimaaDoorVE
set_option linter.unusedVariables false
set_option maxRecDepth 100000
/-! 35 patchwork/nums.Read -/
noncomputable def nums_Read_j0 (v1 : Int × Unit) (r2 : Int × Bool × Unit) (v3 : Bool × Unit) : Option (Int × Int × Int × Unit) :=
bK v3.1
 (some (0, 0, 4, ()))
 (some (r2.1, v1.1, 0, ()))
noncomputable def nums_Read_j1 (v : (List UInt8) × Int × Unit) (v1 : Int × Unit) : Option (Int × Int × Int × Unit) :=
bK (decide (v1.1 = v.2.1))
 (some (0, 0, 2, ()))
 (bK (okSl v.2.1 v1.1 (len v.1))
  (oK (tAtoiAll ((slc v.1 v.2.1 v1.1), ())) fun r2 =>
  bK (!(r2.2.1 == true))
   (join (nums_Read_j0 v1 r2) (true, ()))
   (join (nums_Read_j0 v1 r2) (decide (2147483648 < r2.1), ())))
  (none))
noncomputable def nums_Read_l2 (v : (List UInt8) × Int × Unit) (rec4 : (Int × Unit) → Option (Int × Int × Int × Unit)) (v5 : Int × Unit) : Option (Int × Int × Int × Unit) :=
bK (decide (v5.1 < len v.1))
 (oK (idx v.1 v5.1) fun b6 =>
 bK (!(decide ((b6.toNat : Int) < 48)))
  (oK (idx v.1 v5.1) fun b7 =>
  bK (!(decide (57 < (b7.toNat : Int))))
   (rec4 (IntKind.wrap .i64 (v5.1 + 1), ()))
   (join (nums_Read_j1 v) (v5.1, ())))
  (join (nums_Read_j1 v) (v5.1, ())))
 (join (nums_Read_j1 v) (v5.1, ()))
noncomputable def nums_Read_j3 (v : (List UInt8) × Int × Unit) (k : Nat) (v0 : Bool × Unit) : Option (Int × Int × Int × Unit) :=
bK v0.1
 (some (0, 0, 2, ()))
 (fixN (nums_Read_l2 v) k (v.2.1, ()))
noncomputable def L_nums_Read : FuncId → Nat → Option Shape := fun f i => match f, i with
    | 35, 4 => some ⟨[(.tmp 7, .int .i64)], [19, 20, 21, 22, 23, 24, 25, 26, 27, 28, 29, 30, 31, 32, 33, 34, 35, 36]⟩
    | _, _ => none
noncomputable def J_nums_Read : FuncId → Nat → Option Shape := fun f i => match f, i with
    | 35, 10 => some ⟨[(.tmp 53, .bool)], [48, 49, 50, 51, 52]⟩
    | 35, 6 => some ⟨[(.tmp 7, .int .i64)], [19, 20, 21, 22, 23, 24, 25, 26, 27, 28, 29, 30, 31, 32, 33, 34, 35, 36]⟩
    | 35, 2 => some ⟨[(.tmp 17, .bool)], [10, 11, 12, 13, 14, 15, 16]⟩
    | _, _ => none
@[reducible] noncomputable def X_nums_Read : TX := ⟨cfgX, A, lay, dec, wd, tab0, L_nums_Read, J_nums_Read⟩
noncomputable def nums_Read_k (k : Nat) (v : (List UInt8) × Int × Unit) : Option (Int × Int × Int × Unit) :=
bK (decide (v.2.1 < 0))
 (join (nums_Read_j3 v k) (true, ()))
 (join (nums_Read_j3 v k) (decide (len v.1 < v.2.1), ()))
theorem nums_Read_run (k : Nat) (v : (List UInt8) × Int × Unit) : tFn X_nums_Read k 35 [(.tmp 0, .str), (.tmp 1, .int .i64)] 0 [(.tmp 0, .int .i64), (.tmp 1, .int .i64), (.tmp 2, .int .i64)] v = nums_Read_k k v := by kernel_rfl
noncomputable def nums_Read (v : (List UInt8) × Int × Unit) : Option (Int × Int × Int × Unit) := nums_Read_k kBig v
noncomputable def tab1 (g : FuncId) : List (Entry A) := if g = 35 then [⟨[(.tmp 0, .str), (.tmp 1, .int .i64)], 0, [(.tmp 0, .int .i64), (.tmp 1, .int .i64), (.tmp 2, .int .i64)], nums_Read⟩] else tab0 g
/-! 56 strings.genSplit -/
noncomputable def strings_genSplit_j0 (v : (List UInt8) × (List UInt8) × Int × Int × Unit) (v1 : Int × Unit) (v2 : (List UInt8) × Int × (List (List UInt8)) × Unit) : Option ((List (List UInt8)) × Unit) :=
bK (inR v2.2.1 (((List.replicate ((iMin v1.1 (IntKind.wrap .i64 ((len v.1) + 1))).toNat) ([] : List UInt8)).length : Nat) : Int))
 (oK (v2.2.2.1[0 + v2.2.1.toNat]?) fun x3 =>
 bK (okSl 0 (IntKind.wrap .i64 (v2.2.1 + 1)) (((List.replicate ((iMin v1.1 (IntKind.wrap .i64 ((len v.1) + 1))).toNat) ([] : List UInt8)).length : Nat) : Int))
  (bK (decide (0 + (((IntKind.wrap .i64 (v2.2.1 + 1)).toNat) - 0) ≤ (v2.2.2.1.set (0 + v2.2.1.toNat) v2.1).length))
   (some ((((v2.2.2.1.set (0 + v2.2.1.toNat) v2.1).drop 0).take (((IntKind.wrap .i64 (v2.2.1 + 1)).toNat) - 0)), ()))
   (none))
  (none))
 (none)
noncomputable def strings_genSplit_l1 (v : (List UInt8) × (List UInt8) × Int × Int × Unit) (v1 : Int × Unit) (rec4 : ((List UInt8) × Int × (List (List UInt8)) × Unit) → Option ((List (List UInt8)) × Unit)) (v5 : (List UInt8) × Int × (List (List UInt8)) × Unit) : Option ((List (List UInt8)) × Unit) :=
bK (decide (v5.2.1 < IntKind.wrap .i64 ((iMin v1.1 (IntKind.wrap .i64 ((len v.1) + 1))) - 1)))
 (oK (tIndex (v5.1, v.2.1, ())) fun r6 =>
 bK (decide (r6.1 < 0))
  (join (strings_genSplit_j0 v v1) (v5.1, v5.2.1, v5.2.2.1, ()))
  (bK (okSl 0 (IntKind.wrap .i64 (r6.1 + v.2.2.1)) (len v5.1))
   (bK (inR v5.2.1 (((List.replicate ((iMin v1.1 (IntKind.wrap .i64 ((len v.1) + 1))).toNat) ([] : List UInt8)).length : Nat) : Int))
    (oK (v5.2.2.1[0 + v5.2.1.toNat]?) fun x7 =>
    bK (okSl (IntKind.wrap .i64 (r6.1 + (len v.2.1))) (len v5.1) (len v5.1))
     (rec4 ((slc v5.1 (IntKind.wrap .i64 (r6.1 + (len v.2.1))) (len v5.1)), IntKind.wrap .i64 (v5.2.1 + 1), (v5.2.2.1.set (0 + v5.2.1.toNat) (slc v5.1 0 (IntKind.wrap .i64 (r6.1 + v.2.2.1)))), ()))
     (none))
    (none))
   (none)))
 (join (strings_genSplit_j0 v v1) (v5.1, v5.2.1, v5.2.2.1, ()))
noncomputable def strings_genSplit_j2 (v : (List UInt8) × (List UInt8) × Int × Int × Unit) (k : Nat) (v1 : Int × Unit) : Option ((List (List UInt8)) × Unit) :=
bK (decide (iMin v1.1 (IntKind.wrap .i64 ((len v.1) + 1)) = iMin v1.1 (IntKind.wrap .i64 ((len v.1) + 1))) && decide (0 ≤ iMin v1.1 (IntKind.wrap .i64 ((len v.1) + 1))) && fits 16 (iMin v1.1 (IntKind.wrap .i64 ((len v.1) + 1))).toNat)
 (fixN (strings_genSplit_l1 v v1) k (v.1, 0, (List.replicate ((iMin v1.1 (IntKind.wrap .i64 ((len v.1) + 1))).toNat) ([] : List UInt8)), ()))
 (none)
noncomputable def L_strings_genSplit : FuncId → Nat → Option Shape := fun f i => match f, i with
    | 56, 11 => some ⟨[(.tmp 0, .str), (.tmp 10, .int .i64), (.loc 0, .row 9 false)], [34, 35, 36, 37, 38, 39, 11, 40, 41, 42, 43, 44, 45, 46, 47, 48, 49, 50, 51, 52, 53, 54, 55, 56, 57]⟩
    | _, _ => none
noncomputable def J_strings_genSplit : FuncId → Nat → Option Shape := fun f i => match f, i with
    | 56, 17 => some ⟨[(.tmp 0, .str), (.tmp 10, .int .i64), (.loc 0, .row 9 false)], [34, 35, 36, 37, 38, 39, 11, 40, 41, 42, 43, 44, 45, 46, 47, 48, 49, 50, 51, 52, 53, 54, 55, 56, 57]⟩
    | 56, 7 => some ⟨[(.tmp 3, .int .i64)], [19, 20, 21, 22, 23, 24]⟩
    | _, _ => none
@[reducible] noncomputable def X_strings_genSplit : TX := ⟨cfgX, A, lay, dec, wd, tab1, L_strings_genSplit, J_strings_genSplit⟩
noncomputable def strings_genSplit_k (k : Nat) (v : (List UInt8) × (List UInt8) × Int × Int × Unit) : Option ((List (List UInt8)) × Unit) :=
bK (decide (v.2.2.2.1 = 0))
 (some ([], ()))
 (bK (decide (v.2.1 = ([] : List UInt8)))
  (oK (tNoneSIR (v.1, v.2.2.2.1, ())) fun r0 =>
  some (r0.1, ()))
  (bK (decide (v.2.2.2.1 < 0))
   (oK (tCount (v.1, v.2.1, ())) fun r8 =>
   join (strings_genSplit_j2 v k) (IntKind.wrap .i64 (r8.1 + 1), ()))
   (join (strings_genSplit_j2 v k) (v.2.2.2.1, ()))))
theorem strings_genSplit_run (k : Nat) (v : (List UInt8) × (List UInt8) × Int × Int × Unit) : tFn X_strings_genSplit k 56 [(.tmp 0, .str), (.tmp 1, .str), (.tmp 2, .int .i64), (.tmp 3, .int .i64)] 0 [(.tmp 0, .row 9 false)] v = strings_genSplit_k k v := by kernel_rfl
noncomputable def strings_genSplit (v : (List UInt8) × (List UInt8) × Int × Int × Unit) : Option ((List (List UInt8)) × Unit) := strings_genSplit_k kBig v
noncomputable def tab2 (g : FuncId) : List (Entry A) := if g = 56 then [⟨[(.tmp 0, .str), (.tmp 1, .str), (.tmp 2, .int .i64), (.tmp 3, .int .i64)], 0, [(.tmp 0, .row 9 false)], strings_genSplit⟩] else tab1 g
/-! 52 strings.Split -/
noncomputable def L_strings_Split : FuncId → Nat → Option Shape := fun _ _ => none
noncomputable def J_strings_Split : FuncId → Nat → Option Shape := fun _ _ => none
@[reducible] noncomputable def X_strings_Split : TX := ⟨cfgX, A, lay, dec, wd, tab2, L_strings_Split, J_strings_Split⟩
noncomputable def strings_Split (v : (List UInt8) × (List UInt8) × Unit) : Option ((List (List UInt8)) × Unit) :=
oK (strings_genSplit (v.1, v.2.1, 0, (-1), ())) fun r0 =>
some (r0.1, ())
theorem strings_Split_run (k : Nat) (v : (List UInt8) × (List UInt8) × Unit) : tFn X_strings_Split k 52 [(.tmp 0, .str), (.tmp 1, .str)] 0 [(.tmp 0, .row 9 false)] v = strings_Split v := by kernel_rfl
noncomputable def tab3 (g : FuncId) : List (Entry A) := if g = 52 then [⟨[(.tmp 0, .str), (.tmp 1, .str)], 0, [(.tmp 0, .row 9 false)], strings_Split⟩] else tab2 g
/-! 61 internal/stringslite.Cut -/
noncomputable def L_stringslite_Cut : FuncId → Nat → Option Shape := fun _ _ => none
noncomputable def J_stringslite_Cut : FuncId → Nat → Option Shape := fun _ _ => none
@[reducible] noncomputable def X_stringslite_Cut : TX := ⟨cfgX, A, lay, dec, wd, tab3, L_stringslite_Cut, J_stringslite_Cut⟩
noncomputable def stringslite_Cut (v : (List UInt8) × (List UInt8) × Unit) : Option ((List UInt8) × (List UInt8) × Bool × Unit) :=
oK (tIndex (v.1, v.2.1, ())) fun r0 =>
bK (!(decide (r0.1 < 0)))
 (bK (okSl 0 r0.1 (len v.1))
  (bK (okSl (IntKind.wrap .i64 (r0.1 + (len v.2.1))) (len v.1) (len v.1))
   (some ((slc v.1 0 r0.1), (slc v.1 (IntKind.wrap .i64 (r0.1 + (len v.2.1))) (len v.1)), true, ()))
   (none))
  (none))
 (some (v.1, ([] : List UInt8), false, ()))
theorem stringslite_Cut_run (k : Nat) (v : (List UInt8) × (List UInt8) × Unit) : tFn X_stringslite_Cut k 61 [(.tmp 0, .str), (.tmp 1, .str)] 0 [(.tmp 0, .str), (.tmp 1, .str), (.tmp 2, .bool)] v = stringslite_Cut v := by kernel_rfl
noncomputable def tab4 (g : FuncId) : List (Entry A) := if g = 61 then [⟨[(.tmp 0, .str), (.tmp 1, .str)], 0, [(.tmp 0, .str), (.tmp 1, .str), (.tmp 2, .bool)], stringslite_Cut⟩] else tab3 g
/-! 45 strings.Cut -/
noncomputable def L_strings_Cut : FuncId → Nat → Option Shape := fun _ _ => none
noncomputable def J_strings_Cut : FuncId → Nat → Option Shape := fun _ _ => none
@[reducible] noncomputable def X_strings_Cut : TX := ⟨cfgX, A, lay, dec, wd, tab4, L_strings_Cut, J_strings_Cut⟩
noncomputable def strings_Cut (v : (List UInt8) × (List UInt8) × Unit) : Option ((List UInt8) × (List UInt8) × Bool × Unit) :=
oK (stringslite_Cut (v.1, v.2.1, ())) fun r0 =>
some (r0.1, r0.2.1, r0.2.2.1, ())
theorem strings_Cut_run (k : Nat) (v : (List UInt8) × (List UInt8) × Unit) : tFn X_strings_Cut k 45 [(.tmp 0, .str), (.tmp 1, .str)] 0 [(.tmp 0, .str), (.tmp 1, .str), (.tmp 2, .bool)] v = strings_Cut v := by kernel_rfl
noncomputable def tab5 (g : FuncId) : List (Entry A) := if g = 45 then [⟨[(.tmp 0, .str), (.tmp 1, .str)], 0, [(.tmp 0, .str), (.tmp 1, .str), (.tmp 2, .bool)], strings_Cut⟩] else tab4 g
/-! 69 patchwork/nums.Whole -/
noncomputable def L_nums_Whole : FuncId → Nat → Option Shape := fun _ _ => none
noncomputable def J_nums_Whole : FuncId → Nat → Option Shape := fun _ _ => none
@[reducible] noncomputable def X_nums_Whole : TX := ⟨cfgX, A, lay, dec, wd, tab5, L_nums_Whole, J_nums_Whole⟩
noncomputable def nums_Whole (v : (List UInt8) × Unit) : Option (Int × Bool × Unit) :=
oK (nums_Read (v.1, 0, ())) fun r0 =>
bK (decide (r0.2.2.1 = 0))
 (some (r0.1, decide (r0.2.1 = len v.1), ()))
 (some (r0.1, false, ()))
theorem nums_Whole_run (k : Nat) (v : (List UInt8) × Unit) : tFn X_nums_Whole k 69 [(.tmp 0, .str)] 0 [(.tmp 0, .int .i64), (.tmp 1, .bool)] v = nums_Whole v := by kernel_rfl
noncomputable def tab6 (g : FuncId) : List (Entry A) := if g = 69 then [⟨[(.tmp 0, .str)], 0, [(.tmp 0, .int .i64), (.tmp 1, .bool)], nums_Whole⟩] else tab5 g
/-! 53 patchwork/nums.one -/
noncomputable def nums_one_j0 (v4 : Bool × (Int × Int × Unit) × Unit) : Option (Range × Bool × Unit) :=
bK v4.1
 (some ((Range.mk v4.2.1.1 v4.2.1.2.1), !(decide (v4.2.1.1 < 1)), ()))
 (some ((Range.mk v4.2.1.1 v4.2.1.2.1), false, ()))
noncomputable def nums_one_j1 (r0 : (List UInt8) × (List UInt8) × Bool × Unit) (v3 : Bool × (Int × Int × Unit) × Unit) : Option (Range × Bool × Unit) :=
bK (!(decide (r0.2.1 = ([] : List UInt8))))
 (oK (nums_Whole (r0.2.1, ())) fun r5 =>
 bK v3.1
  (bK r5.2.1
   (join nums_one_j0 (!(decide (r5.1 < v3.2.1.1)), (v3.2.1.1, r5.1, ()), ()))
   (join nums_one_j0 (false, (v3.2.1.1, r5.1, ()), ())))
  (join nums_one_j0 (false, (v3.2.1.1, r5.1, ()), ())))
 (join nums_one_j0 (v3.1, (v3.2.1.1, v3.2.1.2.1, ()), ()))
noncomputable def nums_one_j2 (r0 : (List UInt8) × (List UInt8) × Bool × Unit) (v2 : Bool × Unit) : Option (Range × Bool × Unit) :=
bK (!(decide (r0.1 = ([] : List UInt8))))
 (oK (nums_Whole (r0.1, ())) fun r6 =>
 bK v2.1
  (join (nums_one_j1 r0) (r6.2.1, (r6.1, (-1), ()), ()))
  (join (nums_one_j1 r0) (false, (r6.1, (-1), ()), ())))
 (join (nums_one_j1 r0) (v2.1, (1, (-1), ()), ()))
noncomputable def L_nums_one : FuncId → Nat → Option Shape := fun _ _ => none
noncomputable def J_nums_one : FuncId → Nat → Option Shape := fun f i => match f, i with
    | 53, 13 => some ⟨[(.tmp 10, .bool), (.loc 1, .agg [.int .i64, .int .i64])], [56, 57, 59, 60, 58, 61, 62, 13, 14, 63, 64, 65, 66, 67, 68, 69, 70, 71, 72, 73, 74]⟩
    | 53, 10 => some ⟨[(.tmp 10, .bool), (.loc 1, .agg [.int .i64, .int .i64])], [43, 44, 46, 47, 45, 48, 49, 11, 12, 50, 51, 52, 53, 54, 55]⟩
    | 53, 7 => some ⟨[(.tmp 10, .bool)], [37, 38, 39, 40, 41, 42]⟩
    | _, _ => none
@[reducible] noncomputable def X_nums_one : TX := ⟨cfgX, A, lay, dec, wd, tab6, L_nums_one, J_nums_one⟩
noncomputable def nums_one (v : (List UInt8) × Unit) : Option (Range × Bool × Unit) :=
oK (strings_Cut (v.1, ([45] : List UInt8), ())) fun r0 =>
bK (!r0.2.2.1)
 (oK (nums_Whole (v.1, ())) fun r1 =>
 bK r1.2.1
  (some ((Range.mk r1.1 r1.1), !(decide (r1.1 < 1)), ()))
  (some ((Range.mk r1.1 r1.1), false, ())))
 (bK (!(decide (r0.1 = ([] : List UInt8))))
  (join (nums_one_j2 r0) (true, ()))
  (join (nums_one_j2 r0) (!(decide (r0.2.1 = ([] : List UInt8))), ())))
theorem nums_one_run (k : Nat) (v : (List UInt8) × Unit) : tFn X_nums_one k 53 [(.tmp 0, .str)] 0 [(.tmp 0, .sct 65), (.tmp 1, .bool)] v = nums_one v := by kernel_rfl
noncomputable def tab7 (g : FuncId) : List (Entry A) := if g = 53 then [⟨[(.tmp 0, .str)], 0, [(.tmp 0, .sct 65), (.tmp 1, .bool)], nums_one⟩] else tab6 g
/-! 37 patchwork/nums.Ranges -/
noncomputable def nums_Ranges_l0 (r0 : (List (List UInt8)) × Unit) (rec1 : ((List Range) × Int × Unit) → Option ((List Range) × Bool × Unit)) (v2 : (List Range) × Int × Unit) : Option ((List Range) × Bool × Unit) :=
bK (decide (v2.2.1 < len r0.1))
 (oK (idx r0.1 v2.2.1) fun x3 =>
 oK (nums_one (x3, ())) fun r4 =>
 bK (!r4.2.1)
  (some ([], false, ()))
  (bK (fits 16 (v2.1.length + 1))
   (rec1 ((v2.1 ++ ([r4.1] : List Range)), IntKind.wrap .i64 (v2.2.1 + 1), ()))
   (none)))
 (some (v2.1, true, ()))
noncomputable def L_nums_Ranges : FuncId → Nat → Option Shape := fun f i => match f, i with
    | 37, 3 => some ⟨[(.tmp 4, .row 65 true), (.tmp 12, .int .i64)], [13, 14, 15, 6, 17, 18, 16, 19, 20, 7, 8, 21, 22, 2, 3, 23, 24, 25, 26, 27]⟩
    | _, _ => none
noncomputable def J_nums_Ranges : FuncId → Nat → Option Shape := fun _ _ => none
@[reducible] noncomputable def X_nums_Ranges : TX := ⟨cfgX, A, lay, dec, wd, tab7, L_nums_Ranges, J_nums_Ranges⟩
noncomputable def nums_Ranges_k (k : Nat) (v : (List UInt8) × Unit) : Option ((List Range) × Bool × Unit) :=
oK (strings_Split (v.1, ([44] : List UInt8), ())) fun r0 =>
fixN (nums_Ranges_l0 r0) k ([], 0, ())
theorem nums_Ranges_run (k : Nat) (v : (List UInt8) × Unit) : tFn X_nums_Ranges k 37 [(.tmp 0, .str)] 0 [(.tmp 0, .row 65 false), (.tmp 1, .bool)] v = nums_Ranges_k k v := by kernel_rfl
noncomputable def nums_Ranges (v : (List UInt8) × Unit) : Option ((List Range) × Bool × Unit) := nums_Ranges_k kBig v
noncomputable def tab8 (g : FuncId) : List (Entry A) := if g = 37 then [⟨[(.tmp 0, .str)], 0, [(.tmp 0, .row 65 false), (.tmp 1, .bool)], nums_Ranges⟩] else tab7 g
/-! 34 patchwork/nums.Put -/
noncomputable def L_nums_Put : FuncId → Nat → Option Shape := fun _ _ => none
noncomputable def J_nums_Put : FuncId → Nat → Option Shape := fun _ _ => none
@[reducible] noncomputable def X_nums_Put : TX := ⟨cfgX, A, lay, dec, wd, tab8, L_nums_Put, J_nums_Put⟩
noncomputable def nums_Put (v : Int × Unit) : Option ((List UInt8) × Unit) :=
oK (tItoa (v.1, ())) fun r0 =>
some (r0.1, ())
theorem nums_Put_run (k : Nat) (v : Int × Unit) : tFn X_nums_Put k 34 [(.tmp 0, .int .i64)] 0 [(.tmp 0, .str)] v = nums_Put v := by kernel_rfl
noncomputable def tab9 (g : FuncId) : List (Entry A) := if g = 34 then [⟨[(.tmp 0, .int .i64)], 0, [(.tmp 0, .str)], nums_Put⟩] else tab8 g
/-! 36 patchwork/patchworklaw2.num -/
noncomputable def L_law2_num : FuncId → Nat → Option Shape := fun _ _ => none
noncomputable def J_law2_num : FuncId → Nat → Option Shape := fun _ _ => none
@[reducible] noncomputable def X_law2_num : TX := ⟨cfgX, A, lay, dec, wd, tab9, L_law2_num, J_law2_num⟩
noncomputable def law2_num (v : Int × Unit) : Option (Int × Unit) :=
some (v.1, ())
theorem law2_num_run (k : Nat) (v : Int × Unit) : tFn X_law2_num k 36 [(.tmp 0, .int .i64)] 0 [(.tmp 0, .int .i64)] v = law2_num v := by kernel_rfl
noncomputable def tab10 (g : FuncId) : List (Entry A) := if g = 36 then [⟨[(.tmp 0, .int .i64)], 0, [(.tmp 0, .int .i64)], law2_num⟩] else tab9 g
/-! 49 patchwork/nums.Has -/
noncomputable def nums_Has_j0 (v : (List Range) × Int × Unit) (rec0 : (Int × Unit) → Option (Bool × Unit)) (v1 : Int × Unit) (v3 : Bool × Unit) : Option (Bool × Unit) :=
bK v3.1
 (some (!(decide (v.2.1 < 1)), ()))
 (rec0 (IntKind.wrap .i64 (v1.1 + 1), ()))
noncomputable def nums_Has_l1 (v : (List Range) × Int × Unit) (rec0 : (Int × Unit) → Option (Bool × Unit)) (v1 : Int × Unit) : Option (Bool × Unit) :=
bK (decide (v1.1 < len v.1))
 (oK (idx v.1 v1.1) fun x2 =>
 bK (!(decide (v.2.1 < x2.from_)))
  (bK (decide (x2.to_ < 0))
   (join (nums_Has_j0 v rec0 v1) (true, ()))
   (join (nums_Has_j0 v rec0 v1) (!(decide (x2.to_ < v.2.1)), ())))
  (join (nums_Has_j0 v rec0 v1) (false, ())))
 (bK (!(decide (v.2.1 < 1)))
  (some (decide (len v.1 = 0), ()))
  (some (false, ())))
noncomputable def L_nums_Has : FuncId → Nat → Option Shape := fun f i => match f, i with
    | 49, 2 => some ⟨[(.tmp 9, .int .i64)], [10, 11, 12, 6, 13, 14, 15, 16, 17, 18, 19, 20, 21, 22, 23, 24, 25, 26, 27, 28, 29, 4, 30]⟩
    | _, _ => none
noncomputable def J_nums_Has : FuncId → Nat → Option Shape := fun f i => match f, i with
    | 49, 5 => some ⟨[(.tmp 27, .bool)], [13, 14, 15, 16, 17, 18, 19, 20, 21, 22, 23, 24, 25, 26]⟩
    | _, _ => none
@[reducible] noncomputable def X_nums_Has : TX := ⟨cfgX, A, lay, dec, wd, tab10, L_nums_Has, J_nums_Has⟩
noncomputable def nums_Has_k (k : Nat) (v : (List Range) × Int × Unit) : Option (Bool × Unit) :=
fixN (nums_Has_l1 v) k (0, ())
theorem nums_Has_run (k : Nat) (v : (List Range) × Int × Unit) : tFn X_nums_Has k 49 [(.tmp 0, .row 65 false), (.tmp 1, .int .i64)] 0 [(.tmp 0, .bool)] v = nums_Has_k k v := by kernel_rfl
noncomputable def nums_Has (v : (List Range) × Int × Unit) : Option (Bool × Unit) := nums_Has_k kBig v
noncomputable def tab11 (g : FuncId) : List (Entry A) := if g = 49 then [⟨[(.tmp 0, .row 65 false), (.tmp 1, .int .i64)], 0, [(.tmp 0, .bool)], nums_Has⟩] else tab10 g
/-! 33 patchwork/patchworklaw2.alive -/
noncomputable def L_law2_alive : FuncId → Nat → Option Shape := fun _ _ => none
noncomputable def J_law2_alive : FuncId → Nat → Option Shape := fun _ _ => none
@[reducible] noncomputable def X_law2_alive : TX := ⟨cfgX, A, lay, dec, wd, tab11, L_law2_alive, J_law2_alive⟩
noncomputable def law2_alive (v : Unit) : Option (Bool × Unit) :=
oK (nums_Read (([120, 49, 50, 121] : List UInt8), 1, ())) fun r0 =>
oK (nums_Ranges (([50, 45, 44, 53] : List UInt8), ())) fun r1 =>
oK (nums_Put (0, ())) fun r2 =>
bK (decide (r2.1 = ([48] : List UInt8)))
 (bK (decide (r0.1 = 12))
  (bK (decide (r0.2.1 = 3))
   (oK (law2_num (r0.2.2.1, ())) fun r3 =>
   bK (decide (r3.1 = 0))
    (bK r1.2.1
     (bK (decide (len r1.1 = 2))
      (oK (nums_Has (r1.1, 9, ())) fun r4 =>
      bK r4.1
       (oK (nums_Has (r1.1, 1, ())) fun r5 =>
       some (!r5.1, ()))
       (some (false, ())))
      (some (false, ())))
     (some (false, ())))
    (some (false, ())))
   (some (false, ())))
  (some (false, ())))
 (some (false, ()))
theorem law2_alive_run (k : Nat) (v : Unit) : tFn X_law2_alive k 33 [] 0 [(.tmp 0, .bool)] v = law2_alive v := by kernel_rfl
noncomputable def tab12 (g : FuncId) : List (Entry A) := if g = 33 then [⟨[], 0, [(.tmp 0, .bool)], law2_alive⟩] else tab11 g
/-! 14 patchwork/patchworklaw2.NumsRow -/
noncomputable def law2_NumsRow_l0 (v : (List Int) × Int × Unit) (v3 : (List UInt8) × Int × Unit) (rec9 : (Int × Int × Unit) → Option (Bool × Unit)) (v10 : Int × Int × Unit) : Option (Bool × Unit) :=
bK (decide (v10.2.1 < len v.1))
 (oK (nums_Read (v3.1, v10.1, ())) fun r11 =>
 oK (law2_num (r11.2.2.1, ())) fun r12 =>
 bK (!(decide (r12.1 = 0)))
  (some (false, ()))
  (oK (idx v.1 v10.2.1) fun x13 =>
  bK (!(decide (r11.1 = x13)))
   (some (false, ()))
   (bK (!(decide (r11.2.1 < len v3.1)))
    (some (false, ()))
    (oK (idx v3.1 r11.2.1) fun b14 =>
    bK (!(decide ((b14.toNat : Int) = v.2.1)))
     (some (false, ()))
     (rec9 (IntKind.wrap .i64 (r11.2.1 + 1), IntKind.wrap .i64 (v10.2.1 + 1), ()))))))
 (some (decide (v10.1 = len v3.1), ()))
noncomputable def law2_NumsRow_l1 (v : (List Int) × Int × Unit) (k : Nat) (rec2 : ((List UInt8) × Int × Unit) → Option (Bool × Unit)) (v3 : (List UInt8) × Int × Unit) : Option (Bool × Unit) :=
bK (decide (v3.2.1 < len v.1))
 (oK (idx v.1 v3.2.1) fun x4 =>
 bK (decide (x4 < 0))
  (some (true, ()))
  (oK (idx v.1 v3.2.1) fun x5 =>
  bK (decide (2147483648 < x5))
   (some (true, ()))
   (oK (idx v.1 v3.2.1) fun x6 =>
   oK (nums_Put (x6, ())) fun r7 =>
   bK (fits 1 (v3.1.length + r7.1.length))
    (oK (intRow lay 5 ([v.2.1] : List Int)) fun ns8 =>
    bK (fits 1 ((v3.1 ++ r7.1).length + (toBytes ns8).length))
     (rec2 (((v3.1 ++ r7.1) ++ toBytes ns8), IntKind.wrap .i64 (v3.2.1 + 1), ()))
     (none))
    (none))))
 (fixN (law2_NumsRow_l0 v v3) k (0, 0, ()))
noncomputable def law2_NumsRow_j2 (v : (List Int) × Int × Unit) (r0 : Bool × Unit) (k : Nat) (v1 : Bool × Unit) : Option (Bool × Unit) :=
bK v1.1
 (some (r0.1, ()))
 (fixN (law2_NumsRow_l1 v k) k (([] : List UInt8), 0, ()))
noncomputable def L_law2_NumsRow : FuncId → Nat → Option Shape := fun f i => match f, i with
    | 14, 13 => some ⟨[(.tmp 8, .int .i64), (.tmp 9, .int .i64)], [64, 65, 66, 67, 71, 72, 73, 70, 74, 75, 76, 10, 11, 12, 77, 78, 79, 80, 81, 82, 83, 84, 85, 86, 87, 88, 89, 90, 91, 92, 93, 94, 95, 96, 97, 98, 99, 100, 4, 101, 102, 68, 69]⟩
    | 14, 6 => some ⟨[(.tmp 6, .str), (.tmp 7, .int .i64)], [35, 36, 37, 38, 41, 42, 43, 44, 45, 46, 47, 48, 49, 50, 51, 52, 4, 53, 54, 55, 56, 57, 58, 59, 60, 61, 62, 63, 39, 40]⟩
    | _, _ => none
noncomputable def J_law2_NumsRow : FuncId → Nat → Option Shape := fun f i => match f, i with
    | 14, 3 => some ⟨[(.tmp 33, .bool)], [14, 15, 16, 17, 18, 19, 20, 21, 22, 23, 24, 25, 26, 27, 28, 29, 30, 31, 32]⟩
    | _, _ => none
@[reducible] noncomputable def X_law2_NumsRow : TX := ⟨cfgX, A, lay, dec, wd, tab12, L_law2_NumsRow, J_law2_NumsRow⟩
noncomputable def law2_NumsRow_k (k : Nat) (v : (List Int) × Int × Unit) : Option (Bool × Unit) :=
oK (law2_alive (())) fun r0 =>
bK (!r0.1)
 (join (law2_NumsRow_j2 v r0 k) (true, ()))
 (bK (decide (len v.1 < 1))
  (join (law2_NumsRow_j2 v r0 k) (true, ()))
  (bK (decide (20 < len v.1))
   (join (law2_NumsRow_j2 v r0 k) (true, ()))
   (bK (!(decide (v.2.1 < 48)))
    (join (law2_NumsRow_j2 v r0 k) (!(decide (57 < v.2.1)), ()))
    (join (law2_NumsRow_j2 v r0 k) (false, ())))))
theorem law2_NumsRow_run (k : Nat) (v : (List Int) × Int × Unit) : tFn X_law2_NumsRow k 14 [(.tmp 0, .row 3 false), (.tmp 1, .int .u8)] 0 [(.tmp 0, .bool)] v = law2_NumsRow_k k v := by kernel_rfl
noncomputable def law2_NumsRow (v : (List Int) × Int × Unit) : Option (Bool × Unit) := law2_NumsRow_k kBig v
noncomputable def tab13 (g : FuncId) : List (Entry A) := if g = 14 then [⟨[(.tmp 0, .row 3 false), (.tmp 1, .int .u8)], 0, [(.tmp 0, .bool)], law2_NumsRow⟩] else tab12 g
/-! 12 patchwork/patchworklaw2.NumsBack -/
noncomputable def law2_NumsBack_j0 (v : Int × Int × (List UInt8) × Unit) (r0 : Bool × Unit) (v1 : Bool × Unit) : Option (Bool × Unit) :=
bK v1.1
 (some (r0.1, ()))
 (bK (okSl 0 v.2.1 20)
  (oK (nums_Put (v.1, ())) fun r2 =>
  bK (fits 1 ((slc ([48, 48, 48, 48, 48, 48, 48, 48, 48, 48, 48, 48, 48, 48, 48, 48, 48, 48, 48, 48] : List UInt8) 0 v.2.1).length + r2.1.length))
   (bK (fits 1 (((slc ([48, 48, 48, 48, 48, 48, 48, 48, 48, 48, 48, 48, 48, 48, 48, 48, 48, 48, 48, 48] : List UInt8) 0 v.2.1) ++ r2.1).length + v.2.2.1.length))
    (oK (nums_Read ((((slc ([48, 48, 48, 48, 48, 48, 48, 48, 48, 48, 48, 48, 48, 48, 48, 48, 48, 48, 48, 48] : List UInt8) 0 v.2.1) ++ r2.1) ++ v.2.2.1), 0, ())) fun r3 =>
    bK (decide (2147483648 < v.1))
     (bK (decide (r3.1 = 0))
      (bK (decide (r3.2.1 = 0))
       (oK (law2_num (r3.2.2.1, ())) fun r4 =>
       some (decide (r4.1 = 4), ()))
       (some (false, ())))
      (some (false, ())))
     (bK (decide (r3.1 = v.1))
      (bK (decide (r3.2.1 = len ((slc ([48, 48, 48, 48, 48, 48, 48, 48, 48, 48, 48, 48, 48, 48, 48, 48, 48, 48, 48, 48] : List UInt8) 0 v.2.1) ++ r2.1)))
       (oK (law2_num (r3.2.2.1, ())) fun r5 =>
       some (decide (r5.1 = 0), ()))
       (some (false, ())))
      (some (false, ()))))
    (none))
   (none))
  (none))
noncomputable def L_law2_NumsBack : FuncId → Nat → Option Shape := fun _ _ => none
noncomputable def J_law2_NumsBack : FuncId → Nat → Option Shape := fun f i => match f, i with
    | 12, 3 => some ⟨[(.tmp 50, .bool)], [13, 14, 15, 16, 17, 18, 19, 20, 21, 22, 23, 24, 25, 26, 27, 28, 29, 30, 31, 32, 33, 34, 35, 36, 37, 38, 39, 40, 41, 42, 43, 44, 45, 46, 47, 48, 49]⟩
    | _, _ => none
@[reducible] noncomputable def X_law2_NumsBack : TX := ⟨cfgX, A, lay, dec, wd, tab13, L_law2_NumsBack, J_law2_NumsBack⟩
noncomputable def law2_NumsBack (v : Int × Int × (List UInt8) × Unit) : Option (Bool × Unit) :=
oK (law2_alive (())) fun r0 =>
bK (!r0.1)
 (join (law2_NumsBack_j0 v r0) (true, ()))
 (bK (decide (v.1 < 0))
  (join (law2_NumsBack_j0 v r0) (true, ()))
  (bK (decide (1099511627776 < v.1))
   (join (law2_NumsBack_j0 v r0) (true, ()))
   (bK (decide (v.2.1 < 0))
    (join (law2_NumsBack_j0 v r0) (true, ()))
    (bK (decide (20 < v.2.1))
     (join (law2_NumsBack_j0 v r0) (true, ()))
     (bK (decide (20 < len v.2.2.1))
      (join (law2_NumsBack_j0 v r0) (true, ()))
      (bK (decide (0 < len v.2.2.1))
       (oK (idx v.2.2.1 0) fun b6 =>
       bK (!(decide ((b6.toNat : Int) < 48)))
        (oK (idx v.2.2.1 0) fun b7 =>
        join (law2_NumsBack_j0 v r0) (!(decide (57 < (b7.toNat : Int))), ()))
        (join (law2_NumsBack_j0 v r0) (false, ())))
       (join (law2_NumsBack_j0 v r0) (false, ()))))))))
theorem law2_NumsBack_run (k : Nat) (v : Int × Int × (List UInt8) × Unit) : tFn X_law2_NumsBack k 12 [(.tmp 0, .int .i64), (.tmp 1, .int .i64), (.tmp 2, .str)] 0 [(.tmp 0, .bool)] v = law2_NumsBack v := by kernel_rfl
noncomputable def tab14 (g : FuncId) : List (Entry A) := if g = 12 then [⟨[(.tmp 0, .int .i64), (.tmp 1, .int .i64), (.tmp 2, .str)], 0, [(.tmp 0, .bool)], law2_NumsBack⟩] else tab13 g
end Go.Proofs.YthngeddaeoeimaaDoorTE
