/- Functions of the program as Lean functions, each reckoned; no condition. Printed by a program of this session's own. -/
import Derived.Test.YthngeddaeoeimaaDoorPpEnv
namespace Go.Proofs.YthngeddaeoeimaaDoorTE
open Go Go.Proofs.YthngeddaeoeimaaDoorVE
set_option linter.unusedVariables false
set_option maxRecDepth 100000
/-! 61 internal/stringslite.Cut -/
noncomputable def L_stringslite_Cut : FuncId → Nat → Option Shape := fun _ _ => none
noncomputable def J_stringslite_Cut : FuncId → Nat → Option Shape := fun _ _ => none
@[reducible] noncomputable def X_stringslite_Cut : TX := ⟨cfgX, A, lay, dec, wd, tab0, L_stringslite_Cut, J_stringslite_Cut⟩
noncomputable def stringslite_Cut (v : (List UInt8) × (List UInt8) × Unit) : Option ((List UInt8) × (List UInt8) × Bool × Unit) :=
oK (tIndex (v.1, v.2.1, ())) fun r0 =>
bK (!(decide (r0.1 < 0)))
 (bK (okSl 0 r0.1 (len v.1))
  (bK (okSl (IntKind.wrap .i64 (r0.1 + (len v.2.1))) (len v.1) (len v.1))
   (some ((slc v.1 0 r0.1), (slc v.1 (IntKind.wrap .i64 (r0.1 + (len v.2.1))) (len v.1)), true, ()))
   (none))
  (none))
 (some (v.1, ([] : List UInt8), false, ()))
theorem stringslite_Cut_run (k : Nat) (v : (List UInt8) × (List UInt8) × Unit) : tFn X_stringslite_Cut k 61 [(.tmp 0, .str), (.tmp 1, .str)] 0 [(.tmp 0, .str), (.tmp 1, .str), (.tmp 2, .bool)] v = stringslite_Cut v := by kernel_rfl
noncomputable def tab1 (g : FuncId) : List (Entry A) := if g = 61 then [⟨[(.tmp 0, .str), (.tmp 1, .str)], 0, [(.tmp 0, .str), (.tmp 1, .str), (.tmp 2, .bool)], stringslite_Cut⟩] else tab0 g
/-! 45 strings.Cut -/
noncomputable def L_strings_Cut : FuncId → Nat → Option Shape := fun _ _ => none
noncomputable def J_strings_Cut : FuncId → Nat → Option Shape := fun _ _ => none
@[reducible] noncomputable def X_strings_Cut : TX := ⟨cfgX, A, lay, dec, wd, tab1, L_strings_Cut, J_strings_Cut⟩
noncomputable def strings_Cut (v : (List UInt8) × (List UInt8) × Unit) : Option ((List UInt8) × (List UInt8) × Bool × Unit) :=
oK (stringslite_Cut (v.1, v.2.1, ())) fun r0 =>
some (r0.1, r0.2.1, r0.2.2.1, ())
theorem strings_Cut_run (k : Nat) (v : (List UInt8) × (List UInt8) × Unit) : tFn X_strings_Cut k 45 [(.tmp 0, .str), (.tmp 1, .str)] 0 [(.tmp 0, .str), (.tmp 1, .str), (.tmp 2, .bool)] v = strings_Cut v := by kernel_rfl
noncomputable def tab2 (g : FuncId) : List (Entry A) := if g = 45 then [⟨[(.tmp 0, .str), (.tmp 1, .str)], 0, [(.tmp 0, .str), (.tmp 1, .str), (.tmp 2, .bool)], strings_Cut⟩] else tab1 g
/-! 62 strings.trimLeftByte -/
noncomputable def strings_trimLeftByte_l0 (v : (List UInt8) × Int × Unit) (rec0 : ((List UInt8) × Unit) → Option ((List UInt8) × Unit)) (v1 : (List UInt8) × Unit) : Option ((List UInt8) × Unit) :=
bK (decide (0 < len v1.1))
 (oK (idx v1.1 0) fun b2 =>
 bK (decide ((b2.toNat : Int) = v.2.1))
  (bK (okSl 1 (len v1.1) (len v1.1))
   (rec0 ((slc v1.1 1 (len v1.1)), ()))
   (none))
  (some (v1.1, ())))
 (some (v1.1, ()))
noncomputable def L_strings_trimLeftByte : FuncId → Nat → Option Shape := fun f i => match f, i with
    | 62, 1 => some ⟨[(.tmp 0, .str)], [5, 6, 7, 8, 9, 10, 11, 12, 13, 14, 15]⟩
    | _, _ => none
noncomputable def J_strings_trimLeftByte : FuncId → Nat → Option Shape := fun _ _ => none
@[reducible] noncomputable def X_strings_trimLeftByte : TX := ⟨cfgX, A, lay, dec, wd, tab2, L_strings_trimLeftByte, J_strings_trimLeftByte⟩
noncomputable def strings_trimLeftByte_k (k : Nat) (v : (List UInt8) × Int × Unit) : Option ((List UInt8) × Unit) :=
fixN (strings_trimLeftByte_l0 v) k (v.1, ())
theorem strings_trimLeftByte_run (k : Nat) (v : (List UInt8) × Int × Unit) : tFn X_strings_trimLeftByte k 62 [(.tmp 0, .str), (.tmp 1, .int .u8)] 0 [(.tmp 0, .str)] v = strings_trimLeftByte_k k v := by kernel_rfl
noncomputable def strings_trimLeftByte (v : (List UInt8) × Int × Unit) : Option ((List UInt8) × Unit) := strings_trimLeftByte_k kBig v
noncomputable def tab3 (g : FuncId) : List (Entry A) := if g = 62 then [⟨[(.tmp 0, .str), (.tmp 1, .int .u8)], 0, [(.tmp 0, .str)], strings_trimLeftByte⟩] else tab2 g
/-! 105 unicode/utf8.ValidRune -/
noncomputable def utf8_ValidRune_j0 (v : Int × Unit) (v0 : Bool × Unit) : Option (Bool × Unit) :=
bK v0.1
 (some (true, ()))
 (bK (decide (57343 < v.1))
  (bK (!(decide (1114111 < v.1)))
   (some (true, ()))
   (some (false, ())))
  (some (false, ())))
noncomputable def L_utf8_ValidRune : FuncId → Nat → Option Shape := fun _ _ => none
noncomputable def J_utf8_ValidRune : FuncId → Nat → Option Shape := fun f i => match f, i with
    | 105, 2 => some ⟨[(.tmp 3, .bool)], [4, 5, 6, 7, 8, 9]⟩
    | _, _ => none
@[reducible] noncomputable def X_utf8_ValidRune : TX := ⟨cfgX, A, lay, dec, wd, tab3, L_utf8_ValidRune, J_utf8_ValidRune⟩
noncomputable def utf8_ValidRune (v : Int × Unit) : Option (Bool × Unit) :=
bK (!(decide (v.1 < 0)))
 (join (utf8_ValidRune_j0 v) (decide (v.1 < 55296), ()))
 (join (utf8_ValidRune_j0 v) (false, ()))
theorem utf8_ValidRune_run (k : Nat) (v : Int × Unit) : tFn X_utf8_ValidRune k 105 [(.tmp 0, .int .i32)] 0 [(.tmp 0, .bool)] v = utf8_ValidRune v := by kernel_rfl
noncomputable def tab4 (g : FuncId) : List (Entry A) := if g = 105 then [⟨[(.tmp 0, .int .i32)], 0, [(.tmp 0, .bool)], utf8_ValidRune⟩] else tab3 g
/-! 87 internal/bytealg.Cutover -/
noncomputable def L_bytealg_Cutover : FuncId → Nat → Option Shape := fun _ _ => none
noncomputable def J_bytealg_Cutover : FuncId → Nat → Option Shape := fun _ _ => none
@[reducible] noncomputable def X_bytealg_Cutover : TX := ⟨cfgX, A, lay, dec, wd, tab4, L_bytealg_Cutover, J_bytealg_Cutover⟩
noncomputable def bytealg_Cutover (v : Int × Unit) : Option (Int × Unit) :=
some (IntKind.wrap .i64 (Int.tdiv (IntKind.wrap .i64 (v.1 + 16)) 8), ())
theorem bytealg_Cutover_run (k : Nat) (v : Int × Unit) : tFn X_bytealg_Cutover k 87 [(.tmp 0, .int .i64)] 0 [(.tmp 0, .int .i64)] v = bytealg_Cutover v := by kernel_rfl
noncomputable def tab5 (g : FuncId) : List (Entry A) := if g = 87 then [⟨[(.tmp 0, .int .i64)], 0, [(.tmp 0, .int .i64)], bytealg_Cutover⟩] else tab4 g
/-! 26 patchwork/paths.Strip -/
noncomputable def paths_Strip_j0 (rec0 : ((List UInt8) × Int × Unit) → Option ((List UInt8) × Unit)) (v1 : (List UInt8) × Int × Unit) (v2 : (List UInt8) × Unit) : Option ((List UInt8) × Unit) :=
rec0 (v2.1, IntKind.wrap .i64 (v1.2.1 - 1), ())
noncomputable def paths_Strip_j1 (rec0 : ((List UInt8) × Int × Unit) → Option ((List UInt8) × Unit)) (v1 : (List UInt8) × Int × Unit) (r3 : (List UInt8) × (List UInt8) × Bool × Unit) (v4 : Bool × Unit) : Option ((List UInt8) × Unit) :=
bK v4.1
 (join (paths_Strip_j0 rec0 v1) (r3.2.1, ()))
 (oK (strings_trimLeftByte (r3.2.1, 47, ())) fun r5 =>
 join (paths_Strip_j0 rec0 v1) (r5.1, ()))
noncomputable def paths_Strip_l2 (rec0 : ((List UInt8) × Int × Unit) → Option ((List UInt8) × Unit)) (v1 : (List UInt8) × Int × Unit) : Option ((List UInt8) × Unit) :=
bK (decide (0 < v1.2.1))
 (oK (strings_Cut (v1.1, ([47] : List UInt8), ())) fun r3 =>
 bK (!r3.2.2.1)
  (some (v1.1, ()))
  (bK (decide (r3.2.1 = ([] : List UInt8)))
   (join (paths_Strip_j1 rec0 v1 r3) (true, ()))
   (join (paths_Strip_j1 rec0 v1 r3) (false, ()))))
 (some (v1.1, ()))
noncomputable def L_paths_Strip : FuncId → Nat → Option Shape := fun f i => match f, i with
    | 26, 1 => some ⟨[(.tmp 0, .str), (.tmp 1, .int .i64)], [8, 9, 13, 14, 12, 15, 16, 17, 5, 6, 7, 18, 19, 20, 4, 21, 22, 10, 11]⟩
    | _, _ => none
noncomputable def J_paths_Strip : FuncId → Nat → Option Shape := fun f i => match f, i with
    | 26, 2 => some ⟨[(.tmp 0, .str)], [13, 14, 12, 15, 16, 17, 5, 6, 7, 18, 19, 20, 4, 21, 22]⟩
    | 46, 2 => some ⟨[(.tmp 12, .bool)], [7, 8, 9, 10, 11]⟩
    | _, _ => none
@[reducible] noncomputable def X_paths_Strip : TX := ⟨cfgX, A, lay, dec, wd, tab5, L_paths_Strip, J_paths_Strip⟩
noncomputable def paths_Strip_k (k : Nat) (v : (List UInt8) × Int × Unit) : Option ((List UInt8) × Unit) :=
fixN (paths_Strip_l2) k (v.1, v.2.1, ())
theorem paths_Strip_run (k : Nat) (v : (List UInt8) × Int × Unit) : tFn X_paths_Strip k 26 [(.tmp 0, .str), (.tmp 1, .int .i64)] 0 [(.tmp 0, .str)] v = paths_Strip_k k v := by kernel_rfl
noncomputable def paths_Strip (v : (List UInt8) × Int × Unit) : Option ((List UInt8) × Unit) := paths_Strip_k kBig v
noncomputable def tab6 (g : FuncId) : List (Entry A) := if g = 26 then [⟨[(.tmp 0, .str), (.tmp 1, .int .i64)], 0, [(.tmp 0, .str)], paths_Strip⟩] else tab5 g
/-! 30 patchwork/paths.Base -/
noncomputable def L_paths_Base : FuncId → Nat → Option Shape := fun _ _ => none
noncomputable def J_paths_Base : FuncId → Nat → Option Shape := fun _ _ => none
@[reducible] noncomputable def X_paths_Base : TX := ⟨cfgX, A, lay, dec, wd, tab6, L_paths_Base, J_paths_Base⟩
noncomputable def paths_Base (v : (List UInt8) × Unit) : Option ((List UInt8) × Unit) :=
oK (tParts (v.1, ())) fun r0 =>
bK (decide (len r0.1 = 0))
 (some (([] : List UInt8), ()))
 (oK (idx r0.1 (IntKind.wrap .i64 ((len r0.1) - 1))) fun x1 =>
 some (x1, ()))
theorem paths_Base_run (k : Nat) (v : (List UInt8) × Unit) : tFn X_paths_Base k 30 [(.tmp 0, .str)] 0 [(.tmp 0, .str)] v = paths_Base v := by kernel_rfl
noncomputable def tab7 (g : FuncId) : List (Entry A) := if g = 30 then [⟨[(.tmp 0, .str)], 0, [(.tmp 0, .str)], paths_Base⟩] else tab6 g
/-! 25 patchwork/patchworklaw3.alive -/
noncomputable def L_law3_alive : FuncId → Nat → Option Shape := fun _ _ => none
noncomputable def J_law3_alive : FuncId → Nat → Option Shape := fun _ _ => none
@[reducible] noncomputable def X_law3_alive : TX := ⟨cfgX, A, lay, dec, wd, tab7, L_law3_alive, J_law3_alive⟩
noncomputable def law3_alive (v : Unit) : Option (Bool × Unit) :=
oK (paths_Strip (([97, 47, 98, 47, 99] : List UInt8), 1, ())) fun r0 =>
bK (decide (r0.1 = ([98, 47, 99] : List UInt8)))
 (oK (tParts (([47, 97, 47, 47, 98, 47] : List UInt8), ())) fun r1 =>
 bK (decide (len r1.1 = 2))
  (oK (paths_Base (([97, 47, 98] : List UInt8), ())) fun r2 =>
  some (decide (r2.1 = ([98] : List UInt8)), ()))
  (some (false, ())))
 (some (false, ()))
theorem law3_alive_run (k : Nat) (v : Unit) : tFn X_law3_alive k 25 [] 0 [(.tmp 0, .bool)] v = law3_alive v := by kernel_rfl
noncomputable def tab8 (g : FuncId) : List (Entry A) := if g = 25 then [⟨[], 0, [(.tmp 0, .bool)], law3_alive⟩] else tab7 g
/-! 32 patchwork/patchworkref1.Cuts -/
noncomputable def ref1_Cuts_j0 (rec0 : ((List (List UInt8)) × Int × Int × Unit) → Option ((List (List UInt8)) × Unit)) (v1 : (List (List UInt8)) × Int × Int × Unit) (v2 : (List (List UInt8)) × Int × Unit) : Option ((List (List UInt8)) × Unit) :=
rec0 (v2.1, v2.2.1, IntKind.wrap .i64 (v1.2.2.1 + 1), ())
noncomputable def ref1_Cuts_j1 (v : (List UInt8) × Int × Unit) (rec0 : ((List (List UInt8)) × Int × Int × Unit) → Option ((List (List UInt8)) × Unit)) (v1 : (List (List UInt8)) × Int × Int × Unit) (v3 : Bool × Unit) : Option ((List (List UInt8)) × Unit) :=
bK v3.1
 (bK (okSl v1.2.1 v1.2.2.1 (len v.1))
  (bK (fits 16 (v1.1.length + 1))
   (join (ref1_Cuts_j0 rec0 v1) ((v1.1 ++ ([(slc v.1 v1.2.1 v1.2.2.1)] : List (List UInt8))), IntKind.wrap .i64 (v1.2.2.1 + 1), ()))
   (none))
  (none))
 (join (ref1_Cuts_j0 rec0 v1) (v1.1, v1.2.1, ()))
noncomputable def ref1_Cuts_l2 (v : (List UInt8) × Int × Unit) (rec0 : ((List (List UInt8)) × Int × Int × Unit) → Option ((List (List UInt8)) × Unit)) (v1 : (List (List UInt8)) × Int × Int × Unit) : Option ((List (List UInt8)) × Unit) :=
bK (!(decide (len v.1 < v1.2.2.1)))
 (bK (decide (v1.2.2.1 = len v.1))
  (join (ref1_Cuts_j1 v rec0 v1) (true, ()))
  (oK (idx v.1 v1.2.2.1) fun b4 =>
  join (ref1_Cuts_j1 v rec0 v1) (decide ((b4.toNat : Int) = v.2.1), ())))
 (some (v1.1, ()))
noncomputable def L_ref1_Cuts : FuncId → Nat → Option Shape := fun f i => match f, i with
    | 32, 4 => some ⟨[(.tmp 5, .row 9 true), (.tmp 6, .int .i64), (.tmp 7, .int .i64)], [8, 9, 10, 11, 14, 15, 16, 17, 18, 19, 20, 21, 22, 23, 24, 25, 26, 27, 28, 29, 30, 31, 32, 33, 12, 13]⟩
    | _, _ => none
noncomputable def J_ref1_Cuts : FuncId → Nat → Option Shape := fun f i => match f, i with
    | 32, 5 => some ⟨[(.tmp 5, .row 9 true), (.tmp 6, .int .i64)], [14, 15, 16, 17, 18, 19, 20, 21, 22, 23, 24, 25, 26, 27, 28, 29, 30, 31, 32, 33]⟩
    | 32, 7 => some ⟨[(.tmp 24, .bool)], [14, 15, 16, 17, 18, 19, 20, 21, 22, 23]⟩
    | _, _ => none
@[reducible] noncomputable def X_ref1_Cuts : TX := ⟨cfgX, A, lay, dec, wd, tab8, L_ref1_Cuts, J_ref1_Cuts⟩
noncomputable def ref1_Cuts_k (k : Nat) (v : (List UInt8) × Int × Unit) : Option ((List (List UInt8)) × Unit) :=
fixN (ref1_Cuts_l2 v) k ([], 0, 0, ())
theorem ref1_Cuts_run (k : Nat) (v : (List UInt8) × Int × Unit) : tFn X_ref1_Cuts k 32 [(.tmp 0, .str), (.tmp 1, .int .u8)] 0 [(.tmp 0, .row 9 false)] v = ref1_Cuts_k k v := by kernel_rfl
noncomputable def ref1_Cuts (v : (List UInt8) × Int × Unit) : Option ((List (List UInt8)) × Unit) := ref1_Cuts_k kBig v
noncomputable def tab9 (g : FuncId) : List (Entry A) := if g = 32 then [⟨[(.tmp 0, .str), (.tmp 1, .int .u8)], 0, [(.tmp 0, .row 9 false)], ref1_Cuts⟩] else tab8 g
/-! 19 patchwork/patchworkref1.SameTexts -/
noncomputable def ref1_SameTexts_l0 (v : (List (List UInt8)) × (List (List UInt8)) × Unit) (rec0 : (Int × Unit) → Option (Bool × Unit)) (v1 : Int × Unit) : Option (Bool × Unit) :=
bK (decide (v1.1 < len v.1))
 (oK (idx v.1 v1.1) fun x2 =>
 oK (idx v.2.1 v1.1) fun x3 =>
 bK (!(decide (x2 = x3)))
  (some (false, ()))
  (rec0 (IntKind.wrap .i64 (v1.1 + 1), ())))
 (some (true, ()))
noncomputable def L_ref1_SameTexts : FuncId → Nat → Option Shape := fun f i => match f, i with
    | 19, 4 => some ⟨[(.tmp 5, .int .i64)], [11, 12, 13, 14, 17, 18, 19, 20, 21, 22, 23, 24, 25, 4, 15, 16]⟩
    | _, _ => none
noncomputable def J_ref1_SameTexts : FuncId → Nat → Option Shape := fun _ _ => none
@[reducible] noncomputable def X_ref1_SameTexts : TX := ⟨cfgX, A, lay, dec, wd, tab9, L_ref1_SameTexts, J_ref1_SameTexts⟩
noncomputable def ref1_SameTexts_k (k : Nat) (v : (List (List UInt8)) × (List (List UInt8)) × Unit) : Option (Bool × Unit) :=
bK (!(decide (len v.1 = len v.2.1)))
 (some (false, ()))
 (fixN (ref1_SameTexts_l0 v) k (0, ()))
theorem ref1_SameTexts_run (k : Nat) (v : (List (List UInt8)) × (List (List UInt8)) × Unit) : tFn X_ref1_SameTexts k 19 [(.tmp 0, .row 9 false), (.tmp 1, .row 9 false)] 0 [(.tmp 0, .bool)] v = ref1_SameTexts_k k v := by kernel_rfl
noncomputable def ref1_SameTexts (v : (List (List UInt8)) × (List (List UInt8)) × Unit) : Option (Bool × Unit) := ref1_SameTexts_k kBig v
noncomputable def tab10 (g : FuncId) : List (Entry A) := if g = 19 then [⟨[(.tmp 0, .row 9 false), (.tmp 1, .row 9 false)], 0, [(.tmp 0, .bool)], ref1_SameTexts⟩] else tab9 g
/-! 10 patchwork/patchworklaw3.PathsParts -/
noncomputable def law3_PathsParts_j0 (rec3 : ((List UInt8) × Int × Unit) → Option (Bool × Unit)) (v4 : (List UInt8) × Int × Unit) (v5 : (List UInt8) × Unit) : Option (Bool × Unit) :=
rec3 (v5.1, IntKind.wrap .i64 (v4.2.1 + 1), ())
noncomputable def law3_PathsParts_j1 (v : (List (List UInt8)) × (List Int) × Unit) (v4 : (List UInt8) × Int × Unit) (v12 : (List (List UInt8)) × Unit) : Option (Bool × Unit) :=
oK (tParts (v4.1, ())) fun r13 =>
oK (ref1_SameTexts (r13.1, v.1, ())) fun r14 =>
bK r14.1
 (oK (paths_Base (v4.1, ())) fun r15 =>
 oK (idx v.1 (IntKind.wrap .i64 ((len v.1) - 1))) fun x16 =>
 bK (decide (r15.1 = x16))
  (oK (paths_Strip (v4.1, 1, ())) fun r17 =>
  oK (tParts (r17.1, ())) fun r18 =>
  oK (ref1_SameTexts (r18.1, v12.1, ())) fun r19 =>
  some (r19.1, ()))
  (some (false, ())))
 (some (false, ()))
noncomputable def law3_PathsParts_l2 (v : (List (List UInt8)) × (List Int) × Unit) (rec3 : ((List UInt8) × Int × Unit) → Option (Bool × Unit)) (v4 : (List UInt8) × Int × Unit) : Option (Bool × Unit) :=
bK (decide (v4.2.1 < len v.1))
 (oK (idx v.1 v4.2.1) fun x6 =>
 bK (decide (x6 = ([] : List UInt8)))
  (some (true, ()))
  (oK (idx v.1 v4.2.1) fun x7 =>
  bK (decide (20 < len x7))
   (some (true, ()))
   (oK (idx v.1 v4.2.1) fun x8 =>
   oK (ref1_Cuts (x8, 47, ())) fun r9 =>
   bK (!(decide (len r9.1 = 1)))
    (some (true, ()))
    (oK (idx v.1 v4.2.1) fun x10 =>
    bK (fits 1 (v4.1.length + x10.length))
     (bK (decide (IntKind.wrap .i64 (v4.2.1 + 1) < len v.1))
      (oK (idx v.2.1 (IntKind.wrap .i64 (v4.2.1 + 1))) fun x11 =>
      bK (okSl 0 (IntKind.wrap .i64 (1 + (IntKind.wrap .i64 ((BitVec.ofInt (IntKind.bits .i64) x11) &&& (BitVec.ofInt (IntKind.bits .i64) 1)).toNat))) 3)
       (bK (fits 1 ((v4.1 ++ x10).length + (slc ([47, 47, 47] : List UInt8) 0 (IntKind.wrap .i64 (1 + (IntKind.wrap .i64 ((BitVec.ofInt (IntKind.bits .i64) x11) &&& (BitVec.ofInt (IntKind.bits .i64) 1)).toNat)))).length))
        (join (law3_PathsParts_j0 rec3 v4) (((v4.1 ++ x10) ++ (slc ([47, 47, 47] : List UInt8) 0 (IntKind.wrap .i64 (1 + (IntKind.wrap .i64 ((BitVec.ofInt (IntKind.bits .i64) x11) &&& (BitVec.ofInt (IntKind.bits .i64) 1)).toNat))))), ()))
        (none))
       (none))
      (join (law3_PathsParts_j0 rec3 v4) ((v4.1 ++ x10), ())))
     (none)))))
 (oK (idx v.2.1 0) fun x20 =>
 bK (decide (IntKind.wrap .i64 ((BitVec.ofInt (IntKind.bits .i64) x20) &&& (BitVec.ofInt (IntKind.bits .i64) 1)).toNat = 0))
  (bK (okSl 1 (len v.1) (len v.1))
   (bK (decide (len v.1 = 1))
    (join (law3_PathsParts_j1 v v4) (v.1, ()))
    (join (law3_PathsParts_j1 v v4) ((slc v.1 1 (len v.1)), ())))
   (none))
  (join (law3_PathsParts_j1 v v4) (v.1, ())))
noncomputable def law3_PathsParts_j3 (v : (List (List UInt8)) × (List Int) × Unit) (r0 : Bool × Unit) (k : Nat) (v1 : Bool × Unit) : Option (Bool × Unit) :=
bK v1.1
 (some (r0.1, ()))
 (oK (idx v.2.1 0) fun x2 =>
 bK (okSl 0 (IntKind.wrap .i64 ((BitVec.ofInt (IntKind.bits .i64) x2) &&& (BitVec.ofInt (IntKind.bits .i64) 1)).toNat) 3)
  (fixN (law3_PathsParts_l2 v) k ((slc ([47, 47, 47] : List UInt8) 0 (IntKind.wrap .i64 ((BitVec.ofInt (IntKind.bits .i64) x2) &&& (BitVec.ofInt (IntKind.bits .i64) 1)).toNat)), 0, ()))
  (none))
noncomputable def L_law3_PathsParts : FuncId → Nat → Option Shape := fun f i => match f, i with
    | 10, 6 => some ⟨[(.tmp 6, .str), (.tmp 7, .int .i64)], [35, 36, 37, 38, 41, 42, 43, 44, 45, 46, 47, 48, 49, 50, 51, 52, 53, 54, 55, 56, 57, 58, 59, 60, 61, 62, 4, 63, 64, 65, 66, 67, 68, 69, 70, 71, 72, 73, 74, 75, 76, 77, 78, 79, 80, 81, 82, 83, 39, 40]⟩
    | _, _ => none
noncomputable def J_law3_PathsParts : FuncId → Nat → Option Shape := fun f i => match f, i with
    | 10, 18 => some ⟨[(.tmp 8, .row 9 false)], [85, 86, 87, 88, 89, 90, 91, 92, 93, 94, 95]⟩
    | 10, 7 => some ⟨[(.tmp 6, .str)], [41, 42, 43, 44, 45, 46, 47, 48, 49, 50, 51, 52, 53, 54, 55, 56, 57, 58, 59, 60, 61, 62, 4, 63, 64, 65, 66, 67, 68, 69, 70, 71, 72, 73, 74, 75, 76, 77, 78, 79, 80, 81, 82, 83]⟩
    | 10, 3 => some ⟨[(.tmp 28, .bool)], [10, 11, 12, 13, 14, 15, 16, 17, 18, 19, 20, 21, 22, 23, 24, 25, 26, 27]⟩
    | _, _ => none
@[reducible] noncomputable def X_law3_PathsParts : TX := ⟨cfgX, A, lay, dec, wd, tab10, L_law3_PathsParts, J_law3_PathsParts⟩
noncomputable def law3_PathsParts_k (k : Nat) (v : (List (List UInt8)) × (List Int) × Unit) : Option (Bool × Unit) :=
oK (law3_alive (())) fun r0 =>
bK (!r0.1)
 (join (law3_PathsParts_j3 v r0 k) (true, ()))
 (bK (decide (len v.1 < 1))
  (join (law3_PathsParts_j3 v r0 k) (true, ()))
  (bK (decide (20 < len v.1))
   (join (law3_PathsParts_j3 v r0 k) (true, ()))
   (join (law3_PathsParts_j3 v r0 k) (!(decide (len v.1 < len v.2.1)), ()))))
theorem law3_PathsParts_run (k : Nat) (v : (List (List UInt8)) × (List Int) × Unit) : tFn X_law3_PathsParts k 10 [(.tmp 0, .row 9 false), (.tmp 1, .row 3 false)] 0 [(.tmp 0, .bool)] v = law3_PathsParts_k k v := by kernel_rfl
noncomputable def law3_PathsParts (v : (List (List UInt8)) × (List Int) × Unit) : Option (Bool × Unit) := law3_PathsParts_k kBig v
noncomputable def tab11 (g : FuncId) : List (Entry A) := if g = 10 then [⟨[(.tmp 0, .row 9 false), (.tmp 1, .row 3 false)], 0, [(.tmp 0, .bool)], law3_PathsParts⟩] else tab10 g
end Go.Proofs.YthngeddaeoeimaaDoorTE
