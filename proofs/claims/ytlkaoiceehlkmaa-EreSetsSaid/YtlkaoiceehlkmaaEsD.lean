/- Printed by a program of this session's own; no condition. -/
import Derived.Test.YtlkaoiceehlkmaaEsEnv
namespace Go.Proofs.YtlkaoiceehlkmaaTE
open Go Go.Proofs.YtlkaoiceehlkmaaVE
set_option linter.unusedVariables false
set_option maxRecDepth 100000
/-! 44 (*patchwork/ere.parser).is -/
noncomputable def L_ere_parser_is : FuncId → Nat → Option Shape := fun _ _ => none
noncomputable def J_ere_parser_is : FuncId → Nat → Option Shape := fun _ _ => none
@[reducible] noncomputable def X_ere_parser_is : TX := ⟨cfgX, A, lay, dec, wd, tab0, L_ere_parser_is, J_ere_parser_is⟩
noncomputable def ere_parser_is (v : Unit × ((List UInt8) × Int × (Option EreWrong) × Unit) × (List UInt8) × Unit) : Option (Unit × ((List UInt8) × Int × (Option EreWrong) × Unit) × Bool × Unit) :=
bK (v.2.1.2.2.1.isNone == true)
 (bK (decide (v.2.1.2.1 < len v.2.1.1))
  (oK (idx v.2.1.1 v.2.1.2.1) fun b0 =>
  oK (tIndexByte (v.2.2.1, (b0.toNat : Int), ())) fun r1 =>
  some ((), (v.2.1.1, v.2.1.2.1, v.2.1.2.2.1, ()), !(decide (r1.1 < 0)), ()))
  (some ((), (v.2.1.1, v.2.1.2.1, v.2.1.2.2.1, ()), false, ())))
 (some ((), (v.2.1.1, v.2.1.2.1, v.2.1.2.2.1, ()), false, ()))
noncomputable def tab1 (g : FuncId) : List (Entry A) := if g = 44 then [⟨[(.tmp 0, .ptr 0 0), (.new 0, .agg [.str, .int .i64, .optp 70]), (.tmp 1, .str)], 1, [(.tmp 0, .ptr 0 0), (.new 0, .agg [.str, .int .i64, .optp 70]), (.tmp 1, .bool)], ere_parser_is⟩] else tab0 g
/-! 33 (*patchwork/ere.parser).fail -/
noncomputable def L_ere_parser_fail : FuncId → Nat → Option Shape := fun _ _ => none
noncomputable def J_ere_parser_fail : FuncId → Nat → Option Shape := fun _ _ => none
@[reducible] noncomputable def X_ere_parser_fail : TX := ⟨cfgX, A, lay, dec, wd, tab1, L_ere_parser_fail, J_ere_parser_fail⟩
noncomputable def ere_parser_fail (v : Unit × ((List UInt8) × Int × (Option EreWrong) × Unit) × Int × Int × Unit) : Option (Unit × ((List UInt8) × Int × (Option EreWrong) × Unit) × Unit) :=
bK (v.2.1.2.2.1.isNone == true)
 (some ((), (v.2.1.1, v.2.1.2.1, (some (EreWrong.mk v.2.2.1 v.2.2.2.1)), ()), ()))
 (some ((), (v.2.1.1, v.2.1.2.1, v.2.1.2.2.1, ()), ()))
noncomputable def tab2 (g : FuncId) : List (Entry A) := if g = 33 then [⟨[(.tmp 0, .ptr 0 0), (.new 0, .agg [.str, .int .i64, .optp 70]), (.tmp 1, .int .i64), (.tmp 2, .int .i64)], 1, [(.tmp 0, .ptr 0 0), (.new 0, .agg [.str, .int .i64, .optp 70])], ere_parser_fail⟩] else tab1 g
/-! 64 patchwork/ere.others -/
noncomputable def ere_others_l0 (rec0 : (Int × (Int × Int × Int × Int × Unit) × Unit) → Option ((Int × Int × Int × Int × Unit) × Unit)) (v1 : Int × (Int × Int × Int × Int × Unit) × Unit) : Option ((Int × Int × Int × Int × Unit) × Unit) :=
bK (decide (v1.1 < 4))
 (bK (inR v1.1 4)
  (bK (inR v1.1 4)
   (rec0 (IntKind.wrap .i64 (v1.1 + 1), (nth (setN [v1.2.1.1, v1.2.1.2.1, v1.2.1.2.2.1, v1.2.1.2.2.2.1] v1.1 (IntKind.wrap .u64 ((BitVec.ofInt (IntKind.bits .u64) 18446744073709551615) ^^^ (BitVec.ofInt (IntKind.bits .u64) (nth [v1.2.1.1, v1.2.1.2.1, v1.2.1.2.2.1, v1.2.1.2.2.2.1] v1.1))).toNat)) 0, nth (setN [v1.2.1.1, v1.2.1.2.1, v1.2.1.2.2.1, v1.2.1.2.2.2.1] v1.1 (IntKind.wrap .u64 ((BitVec.ofInt (IntKind.bits .u64) 18446744073709551615) ^^^ (BitVec.ofInt (IntKind.bits .u64) (nth [v1.2.1.1, v1.2.1.2.1, v1.2.1.2.2.1, v1.2.1.2.2.2.1] v1.1))).toNat)) 1, nth (setN [v1.2.1.1, v1.2.1.2.1, v1.2.1.2.2.1, v1.2.1.2.2.2.1] v1.1 (IntKind.wrap .u64 ((BitVec.ofInt (IntKind.bits .u64) 18446744073709551615) ^^^ (BitVec.ofInt (IntKind.bits .u64) (nth [v1.2.1.1, v1.2.1.2.1, v1.2.1.2.2.1, v1.2.1.2.2.2.1] v1.1))).toNat)) 2, nth (setN [v1.2.1.1, v1.2.1.2.1, v1.2.1.2.2.1, v1.2.1.2.2.2.1] v1.1 (IntKind.wrap .u64 ((BitVec.ofInt (IntKind.bits .u64) 18446744073709551615) ^^^ (BitVec.ofInt (IntKind.bits .u64) (nth [v1.2.1.1, v1.2.1.2.1, v1.2.1.2.2.1, v1.2.1.2.2.2.1] v1.1))).toNat)) 3, ()), ()))
   (none))
  (none))
 (some ((v1.2.1.1, v1.2.1.2.1, v1.2.1.2.2.1, v1.2.1.2.2.2.1, ()), ()))
noncomputable def L_ere_others : FuncId → Nat → Option Shape := fun f i => match f, i with
    | 64, 3 => some ⟨[(.tmp 5, .int .i64), (.loc 0, .agg [.int .u64, .int .u64, .int .u64, .int .u64])], [6, 7, 3, 8, 9, 10, 11, 12, 13, 14]⟩
    | _, _ => none
noncomputable def J_ere_others : FuncId → Nat → Option Shape := fun _ _ => none
@[reducible] noncomputable def X_ere_others : TX := ⟨cfgX, A, lay, dec, wd, tab2, L_ere_others, J_ere_others⟩
noncomputable def ere_others_k (k : Nat) (v : (Int × Int × Int × Int × Unit) × Unit) : Option ((Int × Int × Int × Int × Unit) × Unit) :=
fixN (ere_others_l0) k (0, (IntKind.wrap .u64 ((BitVec.ofInt (IntKind.bits .u64) v.1.1) ||| (BitVec.ofInt (IntKind.bits .u64) 1024)).toNat, v.1.2.1, v.1.2.2.1, v.1.2.2.2.1, ()), ())
noncomputable def ere_others (v : (Int × Int × Int × Int × Unit) × Unit) : Option ((Int × Int × Int × Int × Unit) × Unit) := ere_others_k kBig v
noncomputable def tab3 (g : FuncId) : List (Entry A) := if g = 64 then [⟨[(.tmp 0, .agg [.int .u64, .int .u64, .int .u64, .int .u64])], 0, [(.tmp 0, .agg [.int .u64, .int .u64, .int .u64, .int .u64])], ere_others⟩] else tab2 g
/-! 75 internal/stringslite.HasPrefix -/
noncomputable def L_stringslite_HasPrefix : FuncId → Nat → Option Shape := fun _ _ => none
noncomputable def J_stringslite_HasPrefix : FuncId → Nat → Option Shape := fun _ _ => none
@[reducible] noncomputable def X_stringslite_HasPrefix : TX := ⟨cfgX, A, lay, dec, wd, tab3, L_stringslite_HasPrefix, J_stringslite_HasPrefix⟩
noncomputable def stringslite_HasPrefix (v : (List UInt8) × (List UInt8) × Unit) : Option (Bool × Unit) :=
bK (!(decide (len v.1 < len v.2.1)))
 (bK (okSl 0 (len v.2.1) (len v.1))
  (some (decide ((slc v.1 0 (len v.2.1)) = v.2.1), ()))
  (none))
 (some (false, ()))
noncomputable def tab4 (g : FuncId) : List (Entry A) := if g = 75 then [⟨[(.tmp 0, .str), (.tmp 1, .str)], 0, [(.tmp 0, .bool)], stringslite_HasPrefix⟩] else tab3 g
/-! 67 strings.HasPrefix -/
noncomputable def L_strings_HasPrefix : FuncId → Nat → Option Shape := fun _ _ => none
noncomputable def J_strings_HasPrefix : FuncId → Nat → Option Shape := fun _ _ => none
@[reducible] noncomputable def X_strings_HasPrefix : TX := ⟨cfgX, A, lay, dec, wd, tab4, L_strings_HasPrefix, J_strings_HasPrefix⟩
noncomputable def strings_HasPrefix (v : (List UInt8) × (List UInt8) × Unit) : Option (Bool × Unit) :=
oK (stringslite_HasPrefix (v.1, v.2.1, ())) fun r0 =>
some (r0.1, ())
noncomputable def tab5 (g : FuncId) : List (Entry A) := if g = 67 then [⟨[(.tmp 0, .str), (.tmp 1, .str)], 0, [(.tmp 0, .bool)], strings_HasPrefix⟩] else tab4 g
/-! 80 internal/stringslite.Cut -/
noncomputable def L_stringslite_Cut : FuncId → Nat → Option Shape := fun _ _ => none
noncomputable def J_stringslite_Cut : FuncId → Nat → Option Shape := fun _ _ => none
@[reducible] noncomputable def X_stringslite_Cut : TX := ⟨cfgX, A, lay, dec, wd, tab5, L_stringslite_Cut, J_stringslite_Cut⟩
noncomputable def stringslite_Cut (v : (List UInt8) × (List UInt8) × Unit) : Option ((List UInt8) × (List UInt8) × Bool × Unit) :=
oK (tIndexL (v.1, v.2.1, ())) fun r0 =>
bK (!(decide (r0.1 < 0)))
 (bK (okSl 0 r0.1 (len v.1))
  (bK (okSl (IntKind.wrap .i64 (r0.1 + (len v.2.1))) (len v.1) (len v.1))
   (some ((slc v.1 0 r0.1), (slc v.1 (IntKind.wrap .i64 (r0.1 + (len v.2.1))) (len v.1)), true, ()))
   (none))
  (none))
 (some (v.1, ([] : List UInt8), false, ()))
noncomputable def tab6 (g : FuncId) : List (Entry A) := if g = 80 then [⟨[(.tmp 0, .str), (.tmp 1, .str)], 0, [(.tmp 0, .str), (.tmp 1, .str), (.tmp 2, .bool)], stringslite_Cut⟩] else tab5 g
/-! 79 strings.Cut -/
noncomputable def L_strings_Cut : FuncId → Nat → Option Shape := fun _ _ => none
noncomputable def J_strings_Cut : FuncId → Nat → Option Shape := fun _ _ => none
@[reducible] noncomputable def X_strings_Cut : TX := ⟨cfgX, A, lay, dec, wd, tab6, L_strings_Cut, J_strings_Cut⟩
noncomputable def strings_Cut (v : (List UInt8) × (List UInt8) × Unit) : Option ((List UInt8) × (List UInt8) × Bool × Unit) :=
oK (stringslite_Cut (v.1, v.2.1, ())) fun r0 =>
some (r0.1, r0.2.1, r0.2.2.1, ())
noncomputable def tab7 (g : FuncId) : List (Entry A) := if g = 79 then [⟨[(.tmp 0, .str), (.tmp 1, .str)], 0, [(.tmp 0, .str), (.tmp 1, .str), (.tmp 2, .bool)], strings_Cut⟩] else tab6 g
/-! 73 patchwork/glob.Class -/
noncomputable def glob_Class_j0 (v : (List UInt8) × Int × Unit) (v0 : Bool × Bool × Bool × Unit) : Option (Bool × Bool × Unit) :=
bK (decide (v.1 = ([97, 108, 112, 104, 97] : List UInt8)))
 (bK v0.1
  (some (true, true, ()))
  (some (v0.2.1, true, ())))
 (bK (decide (v.1 = ([100, 105, 103, 105, 116] : List UInt8)))
  (some (v0.2.2.1, true, ()))
  (bK (decide (v.1 = ([117, 112, 112, 101, 114] : List UInt8)))
   (some (v0.2.1, true, ()))
   (bK (decide (v.1 = ([108, 111, 119, 101, 114] : List UInt8)))
    (some (v0.1, true, ()))
    (bK (decide (v.1 = ([97, 108, 110, 117, 109] : List UInt8)))
     (bK v0.1
      (some (true, true, ()))
      (bK v0.2.1
       (some (true, true, ()))
       (some (v0.2.2.1, true, ()))))
     (bK (decide (v.1 = ([115, 112, 97, 99, 101] : List UInt8)))
      (bK (!(decide (v.2.1 < 9)))
       (bK (!(decide (13 < v.2.1)))
        (some (true, true, ()))
        (some (decide (v.2.1 = 32), true, ())))
       (some (decide (v.2.1 = 32), true, ())))
      (some (false, false, ())))))))
noncomputable def L_glob_Class : FuncId → Nat → Option Shape := fun _ _ => none
noncomputable def J_glob_Class : FuncId → Nat → Option Shape := fun f i => match f, i with
    | 73, 2 => some ⟨[(.tmp 6, .bool), (.tmp 7, .bool), (.tmp 8, .bool)], [9, 10, 11, 12, 13, 14, 15, 16, 17, 18, 19, 20, 21, 22, 23, 24, 25, 26]⟩
    | _, _ => none
@[reducible] noncomputable def X_glob_Class : TX := ⟨cfgX, A, lay, dec, wd, tab7, L_glob_Class, J_glob_Class⟩
noncomputable def glob_Class (v : (List UInt8) × Int × Unit) : Option (Bool × Bool × Unit) :=
bK (!(decide (v.2.1 < 97)))
 (bK (!(decide (v.2.1 < 65)))
  (bK (!(decide (v.2.1 < 48)))
   (joinB (box (glob_Class_j0 v)) (!(decide (122 < v.2.1)), !(decide (90 < v.2.1)), !(decide (57 < v.2.1)), ()))
   (joinB (box (glob_Class_j0 v)) (!(decide (122 < v.2.1)), !(decide (90 < v.2.1)), false, ())))
  (bK (!(decide (v.2.1 < 48)))
   (joinB (box (glob_Class_j0 v)) (!(decide (122 < v.2.1)), false, !(decide (57 < v.2.1)), ()))
   (joinB (box (glob_Class_j0 v)) (!(decide (122 < v.2.1)), false, false, ()))))
 (bK (!(decide (v.2.1 < 65)))
  (bK (!(decide (v.2.1 < 48)))
   (joinB (box (glob_Class_j0 v)) (false, !(decide (90 < v.2.1)), !(decide (57 < v.2.1)), ()))
   (joinB (box (glob_Class_j0 v)) (false, !(decide (90 < v.2.1)), false, ())))
  (bK (!(decide (v.2.1 < 48)))
   (joinB (box (glob_Class_j0 v)) (false, false, !(decide (57 < v.2.1)), ()))
   (joinB (box (glob_Class_j0 v)) (false, false, false, ()))))
noncomputable def tab8 (g : FuncId) : List (Entry A) := if g = 73 then [⟨[(.tmp 0, .str), (.tmp 1, .int .u8)], 0, [(.tmp 0, .bool), (.tmp 1, .bool)], glob_Class⟩] else tab7 g
/-! 72 patchwork/glob.Named -/
noncomputable def glob_Named_j0 (v : (List UInt8) × Int × Unit) (r1 : (List UInt8) × (List UInt8) × Bool × Unit) (v3 : Bool × Unit) : Option ((List UInt8) × Int × Unit) :=
bK v3.1
 (some (([] : List UInt8), (-1), ()))
 (some (r1.1, IntKind.wrap .i64 ((IntKind.wrap .i64 (v.2.1 + (len r1.1))) + 4), ()))
noncomputable def L_glob_Named : FuncId → Nat → Option Shape := fun _ _ => none
noncomputable def J_glob_Named : FuncId → Nat → Option Shape := fun f i => match f, i with
    | 72, 6 => some ⟨[(.tmp 35, .bool)], [30, 31, 32, 33, 34]⟩
    | _, _ => none
@[reducible] noncomputable def X_glob_Named : TX := ⟨cfgX, A, lay, dec, wd, tab8, L_glob_Named, J_glob_Named⟩
noncomputable def glob_Named (v : (List UInt8) × Int × Unit) : Option ((List UInt8) × Int × Unit) :=
bK (okSl v.2.1 (len v.1) (len v.1))
 (oK (strings_HasPrefix ((slc v.1 v.2.1 (len v.1)), ([91, 58] : List UInt8), ())) fun r0 =>
 bK (!r0.1)
  (some (([] : List UInt8), (-1), ()))
  (bK (okSl (IntKind.wrap .i64 (v.2.1 + 2)) (len v.1) (len v.1))
   (oK (strings_Cut ((slc v.1 (IntKind.wrap .i64 (v.2.1 + 2)) (len v.1)), ([58, 93] : List UInt8), ())) fun r1 =>
   oK (glob_Class (r1.1, 0, ())) fun r2 =>
   bK (!r1.2.2.1)
    (joinB (box (glob_Named_j0 v r1)) (true, ()))
    (joinB (box (glob_Named_j0 v r1)) (!r2.2.1, ())))
   (none)))
 (none)
noncomputable def tab9 (g : FuncId) : List (Entry A) := if g = 72 then [⟨[(.tmp 0, .str), (.tmp 1, .int .i64)], 0, [(.tmp 0, .str), (.tmp 1, .int .i64)], glob_Named⟩] else tab8 g
/-! 62 (*patchwork/ere.parser).set -/
noncomputable def ere_parser_set_l0 (rec2 : (Int × (Int × Int × Int × Int × Int × Unit × Int × Int × Unit) × Unit) → Option (Unit × ((List UInt8) × Int × (Option EreWrong) × Unit) × Node × Unit)) (r6 : (List UInt8) × Int × Unit) (rec7 : (Int × (Int × Int × Int × Int × Int × Unit × Int × Int × Unit) × Unit) → Option (Unit × ((List UInt8) × Int × (Option EreWrong) × Unit) × Node × Unit)) (v8 : Int × (Int × Int × Int × Int × Int × Unit × Int × Int × Unit) × Unit) : Option (Unit × ((List UInt8) × Int × (Option EreWrong) × Unit) × Node × Unit) :=
bK (decide (v8.1 < 256))
 (oK (glob_Class (r6.1, IntKind.wrap .u8 (v8.1), ())) fun r9 =>
 bK r9.1
  (bK (inR (IntKind.wrap .u8 (Int.tdiv (IntKind.wrap .u8 (v8.1)) 64)) 4)
   (bK (decide (Int.tmod (IntKind.wrap .u8 (v8.1)) 64 < 0))
    (none)
    (bK (inR (IntKind.wrap .u8 (Int.tdiv (IntKind.wrap .u8 (v8.1)) 64)) 4)
     (rec7 (IntKind.wrap .i64 (v8.1 + 1), (v8.2.1.1, nth (setN [v8.2.1.2.1, v8.2.1.2.2.1, v8.2.1.2.2.2.1, v8.2.1.2.2.2.2.1] (IntKind.wrap .u8 (Int.tdiv (IntKind.wrap .u8 (v8.1)) 64)) (IntKind.wrap .u64 ((BitVec.ofInt (IntKind.bits .u64) (nth [v8.2.1.2.1, v8.2.1.2.2.1, v8.2.1.2.2.2.1, v8.2.1.2.2.2.2.1] (IntKind.wrap .u8 (Int.tdiv (IntKind.wrap .u8 (v8.1)) 64)))) ||| (BitVec.ofInt (IntKind.bits .u64) (IntKind.wrap .u64 (1 * 2 ^ (min (Int.tmod (IntKind.wrap .u8 (v8.1)) 64).toNat (IntKind.bits .u64)))))).toNat)) 0, nth (setN [v8.2.1.2.1, v8.2.1.2.2.1, v8.2.1.2.2.2.1, v8.2.1.2.2.2.2.1] (IntKind.wrap .u8 (Int.tdiv (IntKind.wrap .u8 (v8.1)) 64)) (IntKind.wrap .u64 ((BitVec.ofInt (IntKind.bits .u64) (nth [v8.2.1.2.1, v8.2.1.2.2.1, v8.2.1.2.2.2.1, v8.2.1.2.2.2.2.1] (IntKind.wrap .u8 (Int.tdiv (IntKind.wrap .u8 (v8.1)) 64)))) ||| (BitVec.ofInt (IntKind.bits .u64) (IntKind.wrap .u64 (1 * 2 ^ (min (Int.tmod (IntKind.wrap .u8 (v8.1)) 64).toNat (IntKind.bits .u64)))))).toNat)) 1, nth (setN [v8.2.1.2.1, v8.2.1.2.2.1, v8.2.1.2.2.2.1, v8.2.1.2.2.2.2.1] (IntKind.wrap .u8 (Int.tdiv (IntKind.wrap .u8 (v8.1)) 64)) (IntKind.wrap .u64 ((BitVec.ofInt (IntKind.bits .u64) (nth [v8.2.1.2.1, v8.2.1.2.2.1, v8.2.1.2.2.2.1, v8.2.1.2.2.2.2.1] (IntKind.wrap .u8 (Int.tdiv (IntKind.wrap .u8 (v8.1)) 64)))) ||| (BitVec.ofInt (IntKind.bits .u64) (IntKind.wrap .u64 (1 * 2 ^ (min (Int.tmod (IntKind.wrap .u8 (v8.1)) 64).toNat (IntKind.bits .u64)))))).toNat)) 2, nth (setN [v8.2.1.2.1, v8.2.1.2.2.1, v8.2.1.2.2.2.1, v8.2.1.2.2.2.2.1] (IntKind.wrap .u8 (Int.tdiv (IntKind.wrap .u8 (v8.1)) 64)) (IntKind.wrap .u64 ((BitVec.ofInt (IntKind.bits .u64) (nth [v8.2.1.2.1, v8.2.1.2.2.1, v8.2.1.2.2.2.1, v8.2.1.2.2.2.2.1] (IntKind.wrap .u8 (Int.tdiv (IntKind.wrap .u8 (v8.1)) 64)))) ||| (BitVec.ofInt (IntKind.bits .u64) (IntKind.wrap .u64 (1 * 2 ^ (min (Int.tmod (IntKind.wrap .u8 (v8.1)) 64).toNat (IntKind.bits .u64)))))).toNat)) 3, (), v8.2.1.2.2.2.2.2.2.1, v8.2.1.2.2.2.2.2.2.2.1, ()), ()))
     (none)))
   (none))
  (rec7 (IntKind.wrap .i64 (v8.1 + 1), (v8.2.1.1, v8.2.1.2.1, v8.2.1.2.2.1, v8.2.1.2.2.2.1, v8.2.1.2.2.2.2.1, (), v8.2.1.2.2.2.2.2.2.1, v8.2.1.2.2.2.2.2.2.2.1, ()), ())))
 (rec2 (r6.2.1, (v8.2.1.1, v8.2.1.2.1, v8.2.1.2.2.1, v8.2.1.2.2.2.1, v8.2.1.2.2.2.2.1, (), v8.2.1.2.2.2.2.2.2.1, v8.2.1.2.2.2.2.2.2.2.1, ()), ()))
noncomputable def ere_parser_set_l1 (rec2 : (Int × (Int × Int × Int × Int × Int × Unit × Int × Int × Unit) × Unit) → Option (Unit × ((List UInt8) × Int × (Option EreWrong) × Unit) × Node × Unit)) (v12 : Int × Int × Unit) (rec13 : (Int × (Int × Int × Int × Int × Int × Unit × Int × Int × Unit) × Unit) → Option (Unit × ((List UInt8) × Int × (Option EreWrong) × Unit) × Node × Unit)) (v14 : Int × (Int × Int × Int × Int × Int × Unit × Int × Int × Unit) × Unit) : Option (Unit × ((List UInt8) × Int × (Option EreWrong) × Unit) × Node × Unit) :=
bK (!(decide (IntKind.wrap .i64 (v12.1) < v14.1)))
 (bK (inR (IntKind.wrap .u8 (Int.tdiv (IntKind.wrap .u8 (v14.1)) 64)) 4)
  (bK (decide (Int.tmod (IntKind.wrap .u8 (v14.1)) 64 < 0))
   (none)
   (bK (inR (IntKind.wrap .u8 (Int.tdiv (IntKind.wrap .u8 (v14.1)) 64)) 4)
    (rec13 (IntKind.wrap .i64 (v14.1 + 1), (v14.2.1.1, nth (setN [v14.2.1.2.1, v14.2.1.2.2.1, v14.2.1.2.2.2.1, v14.2.1.2.2.2.2.1] (IntKind.wrap .u8 (Int.tdiv (IntKind.wrap .u8 (v14.1)) 64)) (IntKind.wrap .u64 ((BitVec.ofInt (IntKind.bits .u64) (nth [v14.2.1.2.1, v14.2.1.2.2.1, v14.2.1.2.2.2.1, v14.2.1.2.2.2.2.1] (IntKind.wrap .u8 (Int.tdiv (IntKind.wrap .u8 (v14.1)) 64)))) ||| (BitVec.ofInt (IntKind.bits .u64) (IntKind.wrap .u64 (1 * 2 ^ (min (Int.tmod (IntKind.wrap .u8 (v14.1)) 64).toNat (IntKind.bits .u64)))))).toNat)) 0, nth (setN [v14.2.1.2.1, v14.2.1.2.2.1, v14.2.1.2.2.2.1, v14.2.1.2.2.2.2.1] (IntKind.wrap .u8 (Int.tdiv (IntKind.wrap .u8 (v14.1)) 64)) (IntKind.wrap .u64 ((BitVec.ofInt (IntKind.bits .u64) (nth [v14.2.1.2.1, v14.2.1.2.2.1, v14.2.1.2.2.2.1, v14.2.1.2.2.2.2.1] (IntKind.wrap .u8 (Int.tdiv (IntKind.wrap .u8 (v14.1)) 64)))) ||| (BitVec.ofInt (IntKind.bits .u64) (IntKind.wrap .u64 (1 * 2 ^ (min (Int.tmod (IntKind.wrap .u8 (v14.1)) 64).toNat (IntKind.bits .u64)))))).toNat)) 1, nth (setN [v14.2.1.2.1, v14.2.1.2.2.1, v14.2.1.2.2.2.1, v14.2.1.2.2.2.2.1] (IntKind.wrap .u8 (Int.tdiv (IntKind.wrap .u8 (v14.1)) 64)) (IntKind.wrap .u64 ((BitVec.ofInt (IntKind.bits .u64) (nth [v14.2.1.2.1, v14.2.1.2.2.1, v14.2.1.2.2.2.1, v14.2.1.2.2.2.2.1] (IntKind.wrap .u8 (Int.tdiv (IntKind.wrap .u8 (v14.1)) 64)))) ||| (BitVec.ofInt (IntKind.bits .u64) (IntKind.wrap .u64 (1 * 2 ^ (min (Int.tmod (IntKind.wrap .u8 (v14.1)) 64).toNat (IntKind.bits .u64)))))).toNat)) 2, nth (setN [v14.2.1.2.1, v14.2.1.2.2.1, v14.2.1.2.2.2.1, v14.2.1.2.2.2.2.1] (IntKind.wrap .u8 (Int.tdiv (IntKind.wrap .u8 (v14.1)) 64)) (IntKind.wrap .u64 ((BitVec.ofInt (IntKind.bits .u64) (nth [v14.2.1.2.1, v14.2.1.2.2.1, v14.2.1.2.2.2.1, v14.2.1.2.2.2.2.1] (IntKind.wrap .u8 (Int.tdiv (IntKind.wrap .u8 (v14.1)) 64)))) ||| (BitVec.ofInt (IntKind.bits .u64) (IntKind.wrap .u64 (1 * 2 ^ (min (Int.tmod (IntKind.wrap .u8 (v14.1)) 64).toNat (IntKind.bits .u64)))))).toNat)) 3, (), v14.2.1.2.2.2.2.2.2.1, v14.2.1.2.2.2.2.2.2.2.1, ()), ()))
    (none)))
  (none))
 (rec2 (v12.2.1, (v14.2.1.1, v14.2.1.2.1, v14.2.1.2.2.1, v14.2.1.2.2.2.1, v14.2.1.2.2.2.2.1, (), v14.2.1.2.2.2.2.2.2.1, v14.2.1.2.2.2.2.2.2.2.1, ()), ()))
noncomputable def ere_parser_set_j2 (rec2 : (Int × (Int × Int × Int × Int × Int × Unit × Int × Int × Unit) × Unit) → Option (Unit × ((List UInt8) × Int × (Option EreWrong) × Unit) × Node × Unit)) (v3 : Int × (Int × Int × Int × Int × Int × Unit × Int × Int × Unit) × Unit) (b10 : UInt8) (k : Nat) (v12 : Int × Int × Unit) : Option (Unit × ((List UInt8) × Int × (Option EreWrong) × Unit) × Node × Unit) :=
fixN (ere_parser_set_l1 rec2 v12) k (IntKind.wrap .i64 ((b10.toNat : Int)), (v3.2.1.1, v3.2.1.2.1, v3.2.1.2.2.1, v3.2.1.2.2.2.1, v3.2.1.2.2.2.2.1, (), v3.2.1.2.2.2.2.2.2.1, v3.2.1.2.2.2.2.2.2.2.1, ()), ())
noncomputable def ere_parser_set_j3 (v : Unit × ((List UInt8) × Int × (Option EreWrong) × Unit) × Unit) (rec2 : (Int × (Int × Int × Int × Int × Int × Unit × Int × Int × Unit) × Unit) → Option (Unit × ((List UInt8) × Int × (Option EreWrong) × Unit) × Node × Unit)) (v3 : Int × (Int × Int × Int × Int × Int × Unit × Int × Int × Unit) × Unit) (b10 : UInt8) (b11 : UInt8) (k : Nat) (v15 : Bool × Unit) : Option (Unit × ((List UInt8) × Int × (Option EreWrong) × Unit) × Node × Unit) :=
bK v15.1
 (oK (glob_Named (v.2.1.1, IntKind.wrap .i64 ((IntKind.wrap .i64 (v3.1 + 1)) + 1), ())) fun r16 =>
 bK (decide (r16.2.1 < 0))
  (oK (idx v.2.1.1 (IntKind.wrap .i64 ((IntKind.wrap .i64 (v3.1 + 1)) + 1))) fun b17 =>
  joinB (box (ere_parser_set_j2 rec2 v3 b10 k)) ((b17.toNat : Int), IntKind.wrap .i64 ((IntKind.wrap .i64 (v3.1 + 1)) + 2), ()))
  (joinB (box (ere_parser_set_j2 rec2 v3 b10 k)) ((b11.toNat : Int), IntKind.wrap .i64 (v3.1 + 1), ())))
 (joinB (box (ere_parser_set_j2 rec2 v3 b10 k)) ((b11.toNat : Int), IntKind.wrap .i64 (v3.1 + 1), ()))
noncomputable def ere_parser_set_j4 (v : Unit × ((List UInt8) × Int × (Option EreWrong) × Unit) × Unit) (v0 : Bool × Unit) (rec2 : (Int × (Int × Int × Int × Int × Int × Unit × Int × Int × Unit) × Unit) → Option (Unit × ((List UInt8) × Int × (Option EreWrong) × Unit) × Node × Unit)) (v3 : Int × (Int × Int × Int × Int × Int × Unit × Int × Int × Unit) × Unit) (k : Nat) (v4 : Bool × Unit) : Option (Unit × ((List UInt8) × Int × (Option EreWrong) × Unit) × Node × Unit) :=
bK v4.1
 (bK v0.1
  (oK (ere_others ((v3.2.1.2.1, v3.2.1.2.2.1, v3.2.1.2.2.2.1, v3.2.1.2.2.2.2.1, ()), ())) fun r5 =>
  some ((), (v.2.1.1, IntKind.wrap .i64 (v3.1 + 1), v.2.1.2.2.1, ()), (Node.mk v3.2.1.1 r5.1.1 r5.1.2.1 r5.1.2.2.1 r5.1.2.2.2.1 [] v3.2.1.2.2.2.2.2.2.1 v3.2.1.2.2.2.2.2.2.2.1), ()))
  (some ((), (v.2.1.1, IntKind.wrap .i64 (v3.1 + 1), v.2.1.2.2.1, ()), (Node.mk v3.2.1.1 v3.2.1.2.1 v3.2.1.2.2.1 v3.2.1.2.2.2.1 v3.2.1.2.2.2.2.1 [] v3.2.1.2.2.2.2.2.2.1 v3.2.1.2.2.2.2.2.2.2.1), ())))
 (oK (glob_Named (v.2.1.1, v3.1, ())) fun r6 =>
 bK (!(decide (r6.2.1 < 0)))
  (fixN (ere_parser_set_l0 rec2 r6) k (0, (v3.2.1.1, v3.2.1.2.1, v3.2.1.2.2.1, v3.2.1.2.2.2.1, v3.2.1.2.2.2.2.1, (), v3.2.1.2.2.2.2.2.2.1, v3.2.1.2.2.2.2.2.2.2.1, ()), ()))
  (oK (idx v.2.1.1 v3.1) fun b10 =>
  oK (idx v.2.1.1 v3.1) fun b11 =>
  bK (decide (IntKind.wrap .i64 ((IntKind.wrap .i64 (v3.1 + 1)) + 1) < len v.2.1.1))
   (oK (idx v.2.1.1 (IntKind.wrap .i64 (v3.1 + 1))) fun b18 =>
   bK (decide ((b18.toNat : Int) = 45))
    (oK (idx v.2.1.1 (IntKind.wrap .i64 ((IntKind.wrap .i64 (v3.1 + 1)) + 1))) fun b19 =>
    joinB (box (ere_parser_set_j3 v rec2 v3 b10 b11 k)) (!(decide ((b19.toNat : Int) = 93)), ()))
    (joinB (box (ere_parser_set_j3 v rec2 v3 b10 b11 k)) (false, ())))
   (joinB (box (ere_parser_set_j3 v rec2 v3 b10 b11 k)) (false, ()))))
noncomputable def ere_parser_set_l5 (v : Unit × ((List UInt8) × Int × (Option EreWrong) × Unit) × Unit) (v0 : Bool × Unit) (v1 : Int × Unit) (k : Nat) (rec2 : (Int × (Int × Int × Int × Int × Int × Unit × Int × Int × Unit) × Unit) → Option (Unit × ((List UInt8) × Int × (Option EreWrong) × Unit) × Node × Unit)) (v3 : Int × (Int × Int × Int × Int × Int × Unit × Int × Int × Unit) × Unit) : Option (Unit × ((List UInt8) × Int × (Option EreWrong) × Unit) × Node × Unit) :=
bK (decide (v3.1 < len v.2.1.1))
 (oK (idx v.2.1.1 v3.1) fun b20 =>
 bK (decide ((b20.toNat : Int) = 93))
  (joinB (box (ere_parser_set_j4 v v0 rec2 v3 k)) (decide (v1.1 < v3.1), ()))
  (joinB (box (ere_parser_set_j4 v v0 rec2 v3 k)) (false, ())))
 (oK (ere_parser_fail ((), (v.2.1.1, v.2.1.2.1, v.2.1.2.2.1, ()), v.2.1.2.1, 2, ())) fun r21 =>
 some ((), (r21.2.1.1, r21.2.1.2.1, r21.2.1.2.2.1, ()), (Node.mk 0 0 0 0 0 [] 0 0), ()))
noncomputable def ere_parser_set_j6 (v : Unit × ((List UInt8) × Int × (Option EreWrong) × Unit) × Unit) (v0 : Bool × Unit) (k : Nat) (v1 : Int × Unit) : Option (Unit × ((List UInt8) × Int × (Option EreWrong) × Unit) × Node × Unit) :=
fixN (ere_parser_set_l5 v v0 v1 k) k (v1.1, (2, 0, 0, 0, 0, (), 0, 0, ()), ())
noncomputable def ere_parser_set_j7 (v : Unit × ((List UInt8) × Int × (Option EreWrong) × Unit) × Unit) (k : Nat) (v0 : Bool × Unit) : Option (Unit × ((List UInt8) × Int × (Option EreWrong) × Unit) × Node × Unit) :=
bK v0.1
 (joinB (box (ere_parser_set_j6 v v0 k)) (IntKind.wrap .i64 ((IntKind.wrap .i64 (v.2.1.2.1 + 1)) + 1), ()))
 (joinB (box (ere_parser_set_j6 v v0 k)) (IntKind.wrap .i64 (v.2.1.2.1 + 1), ()))
noncomputable def L_ere_parser_set : FuncId → Nat → Option Shape := fun f i => match f, i with
    | 62, 31 => some ⟨[(.tmp 17, .int .i64), (.loc 2, .agg [.int .i64, .int .u64, .int .u64, .int .u64, .int .u64, .nils, .int .i64, .int .i64])], [134, 135, 136, 137, 140, 141, 142, 143, 138, 139]⟩
    | 62, 16 => some ⟨[(.tmp 74, .int .i64), (.loc 2, .agg [.int .i64, .int .u64, .int .u64, .int .u64, .int .u64, .nils, .int .i64, .int .i64])], [75, 76, 10, 78, 79, 80, 81, 77, 82, 83, 11, 12, 84, 85, 86, 87, 88, 89]⟩
    | 62, 7 => some ⟨[(.tmp 4, .int .i64), (.loc 2, .agg [.int .i64, .int .u64, .int .u64, .int .u64, .int .u64, .nils, .int .i64, .int .i64])], [42, 43, 44, 45, 46, 47, 48, 49, 50, 51, 52, 53, 54, 55, 56, 57, 58, 59, 60, 61, 62, 63, 64, 65, 67, 68, 69, 66, 70, 71, 8, 9, 72, 73, 74, 75, 76, 10, 78, 79, 80, 81, 77, 82, 83, 11, 12, 84, 85, 86, 87, 88, 89, 90, 91, 92, 93, 94, 95, 96, 13, 14, 97, 98, 99, 100, 101, 102, 103, 104, 105, 106, 107, 108, 109, 110, 111, 112, 113, 114, 115, 116, 118, 119, 120, 121, 117, 122, 123, 15, 16, 124, 125, 126, 127, 128, 129, 130, 131, 132, 133, 17, 134, 135, 136, 137, 140, 141, 142, 143, 138, 139]⟩
    | _, _ => none
noncomputable def J_ere_parser_set : FuncId → Nat → Option Shape := fun f i => match f, i with
    | 62, 30 => some ⟨[(.tmp 14, .int .u8), (.tmp 4, .int .i64)], [99, 100, 101, 102, 103, 104, 105, 106, 107, 108, 109, 110, 111, 112, 113, 114, 115, 116, 118, 119, 120, 121, 117, 122, 123, 15, 16, 124, 125, 126, 127, 128, 129, 130, 131]⟩
    | 62, 26 => some ⟨[(.tmp 116, .bool)], [99, 100, 101, 102, 103, 104, 105, 106, 107, 108, 109, 110, 111, 112, 113, 114, 115]⟩
    | 62, 9 => some ⟨[(.tmp 54, .bool)], [46, 47, 48, 49, 50, 51, 52, 53]⟩
    | 62, 6 => some ⟨[(.tmp 4, .int .i64)], [38, 39, 40]⟩
    | 62, 4 => some ⟨[(.tmp 6, .bool)], [28, 29, 30, 31, 32, 33, 34, 35, 36, 37]⟩
    | _, _ => none
@[reducible] noncomputable def X_ere_parser_set : TX := ⟨cfgX, A, lay, dec, wd, tab9, L_ere_parser_set, J_ere_parser_set⟩
noncomputable def ere_parser_set_k (k : Nat) (v : Unit × ((List UInt8) × Int × (Option EreWrong) × Unit) × Unit) : Option (Unit × ((List UInt8) × Int × (Option EreWrong) × Unit) × Node × Unit) :=
bK (decide (IntKind.wrap .i64 (v.2.1.2.1 + 1) < len v.2.1.1))
 (oK (idx v.2.1.1 (IntKind.wrap .i64 (v.2.1.2.1 + 1))) fun b22 =>
 joinB (box (ere_parser_set_j7 v k)) (decide ((b22.toNat : Int) = 94), ()))
 (joinB (box (ere_parser_set_j7 v k)) (false, ()))
noncomputable def ere_parser_set (v : Unit × ((List UInt8) × Int × (Option EreWrong) × Unit) × Unit) : Option (Unit × ((List UInt8) × Int × (Option EreWrong) × Unit) × Node × Unit) := ere_parser_set_k kBig v
noncomputable def tab10 (g : FuncId) : List (Entry A) := if g = 62 then [⟨[(.tmp 0, .ptr 0 0), (.new 0, .agg [.str, .int .i64, .optp 70])], 1, [(.tmp 0, .ptr 0 0), (.new 0, .agg [.str, .int .i64, .optp 70]), (.tmp 1, .sct 27)], ere_parser_set⟩] else tab9 g
/-! 65 patchwork/ere.single -/
noncomputable def L_ere_single : FuncId → Nat → Option Shape := fun _ _ => none
noncomputable def J_ere_single : FuncId → Nat → Option Shape := fun _ _ => none
@[reducible] noncomputable def X_ere_single : TX := ⟨cfgX, A, lay, dec, wd, tab10, L_ere_single, J_ere_single⟩
noncomputable def ere_single (v : Int × Unit) : Option (Node × Unit) :=
bK (inR (IntKind.wrap .u8 (Int.tdiv v.1 64)) 4)
 (bK (decide (Int.tmod v.1 64 < 0))
  (none)
  (bK (inR (IntKind.wrap .u8 (Int.tdiv v.1 64)) 4)
   (some ((Node.mk 2 (nth (setN [0, 0, 0, 0] (IntKind.wrap .u8 (Int.tdiv v.1 64)) (IntKind.wrap .u64 ((BitVec.ofInt (IntKind.bits .u64) (nth [0, 0, 0, 0] (IntKind.wrap .u8 (Int.tdiv v.1 64)))) ||| (BitVec.ofInt (IntKind.bits .u64) (IntKind.wrap .u64 (1 * 2 ^ (min (Int.tmod v.1 64).toNat (IntKind.bits .u64)))))).toNat)) 0) (nth (setN [0, 0, 0, 0] (IntKind.wrap .u8 (Int.tdiv v.1 64)) (IntKind.wrap .u64 ((BitVec.ofInt (IntKind.bits .u64) (nth [0, 0, 0, 0] (IntKind.wrap .u8 (Int.tdiv v.1 64)))) ||| (BitVec.ofInt (IntKind.bits .u64) (IntKind.wrap .u64 (1 * 2 ^ (min (Int.tmod v.1 64).toNat (IntKind.bits .u64)))))).toNat)) 1) (nth (setN [0, 0, 0, 0] (IntKind.wrap .u8 (Int.tdiv v.1 64)) (IntKind.wrap .u64 ((BitVec.ofInt (IntKind.bits .u64) (nth [0, 0, 0, 0] (IntKind.wrap .u8 (Int.tdiv v.1 64)))) ||| (BitVec.ofInt (IntKind.bits .u64) (IntKind.wrap .u64 (1 * 2 ^ (min (Int.tmod v.1 64).toNat (IntKind.bits .u64)))))).toNat)) 2) (nth (setN [0, 0, 0, 0] (IntKind.wrap .u8 (Int.tdiv v.1 64)) (IntKind.wrap .u64 ((BitVec.ofInt (IntKind.bits .u64) (nth [0, 0, 0, 0] (IntKind.wrap .u8 (Int.tdiv v.1 64)))) ||| (BitVec.ofInt (IntKind.bits .u64) (IntKind.wrap .u64 (1 * 2 ^ (min (Int.tmod v.1 64).toNat (IntKind.bits .u64)))))).toNat)) 3) [] 0 0), ()))
   (none)))
 (none)
noncomputable def tab11 (g : FuncId) : List (Entry A) := if g = 65 then [⟨[(.tmp 0, .int .u8)], 0, [(.tmp 0, .sct 27)], ere_single⟩] else tab10 g
/-! 66 (*patchwork/ere.parser).number -/
noncomputable def ere_parser_number_j0 (v : Unit × ((List UInt8) × Int × (Option EreWrong) × Unit) × Int × Unit) (v0 : Int × Int × Unit) : Option (Unit × ((List UInt8) × Int × (Option EreWrong) × Unit) × Int × Int × Bool × Unit) :=
bK (decide (v.2.2.1 < v0.2.1))
 (bK (!(decide (IntKind.wrap .i64 (v.2.2.1 + 3) < v0.2.1)))
  (some ((), (v.2.1.1, v.2.1.2.1, v.2.1.2.2.1, ()), v0.1, v0.2.1, !(decide (200 < v0.1)), ()))
  (some ((), (v.2.1.1, v.2.1.2.1, v.2.1.2.2.1, ()), v0.1, v0.2.1, false, ())))
 (some ((), (v.2.1.1, v.2.1.2.1, v.2.1.2.2.1, ()), v0.1, v0.2.1, false, ()))
noncomputable def ere_parser_number_l1 (v : Unit × ((List UInt8) × Int × (Option EreWrong) × Unit) × Int × Unit) (rec1 : (Int × Int × Unit) → Option (Unit × ((List UInt8) × Int × (Option EreWrong) × Unit) × Int × Int × Bool × Unit)) (v2 : Int × Int × Unit) : Option (Unit × ((List UInt8) × Int × (Option EreWrong) × Unit) × Int × Int × Bool × Unit) :=
bK (decide (v2.2.1 < len v.2.1.1))
 (oK (idx v.2.1.1 v2.2.1) fun b3 =>
 bK (!(decide ((b3.toNat : Int) < 48)))
  (oK (idx v.2.1.1 v2.2.1) fun b4 =>
  bK (!(decide (57 < (b4.toNat : Int))))
   (bK (decide (v2.2.1 < IntKind.wrap .i64 ((IntKind.wrap .i64 (v.2.2.1 + 3)) + 1)))
    (oK (idx v.2.1.1 v2.2.1) fun b5 =>
    rec1 (IntKind.wrap .i64 ((IntKind.wrap .i64 (v2.1 * 10)) + (IntKind.wrap .i64 (IntKind.wrap .u8 ((b5.toNat : Int) - 48)))), IntKind.wrap .i64 (v2.2.1 + 1), ()))
    (joinB (box (ere_parser_number_j0 v)) (v2.1, v2.2.1, ())))
   (joinB (box (ere_parser_number_j0 v)) (v2.1, v2.2.1, ())))
  (joinB (box (ere_parser_number_j0 v)) (v2.1, v2.2.1, ())))
 (joinB (box (ere_parser_number_j0 v)) (v2.1, v2.2.1, ()))
noncomputable def L_ere_parser_number : FuncId → Nat → Option Shape := fun f i => match f, i with
    | 66, 2 => some ⟨[(.tmp 7, .int .i64), (.tmp 8, .int .i64)], [10, 11, 12, 13, 14, 15, 16, 17, 18, 19, 20, 21, 22, 23, 24, 25, 26, 27, 28, 29, 30, 31, 32, 33, 34, 35, 36, 37, 38, 39, 40, 41, 42, 43, 44, 45, 46, 47, 48, 49, 50, 51, 52, 53, 54]⟩
    | _, _ => none
noncomputable def J_ere_parser_number : FuncId → Nat → Option Shape := fun f i => match f, i with
    | 66, 5 => some ⟨[(.tmp 7, .int .i64), (.tmp 8, .int .i64)], [10, 11, 12, 13, 14, 15, 16, 17, 18, 19, 20, 21, 22, 23, 24, 25, 26, 27, 28, 29, 30, 31, 32, 33, 34, 35, 36, 37, 38, 39, 40, 41, 42, 43, 44, 45, 46, 47, 48, 49, 50, 51, 52, 53, 54]⟩
    | _, _ => none
@[reducible] noncomputable def X_ere_parser_number : TX := ⟨cfgX, A, lay, dec, wd, tab11, L_ere_parser_number, J_ere_parser_number⟩
noncomputable def ere_parser_number_k (k : Nat) (v : Unit × ((List UInt8) × Int × (Option EreWrong) × Unit) × Int × Unit) : Option (Unit × ((List UInt8) × Int × (Option EreWrong) × Unit) × Int × Int × Bool × Unit) :=
fixN (ere_parser_number_l1 v) k (0, v.2.2.1, ())
noncomputable def ere_parser_number (v : Unit × ((List UInt8) × Int × (Option EreWrong) × Unit) × Int × Unit) : Option (Unit × ((List UInt8) × Int × (Option EreWrong) × Unit) × Int × Int × Bool × Unit) := ere_parser_number_k kBig v
noncomputable def tab12 (g : FuncId) : List (Entry A) := if g = 66 then [⟨[(.tmp 0, .ptr 0 0), (.new 0, .agg [.str, .int .i64, .optp 70]), (.tmp 1, .int .i64)], 1, [(.tmp 0, .ptr 0 0), (.new 0, .agg [.str, .int .i64, .optp 70]), (.tmp 1, .int .i64), (.tmp 2, .int .i64), (.tmp 3, .bool)], ere_parser_number⟩] else tab11 g
/-! 56 (*patchwork/ere.parser).times -/
noncomputable def ere_parser_times_j0 (r0 : Unit × ((List UInt8) × Int × (Option EreWrong) × Unit) × Int × Int × Bool × Unit) (v1 : Int × Int × Bool × ((List UInt8) × Int × (Option EreWrong) × Unit) × Unit) (v2 : Bool × Unit) : Option (Unit × ((List UInt8) × Int × (Option EreWrong) × Unit) × Int × Int × Unit) :=
bK v2.1
 (oK (ere_parser_fail ((), (v1.2.2.2.1.1, v1.2.2.2.1.2.1, v1.2.2.2.1.2.2.1, ()), v1.2.2.2.1.2.1, 2, ())) fun r3 =>
 some ((), (r3.2.1.1, r3.2.1.2.1, r3.2.1.2.2.1, ()), 0, 0, ()))
 (some ((), (v1.2.2.2.1.1, v1.1, v1.2.2.2.1.2.2.1, ()), r0.2.2.1, v1.2.1, ()))
noncomputable def ere_parser_times_j1 (r0 : Unit × ((List UInt8) × Int × (Option EreWrong) × Unit) × Int × Int × Bool × Unit) (v1 : Int × Int × Bool × ((List UInt8) × Int × (Option EreWrong) × Unit) × Unit) : Option (Unit × ((List UInt8) × Int × (Option EreWrong) × Unit) × Int × Int × Unit) :=
bK (!v1.2.2.1)
 (joinB (box (ere_parser_times_j0 r0 v1)) (true, ()))
 (bK (okSl v1.1 (len v1.2.2.2.1.1) (len v1.2.2.2.1.1))
  (oK (strings_HasPrefix ((slc v1.2.2.2.1.1 v1.1 (len v1.2.2.2.1.1)), ([125] : List UInt8), ())) fun r4 =>
  joinB (box (ere_parser_times_j0 r0 v1)) (!r4.1, ()))
  (none))
noncomputable def ere_parser_times_j2 (r0 : Unit × ((List UInt8) × Int × (Option EreWrong) × Unit) × Int × Int × Bool × Unit) (v5 : Bool × Unit) : Option (Unit × ((List UInt8) × Int × (Option EreWrong) × Unit) × Int × Int × Unit) :=
bK v5.1
 (bK (okSl (IntKind.wrap .i64 (r0.2.2.2.1 + 1)) (len r0.2.1.1) (len r0.2.1.1))
  (oK (strings_HasPrefix ((slc r0.2.1.1 (IntKind.wrap .i64 (r0.2.2.2.1 + 1)) (len r0.2.1.1)), ([125] : List UInt8), ())) fun r6 =>
  bK r6.1
   (joinB (box (ere_parser_times_j1 r0)) (IntKind.wrap .i64 (r0.2.2.2.1 + 1), (-1), r0.2.2.2.2.1, (r0.2.1.1, r0.2.1.2.1, r0.2.1.2.2.1, ()), ()))
   (oK (ere_parser_number ((), (r0.2.1.1, r0.2.1.2.1, r0.2.1.2.2.1, ()), IntKind.wrap .i64 (r0.2.2.2.1 + 1), ())) fun r7 =>
   bK r7.2.2.2.2.1
    (joinB (box (ere_parser_times_j1 r0)) (r7.2.2.2.1, r7.2.2.1, !(decide (r7.2.2.1 < r0.2.2.1)), (r7.2.1.1, r7.2.1.2.1, r7.2.1.2.2.1, ()), ()))
    (joinB (box (ere_parser_times_j1 r0)) (r7.2.2.2.1, r7.2.2.1, false, (r7.2.1.1, r7.2.1.2.1, r7.2.1.2.2.1, ()), ()))))
  (none))
 (joinB (box (ere_parser_times_j1 r0)) (r0.2.2.2.1, r0.2.2.1, r0.2.2.2.2.1, (r0.2.1.1, r0.2.1.2.1, r0.2.1.2.2.1, ()), ()))
noncomputable def L_ere_parser_times : FuncId → Nat → Option Shape := fun _ _ => none
noncomputable def J_ere_parser_times : FuncId → Nat → Option Shape := fun f i => match f, i with
    | 56, 10 => some ⟨[(.tmp 63, .bool)], [52, 53, 54, 55, 56, 57, 58, 59, 60, 61, 62]⟩
    | 56, 9 => some ⟨[(.tmp 5, .int .i64), (.tmp 7, .int .i64), (.tmp 6, .bool), (.loc 0, .agg [.str, .int .i64, .optp 70])], [20, 21, 22, 23, 24, 25, 26, 27, 28, 29, 30, 31, 32, 33, 34, 35, 36, 37, 38, 40, 41, 42, 39, 43, 44, 45, 46, 47, 48, 49, 50, 51]⟩
    | 56, 4 => some ⟨[(.tmp 29, .bool)], [20, 21, 22, 23, 24, 25, 26, 27, 28]⟩
    | _, _ => none
@[reducible] noncomputable def X_ere_parser_times : TX := ⟨cfgX, A, lay, dec, wd, tab12, L_ere_parser_times, J_ere_parser_times⟩
noncomputable def ere_parser_times (v : Unit × ((List UInt8) × Int × (Option EreWrong) × Unit) × Unit) : Option (Unit × ((List UInt8) × Int × (Option EreWrong) × Unit) × Int × Int × Unit) :=
oK (ere_parser_number ((), (v.2.1.1, v.2.1.2.1, v.2.1.2.2.1, ()), IntKind.wrap .i64 (v.2.1.2.1 + 1), ())) fun r0 =>
bK r0.2.2.2.2.1
 (bK (okSl r0.2.2.2.1 (len r0.2.1.1) (len r0.2.1.1))
  (oK (strings_HasPrefix ((slc r0.2.1.1 r0.2.2.2.1 (len r0.2.1.1)), ([44] : List UInt8), ())) fun r8 =>
  joinB (box (ere_parser_times_j2 r0)) (r8.1, ()))
  (none))
 (joinB (box (ere_parser_times_j2 r0)) (false, ()))
noncomputable def tab13 (g : FuncId) : List (Entry A) := if g = 56 then [⟨[(.tmp 0, .ptr 0 0), (.new 0, .agg [.str, .int .i64, .optp 70])], 1, [(.tmp 0, .ptr 0 0), (.new 0, .agg [.str, .int .i64, .optp 70]), (.tmp 1, .int .i64), (.tmp 2, .int .i64)], ere_parser_times⟩] else tab12 g
/-! 45 patchwork/ere.of -/
noncomputable def L_ere_of : FuncId → Nat → Option Shape := fun _ _ => none
noncomputable def J_ere_of : FuncId → Nat → Option Shape := fun _ _ => none
@[reducible] noncomputable def X_ere_of : TX := ⟨cfgX, A, lay, dec, wd, tab13, L_ere_of, J_ere_of⟩
noncomputable def ere_of (v : Int × (List Node) × Unit) : Option (Node × Unit) :=
bK (decide (len v.2.1 = 0))
 (some ((Node.mk 1 0 0 0 0 [] 0 0), ()))
 (bK (decide (len v.2.1 = 1))
  (oK (idx v.2.1 0) fun x0 =>
  some ((Node.mk x0.kind x0.set0 x0.set1 x0.set2 x0.set3 x0.kids x0.min x0.max), ()))
  (some ((Node.mk v.1 0 0 0 0 v.2.1 0 0), ())))
noncomputable def tab14 (g : FuncId) : List (Entry A) := if g = 45 then [⟨[(.tmp 0, .int .i64), (.tmp 1, .row 27 false)], 0, [(.tmp 0, .sct 27)], ere_of⟩] else tab13 g
/-! 63 (*patchwork/ere.parser).group -/
noncomputable def ere_parser_group_j0 (r1 : Unit × ((List UInt8) × Int × (Option EreWrong) × Unit) × Node × Unit) (v2 : ((List UInt8) × Int × (Option EreWrong) × Unit) × Unit) : Option (Unit × ((List UInt8) × Int × (Option EreWrong) × Unit) × Node × Unit) :=
some ((), (v2.1.1, IntKind.wrap .i64 (v2.1.2.1 + 1), v2.1.2.2.1, ()), (Node.mk r1.2.2.1.kind r1.2.2.1.set0 r1.2.2.1.set1 r1.2.2.1.set2 r1.2.2.1.set3 r1.2.2.1.kids r1.2.2.1.min r1.2.2.1.max), ())
noncomputable def L_ere_parser_group : FuncId → Nat → Option Shape := fun _ _ => none
noncomputable def J_ere_parser_group : FuncId → Nat → Option Shape := fun f i => match f, i with
    | 63, 8 => some ⟨[(.loc 0, .agg [.str, .int .i64, .optp 70])], [26, 27, 28, 29, 30, 31, 32, 33, 34]⟩
    | _, _ => none
@[reducible] noncomputable def X_ere_parser_group (r_ere_parser_group : (Unit × ((List UInt8) × Int × (Option EreWrong) × Unit) × Int × Unit) → Option (Unit × ((List UInt8) × Int × (Option EreWrong) × Unit) × Node × Unit)) (r_ere_parser_atom : (Unit × ((List UInt8) × Int × (Option EreWrong) × Unit) × Int × Unit) → Option (Unit × ((List UInt8) × Int × (Option EreWrong) × Unit) × Node × Unit)) (r_ere_parser_piece : (Unit × ((List UInt8) × Int × (Option EreWrong) × Unit) × Int × Unit) → Option (Unit × ((List UInt8) × Int × (Option EreWrong) × Unit) × Node × Unit)) (r_ere_parser_branch : (Unit × ((List UInt8) × Int × (Option EreWrong) × Unit) × Int × Unit) → Option (Unit × ((List UInt8) × Int × (Option EreWrong) × Unit) × Node × Unit)) (r_ere_parser_expression : (Unit × ((List UInt8) × Int × (Option EreWrong) × Unit) × Int × Unit) → Option (Unit × ((List UInt8) × Int × (Option EreWrong) × Unit) × Node × Unit)) : TX := ⟨cfgX, A, lay, dec, wd, fun g => if g = 63 then [⟨[(.tmp 0, .ptr 0 0), (.new 0, .agg [.str, .int .i64, .optp 70]), (.tmp 1, .int .i64)], 1, [(.tmp 0, .ptr 0 0), (.new 0, .agg [.str, .int .i64, .optp 70]), (.tmp 1, .sct 27)], r_ere_parser_group⟩] else if g = 55 then [⟨[(.tmp 0, .ptr 0 0), (.new 0, .agg [.str, .int .i64, .optp 70]), (.tmp 1, .int .i64)], 1, [(.tmp 0, .ptr 0 0), (.new 0, .agg [.str, .int .i64, .optp 70]), (.tmp 1, .sct 27)], r_ere_parser_atom⟩] else if g = 51 then [⟨[(.tmp 0, .ptr 0 0), (.new 0, .agg [.str, .int .i64, .optp 70]), (.tmp 1, .int .i64)], 1, [(.tmp 0, .ptr 0 0), (.new 0, .agg [.str, .int .i64, .optp 70]), (.tmp 1, .sct 27)], r_ere_parser_piece⟩] else if g = 43 then [⟨[(.tmp 0, .ptr 0 0), (.new 0, .agg [.str, .int .i64, .optp 70]), (.tmp 1, .int .i64)], 1, [(.tmp 0, .ptr 0 0), (.new 0, .agg [.str, .int .i64, .optp 70]), (.tmp 1, .sct 27)], r_ere_parser_branch⟩] else if g = 32 then [⟨[(.tmp 0, .ptr 0 0), (.new 0, .agg [.str, .int .i64, .optp 70]), (.tmp 1, .int .i64)], 1, [(.tmp 0, .ptr 0 0), (.new 0, .agg [.str, .int .i64, .optp 70]), (.tmp 1, .sct 27)], r_ere_parser_expression⟩] else tab14 g, L_ere_parser_group, J_ere_parser_group⟩
noncomputable def ere_parser_group_b (r_ere_parser_group : (Unit × ((List UInt8) × Int × (Option EreWrong) × Unit) × Int × Unit) → Option (Unit × ((List UInt8) × Int × (Option EreWrong) × Unit) × Node × Unit)) (r_ere_parser_atom : (Unit × ((List UInt8) × Int × (Option EreWrong) × Unit) × Int × Unit) → Option (Unit × ((List UInt8) × Int × (Option EreWrong) × Unit) × Node × Unit)) (r_ere_parser_piece : (Unit × ((List UInt8) × Int × (Option EreWrong) × Unit) × Int × Unit) → Option (Unit × ((List UInt8) × Int × (Option EreWrong) × Unit) × Node × Unit)) (r_ere_parser_branch : (Unit × ((List UInt8) × Int × (Option EreWrong) × Unit) × Int × Unit) → Option (Unit × ((List UInt8) × Int × (Option EreWrong) × Unit) × Node × Unit)) (r_ere_parser_expression : (Unit × ((List UInt8) × Int × (Option EreWrong) × Unit) × Int × Unit) → Option (Unit × ((List UInt8) × Int × (Option EreWrong) × Unit) × Node × Unit)) (k : Nat) (v : Unit × ((List UInt8) × Int × (Option EreWrong) × Unit) × Int × Unit) : Option (Unit × ((List UInt8) × Int × (Option EreWrong) × Unit) × Node × Unit) :=
bK (!(decide (v.2.2.1 < 30)))
 (oK (ere_parser_fail ((), (v.2.1.1, v.2.1.2.1, v.2.1.2.2.1, ()), v.2.1.2.1, 4, ())) fun r0 =>
 some ((), (r0.2.1.1, r0.2.1.2.1, r0.2.1.2.2.1, ()), (Node.mk 0 0 0 0 0 [] 0 0), ()))
 (oK (r_ere_parser_expression ((), (v.2.1.1, IntKind.wrap .i64 (v.2.1.2.1 + 1), v.2.1.2.2.1, ()), IntKind.wrap .i64 (v.2.2.1 + 1), ())) fun r1 =>
 oK (ere_parser_is ((), (r1.2.1.1, r1.2.1.2.1, r1.2.1.2.2.1, ()), ([41] : List UInt8), ())) fun r3 =>
 bK (!r3.2.2.1)
  (oK (ere_parser_fail ((), (r3.2.1.1, r3.2.1.2.1, r3.2.1.2.2.1, ()), r3.2.1.2.1, 2, ())) fun r4 =>
  joinB (box (ere_parser_group_j0 r1)) ((r4.2.1.1, r4.2.1.2.1, r4.2.1.2.2.1, ()), ()))
  (joinB (box (ere_parser_group_j0 r1)) ((r3.2.1.1, r3.2.1.2.1, r3.2.1.2.2.1, ()), ())))
/-! 55 (*patchwork/ere.parser).atom -/
noncomputable def L_ere_parser_atom : FuncId → Nat → Option Shape := fun _ _ => none
noncomputable def J_ere_parser_atom : FuncId → Nat → Option Shape := fun _ _ => none
@[reducible] noncomputable def X_ere_parser_atom (r_ere_parser_group : (Unit × ((List UInt8) × Int × (Option EreWrong) × Unit) × Int × Unit) → Option (Unit × ((List UInt8) × Int × (Option EreWrong) × Unit) × Node × Unit)) (r_ere_parser_atom : (Unit × ((List UInt8) × Int × (Option EreWrong) × Unit) × Int × Unit) → Option (Unit × ((List UInt8) × Int × (Option EreWrong) × Unit) × Node × Unit)) (r_ere_parser_piece : (Unit × ((List UInt8) × Int × (Option EreWrong) × Unit) × Int × Unit) → Option (Unit × ((List UInt8) × Int × (Option EreWrong) × Unit) × Node × Unit)) (r_ere_parser_branch : (Unit × ((List UInt8) × Int × (Option EreWrong) × Unit) × Int × Unit) → Option (Unit × ((List UInt8) × Int × (Option EreWrong) × Unit) × Node × Unit)) (r_ere_parser_expression : (Unit × ((List UInt8) × Int × (Option EreWrong) × Unit) × Int × Unit) → Option (Unit × ((List UInt8) × Int × (Option EreWrong) × Unit) × Node × Unit)) : TX := ⟨cfgX, A, lay, dec, wd, fun g => if g = 63 then [⟨[(.tmp 0, .ptr 0 0), (.new 0, .agg [.str, .int .i64, .optp 70]), (.tmp 1, .int .i64)], 1, [(.tmp 0, .ptr 0 0), (.new 0, .agg [.str, .int .i64, .optp 70]), (.tmp 1, .sct 27)], r_ere_parser_group⟩] else if g = 55 then [⟨[(.tmp 0, .ptr 0 0), (.new 0, .agg [.str, .int .i64, .optp 70]), (.tmp 1, .int .i64)], 1, [(.tmp 0, .ptr 0 0), (.new 0, .agg [.str, .int .i64, .optp 70]), (.tmp 1, .sct 27)], r_ere_parser_atom⟩] else if g = 51 then [⟨[(.tmp 0, .ptr 0 0), (.new 0, .agg [.str, .int .i64, .optp 70]), (.tmp 1, .int .i64)], 1, [(.tmp 0, .ptr 0 0), (.new 0, .agg [.str, .int .i64, .optp 70]), (.tmp 1, .sct 27)], r_ere_parser_piece⟩] else if g = 43 then [⟨[(.tmp 0, .ptr 0 0), (.new 0, .agg [.str, .int .i64, .optp 70]), (.tmp 1, .int .i64)], 1, [(.tmp 0, .ptr 0 0), (.new 0, .agg [.str, .int .i64, .optp 70]), (.tmp 1, .sct 27)], r_ere_parser_branch⟩] else if g = 32 then [⟨[(.tmp 0, .ptr 0 0), (.new 0, .agg [.str, .int .i64, .optp 70]), (.tmp 1, .int .i64)], 1, [(.tmp 0, .ptr 0 0), (.new 0, .agg [.str, .int .i64, .optp 70]), (.tmp 1, .sct 27)], r_ere_parser_expression⟩] else tab14 g, L_ere_parser_atom, J_ere_parser_atom⟩
noncomputable def ere_parser_atom_b (r_ere_parser_group : (Unit × ((List UInt8) × Int × (Option EreWrong) × Unit) × Int × Unit) → Option (Unit × ((List UInt8) × Int × (Option EreWrong) × Unit) × Node × Unit)) (r_ere_parser_atom : (Unit × ((List UInt8) × Int × (Option EreWrong) × Unit) × Int × Unit) → Option (Unit × ((List UInt8) × Int × (Option EreWrong) × Unit) × Node × Unit)) (r_ere_parser_piece : (Unit × ((List UInt8) × Int × (Option EreWrong) × Unit) × Int × Unit) → Option (Unit × ((List UInt8) × Int × (Option EreWrong) × Unit) × Node × Unit)) (r_ere_parser_branch : (Unit × ((List UInt8) × Int × (Option EreWrong) × Unit) × Int × Unit) → Option (Unit × ((List UInt8) × Int × (Option EreWrong) × Unit) × Node × Unit)) (r_ere_parser_expression : (Unit × ((List UInt8) × Int × (Option EreWrong) × Unit) × Int × Unit) → Option (Unit × ((List UInt8) × Int × (Option EreWrong) × Unit) × Node × Unit)) (k : Nat) (v : Unit × ((List UInt8) × Int × (Option EreWrong) × Unit) × Int × Unit) : Option (Unit × ((List UInt8) × Int × (Option EreWrong) × Unit) × Node × Unit) :=
oK (idx v.2.1.1 v.2.1.2.1) fun b0 =>
oK (ere_parser_is ((), (v.2.1.1, v.2.1.2.1, v.2.1.2.2.1, ()), ([42, 43, 63, 123] : List UInt8), ())) fun r1 =>
bK r1.2.2.1
 (oK (ere_parser_fail ((), (r1.2.1.1, r1.2.1.2.1, r1.2.1.2.2.1, ()), r1.2.1.2.1, 2, ())) fun r2 =>
 some ((), (r2.2.1.1, r2.2.1.2.1, r2.2.1.2.2.1, ()), (Node.mk 0 0 0 0 0 [] 0 0), ()))
 (oK (ere_parser_is ((), (r1.2.1.1, r1.2.1.2.1, r1.2.1.2.2.1, ()), ([91] : List UInt8), ())) fun r3 =>
 bK r3.2.2.1
  (oK (ere_parser_set ((), (r3.2.1.1, r3.2.1.2.1, r3.2.1.2.2.1, ()), ())) fun r4 =>
  some ((), (r4.2.1.1, r4.2.1.2.1, r4.2.1.2.2.1, ()), (Node.mk r4.2.2.1.kind r4.2.2.1.set0 r4.2.2.1.set1 r4.2.2.1.set2 r4.2.2.1.set3 r4.2.2.1.kids r4.2.2.1.min r4.2.2.1.max), ()))
  (oK (ere_parser_is ((), (r3.2.1.1, r3.2.1.2.1, r3.2.1.2.2.1, ()), ([40] : List UInt8), ())) fun r5 =>
  bK r5.2.2.1
   (oK (r_ere_parser_group ((), (r5.2.1.1, r5.2.1.2.1, r5.2.1.2.2.1, ()), v.2.2.1, ())) fun r6 =>
   some ((), (r6.2.1.1, r6.2.1.2.1, r6.2.1.2.2.1, ()), (Node.mk r6.2.2.1.kind r6.2.2.1.set0 r6.2.2.1.set1 r6.2.2.1.set2 r6.2.2.1.set3 r6.2.2.1.kids r6.2.2.1.min r6.2.2.1.max), ()))
   (bK (decide ((b0.toNat : Int) = 46))
    (oK (ere_others ((0, 0, 0, 0, ()), ())) fun r7 =>
    some ((), (r5.2.1.1, IntKind.wrap .i64 (r5.2.1.2.1 + 1), r5.2.1.2.2.1, ()), (Node.mk 2 r7.1.1 r7.1.2.1 r7.1.2.2.1 r7.1.2.2.2.1 [] 0 0), ()))
    (bK (decide ((b0.toNat : Int) = 94))
     (some ((), (r5.2.1.1, IntKind.wrap .i64 (r5.2.1.2.1 + 1), r5.2.1.2.2.1, ()), (Node.mk 6 0 0 0 0 [] 0 0), ()))
     (bK (decide ((b0.toNat : Int) = 36))
      (some ((), (r5.2.1.1, IntKind.wrap .i64 (r5.2.1.2.1 + 1), r5.2.1.2.2.1, ()), (Node.mk 7 0 0 0 0 [] 0 0), ()))
      (bK (decide ((b0.toNat : Int) = 92))
       (bK (decide (IntKind.wrap .i64 (r5.2.1.2.1 + 1) = len r5.2.1.1))
        (oK (ere_parser_fail ((), (r5.2.1.1, IntKind.wrap .i64 (r5.2.1.2.1 + 1), r5.2.1.2.2.1, ()), IntKind.wrap .i64 (r5.2.1.2.1 + 1), 2, ())) fun r8 =>
        some ((), (r8.2.1.1, r8.2.1.2.1, r8.2.1.2.2.1, ()), (Node.mk 0 0 0 0 0 [] 0 0), ()))
        (oK (idx r5.2.1.1 (IntKind.wrap .i64 ((IntKind.wrap .i64 ((IntKind.wrap .i64 (r5.2.1.2.1 + 1)) + 1)) - 1))) fun b9 =>
        oK (ere_single ((b9.toNat : Int), ())) fun r10 =>
        some ((), (r5.2.1.1, IntKind.wrap .i64 ((IntKind.wrap .i64 (r5.2.1.2.1 + 1)) + 1), r5.2.1.2.2.1, ()), (Node.mk r10.1.kind r10.1.set0 r10.1.set1 r10.1.set2 r10.1.set3 r10.1.kids r10.1.min r10.1.max), ())))
       (oK (ere_single ((b0.toNat : Int), ())) fun r11 =>
       some ((), (r5.2.1.1, IntKind.wrap .i64 (r5.2.1.2.1 + 1), r5.2.1.2.2.1, ()), (Node.mk r11.1.kind r11.1.set0 r11.1.set1 r11.1.set2 r11.1.set3 r11.1.kids r11.1.min r11.1.max), ()))))))))
/-! 51 (*patchwork/ere.parser).piece -/
noncomputable def ere_parser_piece_j0 (rec1 : ((Int × Int × Int × Int × Int × (List Node) × Int × Int × Unit) × ((List UInt8) × Int × (Option EreWrong) × Unit) × Unit) → Option (Unit × ((List UInt8) × Int × (Option EreWrong) × Unit) × Node × Unit)) (v2 : (Int × Int × Int × Int × Int × (List Node) × Int × Int × Unit) × ((List UInt8) × Int × (Option EreWrong) × Unit) × Unit) (v4 : Int × Int × ((List UInt8) × Int × (Option EreWrong) × Unit) × Unit) : Option (Unit × ((List UInt8) × Int × (Option EreWrong) × Unit) × Node × Unit) :=
rec1 ((5, 0, 0, 0, 0, ([(Node.mk v2.1.1 v2.1.2.1 v2.1.2.2.1 v2.1.2.2.2.1 v2.1.2.2.2.2.1 v2.1.2.2.2.2.2.1 v2.1.2.2.2.2.2.2.1 v2.1.2.2.2.2.2.2.2.1)] : List Node), v4.1, v4.2.1, ()), (v4.2.2.1.1, IntKind.wrap .i64 (v4.2.2.1.2.1 + 1), v4.2.2.1.2.2.1, ()), ())
noncomputable def ere_parser_piece_l1 (rec1 : ((Int × Int × Int × Int × Int × (List Node) × Int × Int × Unit) × ((List UInt8) × Int × (Option EreWrong) × Unit) × Unit) → Option (Unit × ((List UInt8) × Int × (Option EreWrong) × Unit) × Node × Unit)) (v2 : (Int × Int × Int × Int × Int × (List Node) × Int × Int × Unit) × ((List UInt8) × Int × (Option EreWrong) × Unit) × Unit) : Option (Unit × ((List UInt8) × Int × (Option EreWrong) × Unit) × Node × Unit) :=
oK (ere_parser_is ((), (v2.2.1.1, v2.2.1.2.1, v2.2.1.2.2.1, ()), ([42, 43, 63, 123] : List UInt8), ())) fun r3 =>
bK r3.2.2.1
 (oK (idx r3.2.1.1 r3.2.1.2.1) fun b5 =>
 bK (decide ((b5.toNat : Int) = 43))
  (joinB (box (ere_parser_piece_j0 rec1 v2)) (1, (-1), (r3.2.1.1, r3.2.1.2.1, r3.2.1.2.2.1, ()), ()))
  (bK (decide ((b5.toNat : Int) = 63))
   (joinB (box (ere_parser_piece_j0 rec1 v2)) (0, 1, (r3.2.1.1, r3.2.1.2.1, r3.2.1.2.2.1, ()), ()))
   (bK (decide ((b5.toNat : Int) = 123))
    (oK (ere_parser_times ((), (r3.2.1.1, r3.2.1.2.1, r3.2.1.2.2.1, ()), ())) fun r6 =>
    joinB (box (ere_parser_piece_j0 rec1 v2)) (r6.2.2.1, r6.2.2.2.1, (r6.2.1.1, r6.2.1.2.1, r6.2.1.2.2.1, ()), ()))
    (joinB (box (ere_parser_piece_j0 rec1 v2)) (0, (-1), (r3.2.1.1, r3.2.1.2.1, r3.2.1.2.2.1, ()), ())))))
 (some ((), (r3.2.1.1, r3.2.1.2.1, r3.2.1.2.2.1, ()), (Node.mk v2.1.1 v2.1.2.1 v2.1.2.2.1 v2.1.2.2.2.1 v2.1.2.2.2.2.1 v2.1.2.2.2.2.2.1 v2.1.2.2.2.2.2.2.1 v2.1.2.2.2.2.2.2.2.1), ()))
noncomputable def L_ere_parser_piece : FuncId → Nat → Option Shape := fun f i => match f, i with
    | 51, 2 => some ⟨[(.loc 2, .agg [.int .i64, .int .u64, .int .u64, .int .u64, .int .u64, .row 27 false, .int .i64, .int .i64]), (.loc 0, .agg [.str, .int .i64, .optp 70])], [11, 12, 6, 7, 13, 14, 15, 16, 17, 18, 19, 20, 21, 23, 22, 25, 24, 27, 26, 29, 30, 28, 31, 32, 33, 34, 35, 36, 37, 38, 39, 40, 41, 42, 43, 44]⟩
    | _, _ => none
noncomputable def J_ere_parser_piece : FuncId → Nat → Option Shape := fun f i => match f, i with
    | 51, 11 => some ⟨[(.tmp 6, .int .i64), (.tmp 7, .int .i64), (.loc 0, .agg [.str, .int .i64, .optp 70])], [13, 14, 15, 16, 17, 18, 19, 20, 21, 23, 22, 25, 24, 27, 26, 29, 30, 28, 31, 32]⟩
    | _, _ => none
@[reducible] noncomputable def X_ere_parser_piece (r_ere_parser_group : (Unit × ((List UInt8) × Int × (Option EreWrong) × Unit) × Int × Unit) → Option (Unit × ((List UInt8) × Int × (Option EreWrong) × Unit) × Node × Unit)) (r_ere_parser_atom : (Unit × ((List UInt8) × Int × (Option EreWrong) × Unit) × Int × Unit) → Option (Unit × ((List UInt8) × Int × (Option EreWrong) × Unit) × Node × Unit)) (r_ere_parser_piece : (Unit × ((List UInt8) × Int × (Option EreWrong) × Unit) × Int × Unit) → Option (Unit × ((List UInt8) × Int × (Option EreWrong) × Unit) × Node × Unit)) (r_ere_parser_branch : (Unit × ((List UInt8) × Int × (Option EreWrong) × Unit) × Int × Unit) → Option (Unit × ((List UInt8) × Int × (Option EreWrong) × Unit) × Node × Unit)) (r_ere_parser_expression : (Unit × ((List UInt8) × Int × (Option EreWrong) × Unit) × Int × Unit) → Option (Unit × ((List UInt8) × Int × (Option EreWrong) × Unit) × Node × Unit)) : TX := ⟨cfgX, A, lay, dec, wd, fun g => if g = 63 then [⟨[(.tmp 0, .ptr 0 0), (.new 0, .agg [.str, .int .i64, .optp 70]), (.tmp 1, .int .i64)], 1, [(.tmp 0, .ptr 0 0), (.new 0, .agg [.str, .int .i64, .optp 70]), (.tmp 1, .sct 27)], r_ere_parser_group⟩] else if g = 55 then [⟨[(.tmp 0, .ptr 0 0), (.new 0, .agg [.str, .int .i64, .optp 70]), (.tmp 1, .int .i64)], 1, [(.tmp 0, .ptr 0 0), (.new 0, .agg [.str, .int .i64, .optp 70]), (.tmp 1, .sct 27)], r_ere_parser_atom⟩] else if g = 51 then [⟨[(.tmp 0, .ptr 0 0), (.new 0, .agg [.str, .int .i64, .optp 70]), (.tmp 1, .int .i64)], 1, [(.tmp 0, .ptr 0 0), (.new 0, .agg [.str, .int .i64, .optp 70]), (.tmp 1, .sct 27)], r_ere_parser_piece⟩] else if g = 43 then [⟨[(.tmp 0, .ptr 0 0), (.new 0, .agg [.str, .int .i64, .optp 70]), (.tmp 1, .int .i64)], 1, [(.tmp 0, .ptr 0 0), (.new 0, .agg [.str, .int .i64, .optp 70]), (.tmp 1, .sct 27)], r_ere_parser_branch⟩] else if g = 32 then [⟨[(.tmp 0, .ptr 0 0), (.new 0, .agg [.str, .int .i64, .optp 70]), (.tmp 1, .int .i64)], 1, [(.tmp 0, .ptr 0 0), (.new 0, .agg [.str, .int .i64, .optp 70]), (.tmp 1, .sct 27)], r_ere_parser_expression⟩] else tab14 g, L_ere_parser_piece, J_ere_parser_piece⟩
noncomputable def ere_parser_piece_b (r_ere_parser_group : (Unit × ((List UInt8) × Int × (Option EreWrong) × Unit) × Int × Unit) → Option (Unit × ((List UInt8) × Int × (Option EreWrong) × Unit) × Node × Unit)) (r_ere_parser_atom : (Unit × ((List UInt8) × Int × (Option EreWrong) × Unit) × Int × Unit) → Option (Unit × ((List UInt8) × Int × (Option EreWrong) × Unit) × Node × Unit)) (r_ere_parser_piece : (Unit × ((List UInt8) × Int × (Option EreWrong) × Unit) × Int × Unit) → Option (Unit × ((List UInt8) × Int × (Option EreWrong) × Unit) × Node × Unit)) (r_ere_parser_branch : (Unit × ((List UInt8) × Int × (Option EreWrong) × Unit) × Int × Unit) → Option (Unit × ((List UInt8) × Int × (Option EreWrong) × Unit) × Node × Unit)) (r_ere_parser_expression : (Unit × ((List UInt8) × Int × (Option EreWrong) × Unit) × Int × Unit) → Option (Unit × ((List UInt8) × Int × (Option EreWrong) × Unit) × Node × Unit)) (k : Nat) (v : Unit × ((List UInt8) × Int × (Option EreWrong) × Unit) × Int × Unit) : Option (Unit × ((List UInt8) × Int × (Option EreWrong) × Unit) × Node × Unit) :=
oK (r_ere_parser_atom ((), (v.2.1.1, v.2.1.2.1, v.2.1.2.2.1, ()), v.2.2.1, ())) fun r0 =>
fixN (ere_parser_piece_l1) k ((r0.2.2.1.kind, r0.2.2.1.set0, r0.2.2.1.set1, r0.2.2.1.set2, r0.2.2.1.set3, r0.2.2.1.kids, r0.2.2.1.min, r0.2.2.1.max, ()), (r0.2.1.1, r0.2.1.2.1, r0.2.1.2.2.1, ()), ())
/-! 43 (*patchwork/ere.parser).branch -/
noncomputable def ere_parser_branch_j0 (v0 : (List Node) × ((List UInt8) × Int × (Option EreWrong) × Unit) × Unit) : Option (Unit × ((List UInt8) × Int × (Option EreWrong) × Unit) × Node × Unit) :=
oK (ere_of (3, v0.1, ())) fun r1 =>
some ((), (v0.2.1.1, v0.2.1.2.1, v0.2.1.2.2.1, ()), (Node.mk r1.1.kind r1.1.set0 r1.1.set1 r1.1.set2 r1.1.set3 r1.1.kids r1.1.min r1.1.max), ())
noncomputable def ere_parser_branch_l1 (r_ere_parser_piece : (Unit × ((List UInt8) × Int × (Option EreWrong) × Unit) × Int × Unit) → Option (Unit × ((List UInt8) × Int × (Option EreWrong) × Unit) × Node × Unit)) (v : Unit × ((List UInt8) × Int × (Option EreWrong) × Unit) × Int × Unit) (rec2 : ((List Node) × ((List UInt8) × Int × (Option EreWrong) × Unit) × Unit) → Option (Unit × ((List UInt8) × Int × (Option EreWrong) × Unit) × Node × Unit)) (v3 : (List Node) × ((List UInt8) × Int × (Option EreWrong) × Unit) × Unit) : Option (Unit × ((List UInt8) × Int × (Option EreWrong) × Unit) × Node × Unit) :=
bK (v3.2.1.2.2.1.isNone == true)
 (bK (decide (v3.2.1.2.1 < len v3.2.1.1))
  (oK (ere_parser_is ((), (v3.2.1.1, v3.2.1.2.1, v3.2.1.2.2.1, ()), ([124, 41] : List UInt8), ())) fun r4 =>
  bK (!r4.2.2.1)
   (oK (r_ere_parser_piece ((), (r4.2.1.1, r4.2.1.2.1, r4.2.1.2.2.1, ()), v.2.2.1, ())) fun r5 =>
   bK (fits 80 (v3.1.length + 1))
    (rec2 ((v3.1 ++ ([(Node.mk r5.2.2.1.kind r5.2.2.1.set0 r5.2.2.1.set1 r5.2.2.1.set2 r5.2.2.1.set3 r5.2.2.1.kids r5.2.2.1.min r5.2.2.1.max)] : List Node)), (r5.2.1.1, r5.2.1.2.1, r5.2.1.2.2.1, ()), ()))
    (none))
   (joinB (box ere_parser_branch_j0) (v3.1, (r4.2.1.1, r4.2.1.2.1, r4.2.1.2.2.1, ()), ())))
  (joinB (box ere_parser_branch_j0) (v3.1, (v3.2.1.1, v3.2.1.2.1, v3.2.1.2.2.1, ()), ())))
 (joinB (box ere_parser_branch_j0) (v3.1, (v3.2.1.1, v3.2.1.2.1, v3.2.1.2.2.1, ()), ()))
noncomputable def L_ere_parser_branch : FuncId → Nat → Option Shape := fun f i => match f, i with
    | 43, 2 => some ⟨[(.tmp 5, .row 27 true), (.loc 0, .agg [.str, .int .i64, .optp 70])], [6, 7, 8, 9, 10, 11, 12, 13, 14, 15, 16, 17, 18, 19, 20, 21, 22, 23, 24, 25, 26, 27, 28, 29, 30, 31, 32, 33]⟩
    | _, _ => none
noncomputable def J_ere_parser_branch : FuncId → Nat → Option Shape := fun f i => match f, i with
    | 43, 4 => some ⟨[(.tmp 5, .row 27 true), (.loc 0, .agg [.str, .int .i64, .optp 70])], [6, 7, 8, 9, 10, 11, 12, 13, 14, 15, 16, 17, 18, 19, 20, 21, 22, 23, 24, 25, 26, 27, 28, 29, 30, 31, 32, 33]⟩
    | _, _ => none
@[reducible] noncomputable def X_ere_parser_branch (r_ere_parser_group : (Unit × ((List UInt8) × Int × (Option EreWrong) × Unit) × Int × Unit) → Option (Unit × ((List UInt8) × Int × (Option EreWrong) × Unit) × Node × Unit)) (r_ere_parser_atom : (Unit × ((List UInt8) × Int × (Option EreWrong) × Unit) × Int × Unit) → Option (Unit × ((List UInt8) × Int × (Option EreWrong) × Unit) × Node × Unit)) (r_ere_parser_piece : (Unit × ((List UInt8) × Int × (Option EreWrong) × Unit) × Int × Unit) → Option (Unit × ((List UInt8) × Int × (Option EreWrong) × Unit) × Node × Unit)) (r_ere_parser_branch : (Unit × ((List UInt8) × Int × (Option EreWrong) × Unit) × Int × Unit) → Option (Unit × ((List UInt8) × Int × (Option EreWrong) × Unit) × Node × Unit)) (r_ere_parser_expression : (Unit × ((List UInt8) × Int × (Option EreWrong) × Unit) × Int × Unit) → Option (Unit × ((List UInt8) × Int × (Option EreWrong) × Unit) × Node × Unit)) : TX := ⟨cfgX, A, lay, dec, wd, fun g => if g = 63 then [⟨[(.tmp 0, .ptr 0 0), (.new 0, .agg [.str, .int .i64, .optp 70]), (.tmp 1, .int .i64)], 1, [(.tmp 0, .ptr 0 0), (.new 0, .agg [.str, .int .i64, .optp 70]), (.tmp 1, .sct 27)], r_ere_parser_group⟩] else if g = 55 then [⟨[(.tmp 0, .ptr 0 0), (.new 0, .agg [.str, .int .i64, .optp 70]), (.tmp 1, .int .i64)], 1, [(.tmp 0, .ptr 0 0), (.new 0, .agg [.str, .int .i64, .optp 70]), (.tmp 1, .sct 27)], r_ere_parser_atom⟩] else if g = 51 then [⟨[(.tmp 0, .ptr 0 0), (.new 0, .agg [.str, .int .i64, .optp 70]), (.tmp 1, .int .i64)], 1, [(.tmp 0, .ptr 0 0), (.new 0, .agg [.str, .int .i64, .optp 70]), (.tmp 1, .sct 27)], r_ere_parser_piece⟩] else if g = 43 then [⟨[(.tmp 0, .ptr 0 0), (.new 0, .agg [.str, .int .i64, .optp 70]), (.tmp 1, .int .i64)], 1, [(.tmp 0, .ptr 0 0), (.new 0, .agg [.str, .int .i64, .optp 70]), (.tmp 1, .sct 27)], r_ere_parser_branch⟩] else if g = 32 then [⟨[(.tmp 0, .ptr 0 0), (.new 0, .agg [.str, .int .i64, .optp 70]), (.tmp 1, .int .i64)], 1, [(.tmp 0, .ptr 0 0), (.new 0, .agg [.str, .int .i64, .optp 70]), (.tmp 1, .sct 27)], r_ere_parser_expression⟩] else tab14 g, L_ere_parser_branch, J_ere_parser_branch⟩
noncomputable def ere_parser_branch_b (r_ere_parser_group : (Unit × ((List UInt8) × Int × (Option EreWrong) × Unit) × Int × Unit) → Option (Unit × ((List UInt8) × Int × (Option EreWrong) × Unit) × Node × Unit)) (r_ere_parser_atom : (Unit × ((List UInt8) × Int × (Option EreWrong) × Unit) × Int × Unit) → Option (Unit × ((List UInt8) × Int × (Option EreWrong) × Unit) × Node × Unit)) (r_ere_parser_piece : (Unit × ((List UInt8) × Int × (Option EreWrong) × Unit) × Int × Unit) → Option (Unit × ((List UInt8) × Int × (Option EreWrong) × Unit) × Node × Unit)) (r_ere_parser_branch : (Unit × ((List UInt8) × Int × (Option EreWrong) × Unit) × Int × Unit) → Option (Unit × ((List UInt8) × Int × (Option EreWrong) × Unit) × Node × Unit)) (r_ere_parser_expression : (Unit × ((List UInt8) × Int × (Option EreWrong) × Unit) × Int × Unit) → Option (Unit × ((List UInt8) × Int × (Option EreWrong) × Unit) × Node × Unit)) (k : Nat) (v : Unit × ((List UInt8) × Int × (Option EreWrong) × Unit) × Int × Unit) : Option (Unit × ((List UInt8) × Int × (Option EreWrong) × Unit) × Node × Unit) :=
fixN (ere_parser_branch_l1 r_ere_parser_piece v) k ([], (v.2.1.1, v.2.1.2.1, v.2.1.2.2.1, ()), ())
/-! 32 (*patchwork/ere.parser).expression -/
noncomputable def ere_parser_expression_l0 (r_ere_parser_branch : (Unit × ((List UInt8) × Int × (Option EreWrong) × Unit) × Int × Unit) → Option (Unit × ((List UInt8) × Int × (Option EreWrong) × Unit) × Node × Unit)) (v : Unit × ((List UInt8) × Int × (Option EreWrong) × Unit) × Int × Unit) (rec1 : ((List Node) × ((List UInt8) × Int × (Option EreWrong) × Unit) × Unit) → Option (Unit × ((List UInt8) × Int × (Option EreWrong) × Unit) × Node × Unit)) (v2 : (List Node) × ((List UInt8) × Int × (Option EreWrong) × Unit) × Unit) : Option (Unit × ((List UInt8) × Int × (Option EreWrong) × Unit) × Node × Unit) :=
oK (ere_parser_is ((), (v2.2.1.1, v2.2.1.2.1, v2.2.1.2.2.1, ()), ([124] : List UInt8), ())) fun r3 =>
bK r3.2.2.1
 (oK (r_ere_parser_branch ((), (r3.2.1.1, IntKind.wrap .i64 (r3.2.1.2.1 + 1), r3.2.1.2.2.1, ()), v.2.2.1, ())) fun r4 =>
 bK (fits 80 (v2.1.length + 1))
  (rec1 ((v2.1 ++ ([(Node.mk r4.2.2.1.kind r4.2.2.1.set0 r4.2.2.1.set1 r4.2.2.1.set2 r4.2.2.1.set3 r4.2.2.1.kids r4.2.2.1.min r4.2.2.1.max)] : List Node)), (r4.2.1.1, r4.2.1.2.1, r4.2.1.2.2.1, ()), ()))
  (none))
 (oK (ere_of (4, v2.1, ())) fun r5 =>
 some ((), (r3.2.1.1, r3.2.1.2.1, r3.2.1.2.2.1, ()), (Node.mk r5.1.kind r5.1.set0 r5.1.set1 r5.1.set2 r5.1.set3 r5.1.kids r5.1.min r5.1.max), ()))
noncomputable def L_ere_parser_expression : FuncId → Nat → Option Shape := fun f i => match f, i with
    | 32, 2 => some ⟨[(.tmp 5, .row 27 true), (.loc 0, .agg [.str, .int .i64, .optp 70])], [10, 11, 12, 13, 14, 15, 16, 17, 18, 19, 20, 21, 22, 23, 24]⟩
    | _, _ => none
noncomputable def J_ere_parser_expression : FuncId → Nat → Option Shape := fun _ _ => none
@[reducible] noncomputable def X_ere_parser_expression (r_ere_parser_group : (Unit × ((List UInt8) × Int × (Option EreWrong) × Unit) × Int × Unit) → Option (Unit × ((List UInt8) × Int × (Option EreWrong) × Unit) × Node × Unit)) (r_ere_parser_atom : (Unit × ((List UInt8) × Int × (Option EreWrong) × Unit) × Int × Unit) → Option (Unit × ((List UInt8) × Int × (Option EreWrong) × Unit) × Node × Unit)) (r_ere_parser_piece : (Unit × ((List UInt8) × Int × (Option EreWrong) × Unit) × Int × Unit) → Option (Unit × ((List UInt8) × Int × (Option EreWrong) × Unit) × Node × Unit)) (r_ere_parser_branch : (Unit × ((List UInt8) × Int × (Option EreWrong) × Unit) × Int × Unit) → Option (Unit × ((List UInt8) × Int × (Option EreWrong) × Unit) × Node × Unit)) (r_ere_parser_expression : (Unit × ((List UInt8) × Int × (Option EreWrong) × Unit) × Int × Unit) → Option (Unit × ((List UInt8) × Int × (Option EreWrong) × Unit) × Node × Unit)) : TX := ⟨cfgX, A, lay, dec, wd, fun g => if g = 63 then [⟨[(.tmp 0, .ptr 0 0), (.new 0, .agg [.str, .int .i64, .optp 70]), (.tmp 1, .int .i64)], 1, [(.tmp 0, .ptr 0 0), (.new 0, .agg [.str, .int .i64, .optp 70]), (.tmp 1, .sct 27)], r_ere_parser_group⟩] else if g = 55 then [⟨[(.tmp 0, .ptr 0 0), (.new 0, .agg [.str, .int .i64, .optp 70]), (.tmp 1, .int .i64)], 1, [(.tmp 0, .ptr 0 0), (.new 0, .agg [.str, .int .i64, .optp 70]), (.tmp 1, .sct 27)], r_ere_parser_atom⟩] else if g = 51 then [⟨[(.tmp 0, .ptr 0 0), (.new 0, .agg [.str, .int .i64, .optp 70]), (.tmp 1, .int .i64)], 1, [(.tmp 0, .ptr 0 0), (.new 0, .agg [.str, .int .i64, .optp 70]), (.tmp 1, .sct 27)], r_ere_parser_piece⟩] else if g = 43 then [⟨[(.tmp 0, .ptr 0 0), (.new 0, .agg [.str, .int .i64, .optp 70]), (.tmp 1, .int .i64)], 1, [(.tmp 0, .ptr 0 0), (.new 0, .agg [.str, .int .i64, .optp 70]), (.tmp 1, .sct 27)], r_ere_parser_branch⟩] else if g = 32 then [⟨[(.tmp 0, .ptr 0 0), (.new 0, .agg [.str, .int .i64, .optp 70]), (.tmp 1, .int .i64)], 1, [(.tmp 0, .ptr 0 0), (.new 0, .agg [.str, .int .i64, .optp 70]), (.tmp 1, .sct 27)], r_ere_parser_expression⟩] else tab14 g, L_ere_parser_expression, J_ere_parser_expression⟩
noncomputable def ere_parser_expression_b (r_ere_parser_group : (Unit × ((List UInt8) × Int × (Option EreWrong) × Unit) × Int × Unit) → Option (Unit × ((List UInt8) × Int × (Option EreWrong) × Unit) × Node × Unit)) (r_ere_parser_atom : (Unit × ((List UInt8) × Int × (Option EreWrong) × Unit) × Int × Unit) → Option (Unit × ((List UInt8) × Int × (Option EreWrong) × Unit) × Node × Unit)) (r_ere_parser_piece : (Unit × ((List UInt8) × Int × (Option EreWrong) × Unit) × Int × Unit) → Option (Unit × ((List UInt8) × Int × (Option EreWrong) × Unit) × Node × Unit)) (r_ere_parser_branch : (Unit × ((List UInt8) × Int × (Option EreWrong) × Unit) × Int × Unit) → Option (Unit × ((List UInt8) × Int × (Option EreWrong) × Unit) × Node × Unit)) (r_ere_parser_expression : (Unit × ((List UInt8) × Int × (Option EreWrong) × Unit) × Int × Unit) → Option (Unit × ((List UInt8) × Int × (Option EreWrong) × Unit) × Node × Unit)) (k : Nat) (v : Unit × ((List UInt8) × Int × (Option EreWrong) × Unit) × Int × Unit) : Option (Unit × ((List UInt8) × Int × (Option EreWrong) × Unit) × Node × Unit) :=
oK (r_ere_parser_branch ((), (v.2.1.1, v.2.1.2.1, v.2.1.2.2.1, ()), v.2.2.1, ())) fun r0 =>
fixN (ere_parser_expression_l0 r_ere_parser_branch v) k (([(Node.mk r0.2.2.1.kind r0.2.2.1.set0 r0.2.2.1.set1 r0.2.2.1.set2 r0.2.2.1.set3 r0.2.2.1.kids r0.2.2.1.min r0.2.2.1.max)] : List Node), (r0.2.1.1, r0.2.1.2.1, r0.2.1.2.2.1, ()), ())
noncomputable def ere_parser_group_all (k : Nat) : Nat → ((Unit × ((List UInt8) × Int × (Option EreWrong) × Unit) × Int × Unit) → Option (Unit × ((List UInt8) × Int × (Option EreWrong) × Unit) × Node × Unit)) × ((Unit × ((List UInt8) × Int × (Option EreWrong) × Unit) × Int × Unit) → Option (Unit × ((List UInt8) × Int × (Option EreWrong) × Unit) × Node × Unit)) × ((Unit × ((List UInt8) × Int × (Option EreWrong) × Unit) × Int × Unit) → Option (Unit × ((List UInt8) × Int × (Option EreWrong) × Unit) × Node × Unit)) × ((Unit × ((List UInt8) × Int × (Option EreWrong) × Unit) × Int × Unit) → Option (Unit × ((List UInt8) × Int × (Option EreWrong) × Unit) × Node × Unit)) × ((Unit × ((List UInt8) × Int × (Option EreWrong) × Unit) × Int × Unit) → Option (Unit × ((List UInt8) × Int × (Option EreWrong) × Unit) × Node × Unit))
  | 0 => (fun _ => none, fun _ => none, fun _ => none, fun _ => none, fun _ => none)
  | n + 1 => (ere_parser_group_b ((ere_parser_group_all k n).1) ((ere_parser_group_all k n).2.1) ((ere_parser_group_all k n).2.2.1) ((ere_parser_group_all k n).2.2.2.1) ((ere_parser_group_all k n).2.2.2.2) k, ere_parser_atom_b ((ere_parser_group_all k n).1) ((ere_parser_group_all k n).2.1) ((ere_parser_group_all k n).2.2.1) ((ere_parser_group_all k n).2.2.2.1) ((ere_parser_group_all k n).2.2.2.2) k, ere_parser_piece_b ((ere_parser_group_all k n).1) ((ere_parser_group_all k n).2.1) ((ere_parser_group_all k n).2.2.1) ((ere_parser_group_all k n).2.2.2.1) ((ere_parser_group_all k n).2.2.2.2) k, ere_parser_branch_b ((ere_parser_group_all k n).1) ((ere_parser_group_all k n).2.1) ((ere_parser_group_all k n).2.2.1) ((ere_parser_group_all k n).2.2.2.1) ((ere_parser_group_all k n).2.2.2.2) k, ere_parser_expression_b ((ere_parser_group_all k n).1) ((ere_parser_group_all k n).2.1) ((ere_parser_group_all k n).2.2.1) ((ere_parser_group_all k n).2.2.2.1) ((ere_parser_group_all k n).2.2.2.2) k)
noncomputable def ere_parser_group (v : Unit × ((List UInt8) × Int × (Option EreWrong) × Unit) × Int × Unit) : Option (Unit × ((List UInt8) × Int × (Option EreWrong) × Unit) × Node × Unit) := (ere_parser_group_all kBig kBig).1 v
noncomputable def ere_parser_atom (v : Unit × ((List UInt8) × Int × (Option EreWrong) × Unit) × Int × Unit) : Option (Unit × ((List UInt8) × Int × (Option EreWrong) × Unit) × Node × Unit) := (ere_parser_group_all kBig kBig).2.1 v
noncomputable def ere_parser_piece (v : Unit × ((List UInt8) × Int × (Option EreWrong) × Unit) × Int × Unit) : Option (Unit × ((List UInt8) × Int × (Option EreWrong) × Unit) × Node × Unit) := (ere_parser_group_all kBig kBig).2.2.1 v
noncomputable def ere_parser_branch (v : Unit × ((List UInt8) × Int × (Option EreWrong) × Unit) × Int × Unit) : Option (Unit × ((List UInt8) × Int × (Option EreWrong) × Unit) × Node × Unit) := (ere_parser_group_all kBig kBig).2.2.2.1 v
noncomputable def ere_parser_expression (v : Unit × ((List UInt8) × Int × (Option EreWrong) × Unit) × Int × Unit) : Option (Unit × ((List UInt8) × Int × (Option EreWrong) × Unit) × Node × Unit) := (ere_parser_group_all kBig kBig).2.2.2.2 v
noncomputable def tab15 (g : FuncId) : List (Entry A) := if g = 63 then [⟨[(.tmp 0, .ptr 0 0), (.new 0, .agg [.str, .int .i64, .optp 70]), (.tmp 1, .int .i64)], 1, [(.tmp 0, .ptr 0 0), (.new 0, .agg [.str, .int .i64, .optp 70]), (.tmp 1, .sct 27)], ere_parser_group⟩] else if g = 55 then [⟨[(.tmp 0, .ptr 0 0), (.new 0, .agg [.str, .int .i64, .optp 70]), (.tmp 1, .int .i64)], 1, [(.tmp 0, .ptr 0 0), (.new 0, .agg [.str, .int .i64, .optp 70]), (.tmp 1, .sct 27)], ere_parser_atom⟩] else if g = 51 then [⟨[(.tmp 0, .ptr 0 0), (.new 0, .agg [.str, .int .i64, .optp 70]), (.tmp 1, .int .i64)], 1, [(.tmp 0, .ptr 0 0), (.new 0, .agg [.str, .int .i64, .optp 70]), (.tmp 1, .sct 27)], ere_parser_piece⟩] else if g = 43 then [⟨[(.tmp 0, .ptr 0 0), (.new 0, .agg [.str, .int .i64, .optp 70]), (.tmp 1, .int .i64)], 1, [(.tmp 0, .ptr 0 0), (.new 0, .agg [.str, .int .i64, .optp 70]), (.tmp 1, .sct 27)], ere_parser_branch⟩] else if g = 32 then [⟨[(.tmp 0, .ptr 0 0), (.new 0, .agg [.str, .int .i64, .optp 70]), (.tmp 1, .int .i64)], 1, [(.tmp 0, .ptr 0 0), (.new 0, .agg [.str, .int .i64, .optp 70]), (.tmp 1, .sct 27)], ere_parser_expression⟩] else tab14 g
/-! 46 patchwork/ere.form -/
noncomputable def ere_form_j0 (v : Node × Unit) (v1 : Bool × Unit) : Option (Bool × Unit) :=
bK v1.1
 (bK (!(decide (len v.1.kids < 2)))
  (bK (!(!((decide (v.1.set0 = 0) && (decide (v.1.set1 = 0) && (decide (v.1.set2 = 0) && decide (v.1.set3 = 0)))) == true)))
   (bK (decide (v.1.min = 0))
    (some (decide (v.1.max = 0), ()))
    (some (false, ())))
   (some (false, ())))
  (some (false, ())))
 (bK (decide (v.1.kind = 5))
  (bK (decide (len v.1.kids = 1))
   (bK (!(!((decide (v.1.set0 = 0) && (decide (v.1.set1 = 0) && (decide (v.1.set2 = 0) && decide (v.1.set3 = 0)))) == true)))
    (bK (!(decide (v.1.min < 0)))
     (bK (!(decide (200 < v.1.min)))
      (bK (decide (v.1.max = (-1)))
       (some (true, ()))
       (bK (!(decide (v.1.max < v.1.min)))
        (some (!(decide (200 < v.1.max)), ()))
        (some (false, ()))))
      (some (false, ())))
     (some (false, ())))
    (some (false, ())))
   (some (false, ())))
  (some (false, ())))
noncomputable def ere_form_j1 (v : Node × Unit) (v0 : Bool × Unit) : Option (Bool × Unit) :=
bK v0.1
 (bK (decide (len v.1.kids = 0))
  (bK (!(!((decide (v.1.set0 = 0) && (decide (v.1.set1 = 0) && (decide (v.1.set2 = 0) && decide (v.1.set3 = 0)))) == true)))
   (bK (decide (v.1.min = 0))
    (some (decide (v.1.max = 0), ()))
    (some (false, ())))
   (some (false, ())))
  (some (false, ())))
 (bK (decide (v.1.kind = 2))
  (bK (decide (len v.1.kids = 0))
   (bK (decide (v.1.min = 0))
    (some (decide (v.1.max = 0), ()))
    (some (false, ())))
   (some (false, ())))
  (bK (decide (v.1.kind = 3))
   (joinB (box (ere_form_j0 v)) (decide (v.1.kind = 3), ()))
   (joinB (box (ere_form_j0 v)) (decide (v.1.kind = 4), ()))))
noncomputable def L_ere_form : FuncId → Nat → Option Shape := fun _ _ => none
noncomputable def J_ere_form : FuncId → Nat → Option Shape := fun f i => match f, i with
    | 46, 11 => some ⟨[(.tmp 48, .bool)], [49, 50]⟩
    | 46, 6 => some ⟨[(.tmp 14, .bool)], [15, 16, 17]⟩
    | _, _ => none
@[reducible] noncomputable def X_ere_form : TX := ⟨cfgX, A, lay, dec, wd, tab15, L_ere_form, J_ere_form⟩
noncomputable def ere_form (v : Node × Unit) : Option (Bool × Unit) :=
bK (decide (v.1.kind = 1))
 (joinB (box (ere_form_j1 v)) (decide (v.1.kind = 1), ()))
 (bK (decide (v.1.kind = 6))
  (joinB (box (ere_form_j1 v)) (decide (v.1.kind = 6), ()))
  (joinB (box (ere_form_j1 v)) (decide (v.1.kind = 7), ())))
noncomputable def tab16 (g : FuncId) : List (Entry A) := if g = 46 then [⟨[(.tmp 0, .sct 27)], 0, [(.tmp 0, .bool)], ere_form⟩] else tab15 g
/-! 34 patchwork/ere.right -/
noncomputable def ere_right_l0 (r_ere_right : (Node × Int × Unit) → Option (Bool × Unit)) (v : Node × Int × Unit) (rec1 : (Int × Unit) → Option (Bool × Unit)) (v2 : Int × Unit) : Option (Bool × Unit) :=
bK (decide (v2.1 < len v.1.kids))
 (oK (idx v.1.kids v2.1) fun x3 =>
 oK (r_ere_right ((Node.mk x3.kind x3.set0 x3.set1 x3.set2 x3.set3 x3.kids x3.min x3.max), IntKind.wrap .i64 (v.2.1 - 1), ())) fun r4 =>
 bK (!r4.1)
  (some (false, ()))
  (rec1 (IntKind.wrap .i64 (v2.1 + 1), ())))
 (some (true, ()))
noncomputable def ere_right_j1 (r_ere_right : (Node × Int × Unit) → Option (Bool × Unit)) (v : Node × Int × Unit) (k : Nat) (v0 : Unit) : Option (Bool × Unit) :=
fixN (ere_right_l0 r_ere_right v) k (0, ())
noncomputable def L_ere_right : FuncId → Nat → Option Shape := fun f i => match f, i with
    | 34, 4 => some ⟨[(.tmp 23, .int .i64)], [24, 25, 26, 6, 27, 28, 29, 30, 31, 4, 32]⟩
    | _, _ => none
noncomputable def J_ere_right : FuncId → Nat → Option Shape := fun f i => match f, i with
    | 34, 3 => some ⟨[], [7, 8, 9, 10, 11, 12, 13, 14, 15, 16, 17, 18, 19, 4]⟩
    | _, _ => none
@[reducible] noncomputable def X_ere_right (r_ere_right : (Node × Int × Unit) → Option (Bool × Unit)) : TX := ⟨cfgX, A, lay, dec, wd, fun g => if g = 34 then [⟨[(.tmp 0, .sct 27), (.tmp 1, .int .i64)], 0, [(.tmp 0, .bool)], r_ere_right⟩] else tab16 g, L_ere_right, J_ere_right⟩
noncomputable def ere_right_b (r_ere_right : (Node × Int × Unit) → Option (Bool × Unit)) (k : Nat) (v : Node × Int × Unit) : Option (Bool × Unit) :=
oK (ere_form ((Node.mk v.1.kind v.1.set0 v.1.set1 v.1.set2 v.1.set3 v.1.kids v.1.min v.1.max), ())) fun r5 =>
bK (!r5.1)
 (some (false, ()))
 (bK (decide (0 < len v.1.kids))
  (bK (decide (v.2.1 < 1))
   (some (false, ()))
   (joinB (box (ere_right_j1 r_ere_right v k)) (())))
  (joinB (box (ere_right_j1 r_ere_right v k)) (())))
noncomputable def ere_right_all (k : Nat) : Nat → ((Node × Int × Unit) → Option (Bool × Unit))
  | 0 => (fun _ => none)
  | n + 1 => (ere_right_b ((ere_right_all k n)) k)
noncomputable def ere_right (v : Node × Int × Unit) : Option (Bool × Unit) := (ere_right_all kBig kBig) v
noncomputable def tab17 (g : FuncId) : List (Entry A) := if g = 34 then [⟨[(.tmp 0, .sct 27), (.tmp 1, .int .i64)], 0, [(.tmp 0, .bool)], ere_right⟩] else tab16 g
/-! 35 patchwork/ere.times -/
noncomputable def L_ere_times : FuncId → Nat → Option Shape := fun _ _ => none
noncomputable def J_ere_times : FuncId → Nat → Option Shape := fun _ _ => none
@[reducible] noncomputable def X_ere_times : TX := ⟨cfgX, A, lay, dec, wd, tab17, L_ere_times, J_ere_times⟩
noncomputable def ere_times (v : Node × Unit) : Option (Int × Unit) :=
bK (!(decide (v.1.kind = 5)))
 (some (1, ()))
 (some (iMax (iMax v.1.min v.1.max) 1, ()))
noncomputable def tab18 (g : FuncId) : List (Entry A) := if g = 35 then [⟨[(.tmp 0, .sct 27)], 0, [(.tmp 0, .int .i64)], ere_times⟩] else tab17 g
/-! 22 patchwork/ere.Size -/
noncomputable def ere_Size_j0 (rec0 : (Int × Int × Unit) → Option (Int × Unit)) (v1 : Int × Int × Unit) (v4 : Int × Unit) : Option (Int × Unit) :=
rec0 (iMin 1073741824 (IntKind.wrap .i64 (v1.1 + v4.1)), IntKind.wrap .i64 (v1.2.1 + 1), ())
noncomputable def ere_Size_l1 (r_ere_Size : (Node × Unit) → Option (Int × Unit)) (v : Node × Unit) (rec0 : (Int × Int × Unit) → Option (Int × Unit)) (v1 : Int × Int × Unit) : Option (Int × Unit) :=
bK (decide (v1.2.1 < len v.1.kids))
 (oK (idx v.1.kids v1.2.1) fun x2 =>
 oK (r_ere_Size ((Node.mk x2.kind x2.set0 x2.set1 x2.set2 x2.set3 x2.kids x2.min x2.max), ())) fun r3 =>
 oK (ere_times ((Node.mk v.1.kind v.1.set0 v.1.set1 v.1.set2 v.1.set3 v.1.kids v.1.min v.1.max), ())) fun r5 =>
 bK (decide (r5.1 = 0))
  (none)
  (bK (decide (IntKind.wrap .i64 (Int.tdiv 1073741824 r5.1) < r3.1))
   (joinB (box (ere_Size_j0 rec0 v1)) (1073741824, ()))
   (joinB (box (ere_Size_j0 rec0 v1)) (IntKind.wrap .i64 (r3.1 * r5.1), ()))))
 (some (v1.1, ()))
noncomputable def L_ere_Size : FuncId → Nat → Option Shape := fun f i => match f, i with
    | 22, 3 => some ⟨[(.tmp 3, .int .i64), (.tmp 11, .int .i64)], [12, 13, 14, 5, 15, 16, 6, 17, 18, 7, 19, 20, 21, 22, 23, 24, 25, 26, 27, 28, 29, 30]⟩
    | _, _ => none
noncomputable def J_ere_Size : FuncId → Nat → Option Shape := fun f i => match f, i with
    | 22, 10 => some ⟨[(.tmp 6, .int .i64)], [17, 18, 7, 19, 20, 21, 22, 23, 24, 25]⟩
    | _, _ => none
@[reducible] noncomputable def X_ere_Size (r_ere_Size : (Node × Unit) → Option (Int × Unit)) : TX := ⟨cfgX, A, lay, dec, wd, fun g => if g = 22 then [⟨[(.tmp 0, .sct 27)], 0, [(.tmp 0, .int .i64)], r_ere_Size⟩] else tab18 g, L_ere_Size, J_ere_Size⟩
noncomputable def ere_Size_b (r_ere_Size : (Node × Unit) → Option (Int × Unit)) (k : Nat) (v : Node × Unit) : Option (Int × Unit) :=
fixN (ere_Size_l1 r_ere_Size v) k (1, 0, ())
noncomputable def ere_Size_all (k : Nat) : Nat → ((Node × Unit) → Option (Int × Unit))
  | 0 => (fun _ => none)
  | n + 1 => (ere_Size_b ((ere_Size_all k n)) k)
noncomputable def ere_Size (v : Node × Unit) : Option (Int × Unit) := (ere_Size_all kBig kBig) v
noncomputable def tab19 (g : FuncId) : List (Entry A) := if g = 22 then [⟨[(.tmp 0, .sct 27)], 0, [(.tmp 0, .int .i64)], ere_Size⟩] else tab18 g
/-! 21 patchwork/ere.Right -/
noncomputable def L_ere_Right : FuncId → Nat → Option Shape := fun _ _ => none
noncomputable def J_ere_Right : FuncId → Nat → Option Shape := fun _ _ => none
@[reducible] noncomputable def X_ere_Right : TX := ⟨cfgX, A, lay, dec, wd, tab19, L_ere_Right, J_ere_Right⟩
noncomputable def ere_Right (v : Node × Unit) : Option (Bool × Unit) :=
oK (ere_right ((Node.mk v.1.kind v.1.set0 v.1.set1 v.1.set2 v.1.set3 v.1.kids v.1.min v.1.max), 200, ())) fun r0 =>
bK r0.1
 (oK (ere_Size ((Node.mk v.1.kind v.1.set0 v.1.set1 v.1.set2 v.1.set3 v.1.kids v.1.min v.1.max), ())) fun r1 =>
 some (!(decide (20000 < r1.1)), ()))
 (some (false, ()))
noncomputable def tab20 (g : FuncId) : List (Entry A) := if g = 21 then [⟨[(.tmp 0, .sct 27)], 0, [(.tmp 0, .bool)], ere_Right⟩] else tab19 g
/-! 20 patchwork/patchworklaw6.num -/
noncomputable def L_law6_num : FuncId → Nat → Option Shape := fun _ _ => none
noncomputable def J_law6_num : FuncId → Nat → Option Shape := fun _ _ => none
@[reducible] noncomputable def X_law6_num : TX := ⟨cfgX, A, lay, dec, wd, tab20, L_law6_num, J_law6_num⟩
noncomputable def law6_num (v : Int × Unit) : Option (Int × Unit) :=
some (v.1, ())
noncomputable def tab21 (g : FuncId) : List (Entry A) := if g = 20 then [⟨[(.tmp 0, .int .i64)], 0, [(.tmp 0, .int .i64)], law6_num⟩] else tab20 g
/-! 25 patchwork/ere.Has -/
noncomputable def L_ere_Has : FuncId → Nat → Option Shape := fun _ _ => none
noncomputable def J_ere_Has : FuncId → Nat → Option Shape := fun _ _ => none
@[reducible] noncomputable def X_ere_Has : TX := ⟨cfgX, A, lay, dec, wd, tab21, L_ere_Has, J_ere_Has⟩
noncomputable def ere_Has (v : Node × Int × Unit) : Option (Bool × Unit) :=
bK (decide (v.1.kind = 2))
 (bK (inR (IntKind.wrap .u8 (Int.tdiv v.2.1 64)) 4)
  (bK (decide (Int.tmod v.2.1 64 < 0))
   (none)
   (some (decide (IntKind.wrap .u64 ((BitVec.ofInt (IntKind.bits .u64) (Int.fdiv (nth [v.1.set0, v.1.set1, v.1.set2, v.1.set3] (IntKind.wrap .u8 (Int.tdiv v.2.1 64))) (2 ^ (min (Int.tmod v.2.1 64).toNat (IntKind.bits .u64))))) &&& (BitVec.ofInt (IntKind.bits .u64) 1)).toNat = 1), ())))
  (none))
 (some (false, ()))
noncomputable def tab22 (g : FuncId) : List (Entry A) := if g = 25 then [⟨[(.tmp 0, .sct 27), (.tmp 1, .int .u8)], 0, [(.tmp 0, .bool)], ere_Has⟩] else tab21 g
/-! 30 (*patchwork/patchworkref1.reader).fail -/
noncomputable def L_ref1_reader_fail : FuncId → Nat → Option Shape := fun _ _ => none
noncomputable def J_ref1_reader_fail : FuncId → Nat → Option Shape := fun _ _ => none
@[reducible] noncomputable def X_ref1_reader_fail : TX := ⟨cfgX, A, lay, dec, wd, tab22, L_ref1_reader_fail, J_ref1_reader_fail⟩
noncomputable def ref1_reader_fail (v : Unit × ((List UInt8) × Int × Int × Int × Int × Unit) × Int × Int × Unit) : Option (Unit × ((List UInt8) × Int × Int × Int × Int × Unit) × Unit) :=
bK (decide (v.2.1.2.2.2.1 < 0))
 (some ((), (v.2.1.1, v.2.1.2.1, v.2.1.2.2.1, v.2.2.1, v.2.2.2.1, ()), ()))
 (some ((), (v.2.1.1, v.2.1.2.1, v.2.1.2.2.1, v.2.1.2.2.2.1, v.2.1.2.2.2.2.1, ()), ()))
noncomputable def tab23 (g : FuncId) : List (Entry A) := if g = 30 then [⟨[(.tmp 0, .ptr 0 0), (.new 0, .agg [.str, .int .i64, .int .i64, .int .i64, .int .i64]), (.tmp 1, .int .i64), (.tmp 2, .int .i64)], 1, [(.tmp 0, .ptr 0 0), (.new 0, .agg [.str, .int .i64, .int .i64, .int .i64, .int .i64])], ref1_reader_fail⟩] else tab22 g
/-! 41 (*patchwork/patchworkref1.reader).is -/
noncomputable def L_ref1_reader_is : FuncId → Nat → Option Shape := fun _ _ => none
noncomputable def J_ref1_reader_is : FuncId → Nat → Option Shape := fun _ _ => none
@[reducible] noncomputable def X_ref1_reader_is : TX := ⟨cfgX, A, lay, dec, wd, tab23, L_ref1_reader_is, J_ref1_reader_is⟩
noncomputable def ref1_reader_is (v : Unit × ((List UInt8) × Int × Int × Int × Int × Unit) × Int × Unit) : Option (Unit × ((List UInt8) × Int × Int × Int × Int × Unit) × Bool × Unit) :=
bK (decide (v.2.1.2.2.2.1 < 0))
 (bK (decide (v.2.1.2.1 < len v.2.1.1))
  (oK (idx v.2.1.1 v.2.1.2.1) fun b0 =>
  some ((), (v.2.1.1, v.2.1.2.1, v.2.1.2.2.1, v.2.1.2.2.2.1, v.2.1.2.2.2.2.1, ()), decide ((b0.toNat : Int) = v.2.2.1), ()))
  (some ((), (v.2.1.1, v.2.1.2.1, v.2.1.2.2.1, v.2.1.2.2.2.1, v.2.1.2.2.2.2.1, ()), false, ())))
 (some ((), (v.2.1.1, v.2.1.2.1, v.2.1.2.2.1, v.2.1.2.2.2.1, v.2.1.2.2.2.2.1, ()), false, ()))
noncomputable def tab24 (g : FuncId) : List (Entry A) := if g = 41 then [⟨[(.tmp 0, .ptr 0 0), (.new 0, .agg [.str, .int .i64, .int .i64, .int .i64, .int .i64]), (.tmp 1, .int .u8)], 1, [(.tmp 0, .ptr 0 0), (.new 0, .agg [.str, .int .i64, .int .i64, .int .i64, .int .i64]), (.tmp 1, .bool)], ref1_reader_is⟩] else tab23 g
/-! 71 patchwork/patchworkref1.digit -/
noncomputable def L_ref1_digit : FuncId → Nat → Option Shape := fun _ _ => none
noncomputable def J_ref1_digit : FuncId → Nat → Option Shape := fun _ _ => none
@[reducible] noncomputable def X_ref1_digit : TX := ⟨cfgX, A, lay, dec, wd, tab24, L_ref1_digit, J_ref1_digit⟩
noncomputable def ref1_digit (v : Int × Unit) : Option (Bool × Unit) :=
bK (!(decide (v.1 < 48)))
 (some (!(decide (57 < v.1)), ()))
 (some (false, ()))
noncomputable def tab25 (g : FuncId) : List (Entry A) := if g = 71 then [⟨[(.tmp 0, .int .u8)], 0, [(.tmp 0, .bool)], ref1_digit⟩] else tab24 g
/-! 76 patchwork/patchworkref1.class -/
noncomputable def ref1_class_j0 (v : (List UInt8) × Int × Unit) (v0 : Bool × Unit) (v1 : Bool × Unit) : Option (Bool × Bool × Unit) :=
bK (decide (v.1 = ([97, 108, 112, 104, 97] : List UInt8)))
 (bK v0.1
  (some (true, true, ()))
  (some (v1.1, true, ())))
 (bK (decide (v.1 = ([100, 105, 103, 105, 116] : List UInt8)))
  (oK (ref1_digit (v.2.1, ())) fun r2 =>
  some (r2.1, true, ()))
  (bK (decide (v.1 = ([117, 112, 112, 101, 114] : List UInt8)))
   (some (v0.1, true, ()))
   (bK (decide (v.1 = ([108, 111, 119, 101, 114] : List UInt8)))
    (some (v1.1, true, ()))
    (bK (decide (v.1 = ([97, 108, 110, 117, 109] : List UInt8)))
     (bK v0.1
      (some (true, true, ()))
      (bK v1.1
       (some (true, true, ()))
       (oK (ref1_digit (v.2.1, ())) fun r3 =>
       some (r3.1, true, ()))))
     (bK (decide (v.1 = ([115, 112, 97, 99, 101] : List UInt8)))
      (bK (!(decide (v.2.1 < 9)))
       (bK (!(decide (13 < v.2.1)))
        (some (true, true, ()))
        (some (decide (v.2.1 = 32), true, ())))
       (some (decide (v.2.1 = 32), true, ())))
      (some (false, false, ())))))))
noncomputable def ref1_class_j1 (v : (List UInt8) × Int × Unit) (v0 : Bool × Unit) : Option (Bool × Bool × Unit) :=
bK (!(decide (v.2.1 < 97)))
 (joinB (box (ref1_class_j0 v v0)) (!(decide (122 < v.2.1)), ()))
 (joinB (box (ref1_class_j0 v v0)) (false, ()))
noncomputable def L_ref1_class : FuncId → Nat → Option Shape := fun _ _ => none
noncomputable def J_ref1_class : FuncId → Nat → Option Shape := fun f i => match f, i with
    | 76, 3 => some ⟨[(.tmp 7, .bool)], [14, 15, 16, 17, 18, 19]⟩
    | 76, 2 => some ⟨[(.tmp 6, .bool)], [8, 9, 10, 11, 12, 13]⟩
    | _, _ => none
@[reducible] noncomputable def X_ref1_class : TX := ⟨cfgX, A, lay, dec, wd, tab25, L_ref1_class, J_ref1_class⟩
noncomputable def ref1_class (v : (List UInt8) × Int × Unit) : Option (Bool × Bool × Unit) :=
bK (!(decide (v.2.1 < 65)))
 (joinB (box (ref1_class_j1 v)) (!(decide (90 < v.2.1)), ()))
 (joinB (box (ref1_class_j1 v)) (false, ()))
noncomputable def tab26 (g : FuncId) : List (Entry A) := if g = 76 then [⟨[(.tmp 0, .str), (.tmp 1, .int .u8)], 0, [(.tmp 0, .bool), (.tmp 1, .bool)], ref1_class⟩] else tab25 g
/-! 69 patchwork/patchworkref1.inside -/
noncomputable def ref1_inside_j0 (rec0 : (Int × Unit) → Option (Bool × Unit)) (v1 : Int × Unit) (v2 : Unit) : Option (Bool × Unit) :=
rec0 (IntKind.wrap .i64 (v1.1 + 1), ())
noncomputable def ref1_inside_l1 (v : (List Ref1Member) × Int × Unit) (rec0 : (Int × Unit) → Option (Bool × Unit)) (v1 : Int × Unit) : Option (Bool × Unit) :=
bK (decide (v1.1 < len v.1))
 (oK (idx v.1 v1.1) fun x3 =>
 bK (!(decide (x3.class_ = ([] : List UInt8))))
  (oK (idx v.1 v1.1) fun x4 =>
  oK (ref1_class (x4.class_, v.2.1, ())) fun r5 =>
  bK r5.1
   (some (true, ()))
   (joinB (box (ref1_inside_j0 rec0 v1)) (())))
  (oK (idx v.1 v1.1) fun x6 =>
  bK (!(decide (IntKind.wrap .i64 (v.2.1) < x6.from_)))
   (oK (idx v.1 v1.1) fun x7 =>
   bK (!(decide (x7.to_ < IntKind.wrap .i64 (v.2.1))))
    (some (true, ()))
    (joinB (box (ref1_inside_j0 rec0 v1)) (())))
   (joinB (box (ref1_inside_j0 rec0 v1)) (()))))
 (some (false, ()))
noncomputable def L_ref1_inside : FuncId → Nat → Option Shape := fun f i => match f, i with
    | 69, 2 => some ⟨[(.tmp 5, .int .i64)], [8, 9, 10, 11, 14, 15, 16, 17, 18, 19, 21, 22, 23, 24, 25, 26, 27, 20, 28, 29, 6, 7, 30, 4, 31, 32, 33, 34, 35, 36, 37, 38, 39, 40, 41, 42, 43, 44, 45, 46, 47, 48, 12, 13]⟩
    | _, _ => none
noncomputable def J_ref1_inside : FuncId → Nat → Option Shape := fun f i => match f, i with
    | 69, 3 => some ⟨[], [14, 15, 16, 17, 18, 19, 21, 22, 23, 24, 25, 26, 27, 20, 28, 29, 6, 7, 30, 4, 31, 32, 33, 34, 35, 36, 37, 38, 39, 40, 41, 42, 43, 44, 45, 46, 47, 48]⟩
    | _, _ => none
@[reducible] noncomputable def X_ref1_inside : TX := ⟨cfgX, A, lay, dec, wd, tab26, L_ref1_inside, J_ref1_inside⟩
noncomputable def ref1_inside_k (k : Nat) (v : (List Ref1Member) × Int × Unit) : Option (Bool × Unit) :=
fixN (ref1_inside_l1 v) k (0, ())
noncomputable def ref1_inside (v : (List Ref1Member) × Int × Unit) : Option (Bool × Unit) := ref1_inside_k kBig v
noncomputable def tab27 (g : FuncId) : List (Entry A) := if g = 69 then [⟨[(.tmp 0, .row 98 false), (.tmp 1, .int .u8)], 0, [(.tmp 0, .bool)], ref1_inside⟩] else tab26 g
/-! 58 patchwork/patchworkref1.of -/
noncomputable def ref1_of_j0 (rec0 : (Int × (Int × Int × Int × Int × Unit) × Unit) → Option ((Int × Int × Int × Int × Unit) × Unit)) (v1 : Int × (Int × Int × Int × Int × Unit) × Unit) (v2 : (Int × Int × Int × Int × Unit) × Unit) : Option ((Int × Int × Int × Int × Unit) × Unit) :=
rec0 (IntKind.wrap .i64 (v1.1 + 1), (v2.1.1, v2.1.2.1, v2.1.2.2.1, v2.1.2.2.2.1, ()), ())
noncomputable def ref1_of_j1 (rec0 : (Int × (Int × Int × Int × Int × Unit) × Unit) → Option ((Int × Int × Int × Int × Unit) × Unit)) (v1 : Int × (Int × Int × Int × Int × Unit) × Unit) (v3 : Bool × Unit) : Option ((Int × Int × Int × Int × Unit) × Unit) :=
bK v3.1
 (bK (inR (IntKind.wrap .i64 (Int.tdiv v1.1 64)) 4)
  (bK (decide (IntKind.wrap .u64 (Int.tmod v1.1 64) < 0))
   (none)
   (bK (inR (IntKind.wrap .i64 (Int.tdiv v1.1 64)) 4)
    (joinB (box (ref1_of_j0 rec0 v1)) ((nth (setN [v1.2.1.1, v1.2.1.2.1, v1.2.1.2.2.1, v1.2.1.2.2.2.1] (IntKind.wrap .i64 (Int.tdiv v1.1 64)) (IntKind.wrap .u64 ((BitVec.ofInt (IntKind.bits .u64) (nth [v1.2.1.1, v1.2.1.2.1, v1.2.1.2.2.1, v1.2.1.2.2.2.1] (IntKind.wrap .i64 (Int.tdiv v1.1 64)))) ||| (BitVec.ofInt (IntKind.bits .u64) (IntKind.wrap .u64 (1 * 2 ^ (min (IntKind.wrap .u64 (Int.tmod v1.1 64)).toNat (IntKind.bits .u64)))))).toNat)) 0, nth (setN [v1.2.1.1, v1.2.1.2.1, v1.2.1.2.2.1, v1.2.1.2.2.2.1] (IntKind.wrap .i64 (Int.tdiv v1.1 64)) (IntKind.wrap .u64 ((BitVec.ofInt (IntKind.bits .u64) (nth [v1.2.1.1, v1.2.1.2.1, v1.2.1.2.2.1, v1.2.1.2.2.2.1] (IntKind.wrap .i64 (Int.tdiv v1.1 64)))) ||| (BitVec.ofInt (IntKind.bits .u64) (IntKind.wrap .u64 (1 * 2 ^ (min (IntKind.wrap .u64 (Int.tmod v1.1 64)).toNat (IntKind.bits .u64)))))).toNat)) 1, nth (setN [v1.2.1.1, v1.2.1.2.1, v1.2.1.2.2.1, v1.2.1.2.2.2.1] (IntKind.wrap .i64 (Int.tdiv v1.1 64)) (IntKind.wrap .u64 ((BitVec.ofInt (IntKind.bits .u64) (nth [v1.2.1.1, v1.2.1.2.1, v1.2.1.2.2.1, v1.2.1.2.2.2.1] (IntKind.wrap .i64 (Int.tdiv v1.1 64)))) ||| (BitVec.ofInt (IntKind.bits .u64) (IntKind.wrap .u64 (1 * 2 ^ (min (IntKind.wrap .u64 (Int.tmod v1.1 64)).toNat (IntKind.bits .u64)))))).toNat)) 2, nth (setN [v1.2.1.1, v1.2.1.2.1, v1.2.1.2.2.1, v1.2.1.2.2.2.1] (IntKind.wrap .i64 (Int.tdiv v1.1 64)) (IntKind.wrap .u64 ((BitVec.ofInt (IntKind.bits .u64) (nth [v1.2.1.1, v1.2.1.2.1, v1.2.1.2.2.1, v1.2.1.2.2.2.1] (IntKind.wrap .i64 (Int.tdiv v1.1 64)))) ||| (BitVec.ofInt (IntKind.bits .u64) (IntKind.wrap .u64 (1 * 2 ^ (min (IntKind.wrap .u64 (Int.tmod v1.1 64)).toNat (IntKind.bits .u64)))))).toNat)) 3, ()), ()))
    (none)))
  (none))
 (joinB (box (ref1_of_j0 rec0 v1)) ((v1.2.1.1, v1.2.1.2.1, v1.2.1.2.2.1, v1.2.1.2.2.2.1, ()), ()))
noncomputable def ref1_of_l2 (v : (List Ref1Member) × Bool × Unit) (rec0 : (Int × (Int × Int × Int × Int × Unit) × Unit) → Option ((Int × Int × Int × Int × Unit) × Unit)) (v1 : Int × (Int × Int × Int × Int × Unit) × Unit) : Option ((Int × Int × Int × Int × Unit) × Unit) :=
bK (decide (v1.1 < 256))
 (bK v.2.1
  (bK (!(decide (v1.1 = 10)))
   (oK (ref1_inside (v.1, IntKind.wrap .u8 (v1.1), ())) fun r4 =>
   bK (!r4.1)
    (joinB (box (ref1_of_j1 rec0 v1)) (true, ()))
    (bK (!v.2.1)
     (oK (ref1_inside (v.1, IntKind.wrap .u8 (v1.1), ())) fun r5 =>
     joinB (box (ref1_of_j1 rec0 v1)) (r5.1, ()))
     (joinB (box (ref1_of_j1 rec0 v1)) (false, ()))))
   (bK (!v.2.1)
    (oK (ref1_inside (v.1, IntKind.wrap .u8 (v1.1), ())) fun r6 =>
    joinB (box (ref1_of_j1 rec0 v1)) (r6.1, ()))
    (joinB (box (ref1_of_j1 rec0 v1)) (false, ()))))
  (bK (!v.2.1)
   (oK (ref1_inside (v.1, IntKind.wrap .u8 (v1.1), ())) fun r7 =>
   joinB (box (ref1_of_j1 rec0 v1)) (r7.1, ()))
   (joinB (box (ref1_of_j1 rec0 v1)) (false, ()))))
 (some ((v1.2.1.1, v1.2.1.2.1, v1.2.1.2.2.1, v1.2.1.2.2.2.1, ()), ()))
noncomputable def L_ref1_of : FuncId → Nat → Option Shape := fun f i => match f, i with
    | 58, 3 => some ⟨[(.tmp 6, .int .i64), (.loc 1, .agg [.int .u64, .int .u64, .int .u64, .int .u64])], [7, 8, 11, 12, 13, 14, 15, 16, 17, 18, 19, 20, 21, 22, 23, 24, 25, 26, 27, 28, 29, 30, 31, 32, 33, 34, 35, 36, 37, 38, 39, 40, 41, 42, 43, 44, 9, 10]⟩
    | _, _ => none
noncomputable def J_ref1_of : FuncId → Nat → Option Shape := fun f i => match f, i with
    | 58, 4 => some ⟨[(.loc 1, .agg [.int .u64, .int .u64, .int .u64, .int .u64])], [11, 12, 13, 14, 15, 16, 17, 18, 19, 20, 21, 22, 23, 24, 25, 26, 27, 28, 29, 30, 31, 32, 33, 34, 35, 36, 37, 38, 39, 40, 41, 42, 43, 44]⟩
    | 58, 6 => some ⟨[(.tmp 32, .bool)], [11, 12, 13, 14, 15, 16, 17, 18, 19, 20, 21, 22, 23, 24, 25, 26, 27, 28, 29, 30, 31]⟩
    | _, _ => none
@[reducible] noncomputable def X_ref1_of : TX := ⟨cfgX, A, lay, dec, wd, tab27, L_ref1_of, J_ref1_of⟩
noncomputable def ref1_of_k (k : Nat) (v : (List Ref1Member) × Bool × Unit) : Option ((Int × Int × Int × Int × Unit) × Unit) :=
fixN (ref1_of_l2 v) k (0, (0, 0, 0, 0, ()), ())
noncomputable def ref1_of (v : (List Ref1Member) × Bool × Unit) : Option ((Int × Int × Int × Int × Unit) × Unit) := ref1_of_k kBig v
noncomputable def tab28 (g : FuncId) : List (Entry A) := if g = 58 then [⟨[(.tmp 0, .row 98 false), (.tmp 1, .bool)], 0, [(.tmp 0, .agg [.int .u64, .int .u64, .int .u64, .int .u64])], ref1_of⟩] else tab27 g
/-! 59 patchwork/patchworkref1.only -/
noncomputable def L_ref1_only : FuncId → Nat → Option Shape := fun _ _ => none
noncomputable def J_ref1_only : FuncId → Nat → Option Shape := fun _ _ => none
@[reducible] noncomputable def X_ref1_only : TX := ⟨cfgX, A, lay, dec, wd, tab28, L_ref1_only, J_ref1_only⟩
noncomputable def ref1_only (v : Int × Unit) : Option (Node × Unit) :=
oK (ref1_of (([(Ref1Member.mk 0 (IntKind.wrap .i64 (v.1)) (IntKind.wrap .i64 (v.1)) ([] : List UInt8))] : List Ref1Member), false, ())) fun r0 =>
some ((Node.mk 2 r0.1.1 r0.1.2.1 r0.1.2.2.1 r0.1.2.2.2.1 [] 0 0), ())
noncomputable def tab29 (g : FuncId) : List (Entry A) := if g = 59 then [⟨[(.tmp 0, .int .u8)], 0, [(.tmp 0, .sct 27)], ref1_only⟩] else tab28 g
/-! 77 patchwork/patchworkref1.classAt -/
noncomputable def ref1_classAt_j0 (rec1 : (Int × Unit) → Option ((List UInt8) × Int × Unit)) (v2 : Int × Unit) (v3 : Unit) : Option ((List UInt8) × Int × Unit) :=
rec1 (IntKind.wrap .i64 (v2.1 + 1), ())
noncomputable def ref1_classAt_j1 (v : (List UInt8) × Int × Unit) (rec1 : (Int × Unit) → Option ((List UInt8) × Int × Unit)) (v2 : Int × Unit) (v4 : Bool × Unit) : Option ((List UInt8) × Int × Unit) :=
bK v4.1
 (bK (okSl (IntKind.wrap .i64 (v.2.1 + 2)) v2.1 (len v.1))
  (oK (ref1_class ((slc v.1 (IntKind.wrap .i64 (v.2.1 + 2)) v2.1), 0, ())) fun r5 =>
  bK r5.2.1
   (bK (okSl (IntKind.wrap .i64 (v.2.1 + 2)) v2.1 (len v.1))
    (some ((slc v.1 (IntKind.wrap .i64 (v.2.1 + 2)) v2.1), IntKind.wrap .i64 (v2.1 + 2), ()))
    (none))
   (joinB (box (ref1_classAt_j0 rec1 v2)) (())))
  (none))
 (joinB (box (ref1_classAt_j0 rec1 v2)) (()))
noncomputable def ref1_classAt_l2 (v : (List UInt8) × Int × Unit) (rec1 : (Int × Unit) → Option ((List UInt8) × Int × Unit)) (v2 : Int × Unit) : Option ((List UInt8) × Int × Unit) :=
bK (decide (IntKind.wrap .i64 (v2.1 + 1) < len v.1))
 (oK (idx v.1 v2.1) fun b6 =>
 bK (decide ((b6.toNat : Int) = 58))
  (oK (idx v.1 (IntKind.wrap .i64 (v2.1 + 1))) fun b7 =>
  joinB (box (ref1_classAt_j1 v rec1 v2)) (decide ((b7.toNat : Int) = 93), ()))
  (joinB (box (ref1_classAt_j1 v rec1 v2)) (false, ())))
 (some (([] : List UInt8), 0, ()))
noncomputable def ref1_classAt_j3 (v : (List UInt8) × Int × Unit) (k : Nat) (v0 : Bool × Unit) : Option ((List UInt8) × Int × Unit) :=
bK v0.1
 (fixN (ref1_classAt_l2 v) k (IntKind.wrap .i64 (v.2.1 + 2), ()))
 (some (([] : List UInt8), 0, ()))
noncomputable def L_ref1_classAt : FuncId → Nat → Option Shape := fun f i => match f, i with
    | 77, 3 => some ⟨[(.tmp 6, .int .i64)], [29, 30, 31, 32, 33, 36, 37, 38, 39, 40, 41, 42, 43, 44, 45, 46, 48, 49, 50, 51, 52, 53, 47, 54, 55, 7, 8, 56, 57, 58, 59, 60, 61, 62, 63, 4, 5, 34, 35]⟩
    | _, _ => none
noncomputable def J_ref1_classAt : FuncId → Nat → Option Shape := fun f i => match f, i with
    | 77, 4 => some ⟨[], [36, 37, 38, 39, 40, 41, 42, 43, 44, 45, 46, 48, 49, 50, 51, 52, 53, 47, 54, 55, 7, 8, 56, 57, 58, 59, 60, 61, 62, 63, 4, 5]⟩
    | 77, 6 => some ⟨[(.tmp 46, .bool)], [36, 37, 38, 39, 40, 41, 42, 43, 44, 45]⟩
    | 77, 2 => some ⟨[(.tmp 26, .bool)], [9, 10, 11, 12, 13, 14, 15, 16, 17, 18, 19, 20, 21, 22, 23, 24, 25]⟩
    | _, _ => none
@[reducible] noncomputable def X_ref1_classAt : TX := ⟨cfgX, A, lay, dec, wd, tab29, L_ref1_classAt, J_ref1_classAt⟩
noncomputable def ref1_classAt_k (k : Nat) (v : (List UInt8) × Int × Unit) : Option ((List UInt8) × Int × Unit) :=
bK (decide (IntKind.wrap .i64 (v.2.1 + 1) < len v.1))
 (oK (idx v.1 v.2.1) fun b8 =>
 bK (decide ((b8.toNat : Int) = 91))
  (oK (idx v.1 (IntKind.wrap .i64 (v.2.1 + 1))) fun b9 =>
  joinB (box (ref1_classAt_j3 v k)) (decide ((b9.toNat : Int) = 58), ()))
  (joinB (box (ref1_classAt_j3 v k)) (false, ())))
 (joinB (box (ref1_classAt_j3 v k)) (false, ()))
noncomputable def ref1_classAt (v : (List UInt8) × Int × Unit) : Option ((List UInt8) × Int × Unit) := ref1_classAt_k kBig v
noncomputable def tab30 (g : FuncId) : List (Entry A) := if g = 77 then [⟨[(.tmp 0, .str), (.tmp 1, .int .i64)], 0, [(.tmp 0, .str), (.tmp 1, .int .i64)], ref1_classAt⟩] else tab29 g
/-! 78 patchwork/patchworkref1.one -/
noncomputable def ref1_one_j0 (v : (List UInt8) × Int × Bool × Unit) (v0 : Bool × Unit) : Option (Int × Int × Unit) :=
bK v0.1
 (oK (idx v.1 (IntKind.wrap .i64 (v.2.1 + 1))) fun b1 =>
 some (IntKind.wrap .i64 ((b1.toNat : Int)), IntKind.wrap .i64 (v.2.1 + 2), ()))
 (oK (idx v.1 v.2.1) fun b2 =>
 some (IntKind.wrap .i64 ((b2.toNat : Int)), IntKind.wrap .i64 (v.2.1 + 1), ()))
noncomputable def L_ref1_one : FuncId → Nat → Option Shape := fun _ _ => none
noncomputable def J_ref1_one : FuncId → Nat → Option Shape := fun f i => match f, i with
    | 78, 2 => some ⟨[(.tmp 21, .bool)], [8, 9, 10, 11, 12, 13, 14, 15, 16, 17, 18, 19, 20]⟩
    | _, _ => none
@[reducible] noncomputable def X_ref1_one : TX := ⟨cfgX, A, lay, dec, wd, tab30, L_ref1_one, J_ref1_one⟩
noncomputable def ref1_one (v : (List UInt8) × Int × Bool × Unit) : Option (Int × Int × Unit) :=
bK v.2.2.1
 (oK (idx v.1 v.2.1) fun b3 =>
 bK (decide ((b3.toNat : Int) = 92))
  (joinB (box (ref1_one_j0 v)) (decide (IntKind.wrap .i64 (v.2.1 + 1) < len v.1), ()))
  (joinB (box (ref1_one_j0 v)) (false, ())))
 (joinB (box (ref1_one_j0 v)) (false, ()))
noncomputable def tab31 (g : FuncId) : List (Entry A) := if g = 78 then [⟨[(.tmp 0, .str), (.tmp 1, .int .i64), (.tmp 2, .bool)], 0, [(.tmp 0, .int .i64), (.tmp 1, .int .i64)], ref1_one⟩] else tab30 g
/-! 70 patchwork/patchworkref1.next -/
noncomputable def ref1_next_j0 (v : (List UInt8) × Int × Bool × Unit) (r1 : Int × Int × Unit) (v3 : Bool × Unit) : Option (Ref1Member × Unit) :=
bK v3.1
 (oK (ref1_one (v.1, IntKind.wrap .i64 (r1.2.1 + 1), v.2.2.1, ())) fun r4 =>
 some ((Ref1Member.mk r4.2.1 r1.1 r4.1 ([] : List UInt8)), ()))
 (some ((Ref1Member.mk r1.2.1 r1.1 r1.1 ([] : List UInt8)), ()))
noncomputable def ref1_next_j1 (v : (List UInt8) × Int × Bool × Unit) (r1 : Int × Int × Unit) (v2 : (List UInt8) × Unit) : Option (Ref1Member × Unit) :=
bK (decide (IntKind.wrap .i64 (r1.2.1 + 1) < len v.1))
 (oK (idx v.1 r1.2.1) fun b5 =>
 bK (decide ((b5.toNat : Int) = 45))
  (oK (idx v.1 (IntKind.wrap .i64 (r1.2.1 + 1))) fun b6 =>
  bK (!(decide ((b6.toNat : Int) = 93)))
   (joinB (box (ref1_next_j0 v r1)) (decide (v2.1 = ([] : List UInt8)), ()))
   (joinB (box (ref1_next_j0 v r1)) (false, ())))
  (joinB (box (ref1_next_j0 v r1)) (false, ())))
 (joinB (box (ref1_next_j0 v r1)) (false, ()))
noncomputable def L_ref1_next : FuncId → Nat → Option Shape := fun _ _ => none
noncomputable def J_ref1_next : FuncId → Nat → Option Shape := fun f i => match f, i with
    | 70, 9 => some ⟨[(.tmp 65, .bool)], [44, 45, 46, 47, 48, 49, 50, 51, 52, 53, 54, 55, 56, 57, 58, 59, 60, 61, 62, 63, 64]⟩
    | 70, 8 => some ⟨[(.tmp 11, .str)], [32, 33, 34, 35, 36, 38, 39, 40, 41, 37, 42, 43]⟩
    | _, _ => none
@[reducible] noncomputable def X_ref1_next : TX := ⟨cfgX, A, lay, dec, wd, tab31, L_ref1_next, J_ref1_next⟩
noncomputable def ref1_next (v : (List UInt8) × Int × Bool × Unit) : Option (Ref1Member × Unit) :=
oK (ref1_classAt (v.1, v.2.1, ())) fun r0 =>
bK (!(decide (r0.1 = ([] : List UInt8))))
 (some ((Ref1Member.mk r0.2.1 0 0 r0.1), ()))
 (oK (ref1_one (v.1, v.2.1, v.2.2.1, ())) fun r1 =>
 bK (decide (IntKind.wrap .i64 (r1.2.1 + 1) < len v.1))
  (oK (ref1_classAt (v.1, IntKind.wrap .i64 (r1.2.1 + 1), ())) fun r7 =>
  joinB (box (ref1_next_j1 v r1)) (r7.1, ()))
  (joinB (box (ref1_next_j1 v r1)) (([] : List UInt8), ())))
noncomputable def tab32 (g : FuncId) : List (Entry A) := if g = 70 then [⟨[(.tmp 0, .str), (.tmp 1, .int .i64), (.tmp 2, .bool)], 0, [(.tmp 0, .sct 98)], ref1_next⟩] else tab31 g
/-! 60 patchwork/patchworkref1.set -/
noncomputable def ref1_set_j0 (v : (List UInt8) × Int × (List UInt8) × Bool × Unit) (v0 : Bool × Int × Unit) (rec1 : ((List Ref1Member) × Int × Bool × Unit) → Option ((List Ref1Member) × Bool × Int × Bool × Unit)) (v2 : (List Ref1Member) × Int × Bool × Unit) (v3 : Bool × Unit) : Option ((List Ref1Member) × Bool × Int × Bool × Unit) :=
bK v3.1
 (some (v2.1, v0.1, IntKind.wrap .i64 (v2.2.1 + 1), true, ()))
 (oK (ref1_next (v.1, v2.2.1, v.2.2.2.1, ())) fun r4 =>
 bK (fits 40 (v2.1.length + 1))
  (rec1 ((v2.1 ++ ([r4.1] : List Ref1Member)), r4.1.end_, false, ()))
  (none))
noncomputable def ref1_set_l1 (v : (List UInt8) × Int × (List UInt8) × Bool × Unit) (v0 : Bool × Int × Unit) (rec1 : ((List Ref1Member) × Int × Bool × Unit) → Option ((List Ref1Member) × Bool × Int × Bool × Unit)) (v2 : (List Ref1Member) × Int × Bool × Unit) : Option ((List Ref1Member) × Bool × Int × Bool × Unit) :=
bK (decide (v2.2.1 < len v.1))
 (oK (idx v.1 v2.2.1) fun b5 =>
 bK (decide ((b5.toNat : Int) = 93))
  (joinB (box (ref1_set_j0 v v0 rec1 v2)) (!v2.2.2.1, ()))
  (joinB (box (ref1_set_j0 v v0 rec1 v2)) (false, ())))
 (some ([], false, 0, false, ()))
noncomputable def ref1_set_j2 (v : (List UInt8) × Int × (List UInt8) × Bool × Unit) (k : Nat) (v0 : Bool × Int × Unit) : Option ((List Ref1Member) × Bool × Int × Bool × Unit) :=
fixN (ref1_set_l1 v v0) k ([], v0.2.1, true, ())
noncomputable def ref1_set_j3 (rec6 : (Bool × Int × Int × Unit) → Option ((List Ref1Member) × Bool × Int × Bool × Unit)) (v7 : Bool × Int × Int × Unit) (v8 : Bool × Int × Unit) : Option ((List Ref1Member) × Bool × Int × Bool × Unit) :=
rec6 (v8.1, v8.2.1, IntKind.wrap .i64 (v7.2.2.1 + 1), ())
noncomputable def ref1_set_j4 (rec6 : (Bool × Int × Int × Unit) → Option ((List Ref1Member) × Bool × Int × Bool × Unit)) (v7 : Bool × Int × Int × Unit) (v9 : Bool × Unit) : Option ((List Ref1Member) × Bool × Int × Bool × Unit) :=
bK v9.1
 (joinB (box (ref1_set_j3 rec6 v7)) (true, IntKind.wrap .i64 (v7.2.1 + 1), ()))
 (joinB (box (ref1_set_j3 rec6 v7)) (v7.1, v7.2.1, ()))
noncomputable def ref1_set_l5 (v : (List UInt8) × Int × (List UInt8) × Bool × Unit) (k : Nat) (rec6 : (Bool × Int × Int × Unit) → Option ((List Ref1Member) × Bool × Int × Bool × Unit)) (v7 : Bool × Int × Int × Unit) : Option ((List Ref1Member) × Bool × Int × Bool × Unit) :=
bK (decide (v7.2.2.1 < len v.2.2.1))
 (bK (decide (v7.2.1 < len v.1))
  (oK (idx v.1 v7.2.1) fun b10 =>
  oK (idx v.2.2.1 v7.2.2.1) fun b11 =>
  bK (decide ((b10.toNat : Int) = (b11.toNat : Int)))
   (joinB (box (ref1_set_j4 rec6 v7)) (!v7.1, ()))
   (joinB (box (ref1_set_j4 rec6 v7)) (false, ())))
  (joinB (box (ref1_set_j2 v k)) (v7.1, v7.2.1, ())))
 (joinB (box (ref1_set_j2 v k)) (v7.1, v7.2.1, ()))
noncomputable def L_ref1_set : FuncId → Nat → Option Shape := fun f i => match f, i with
    | 60, 5 => some ⟨[(.tmp 14, .bool), (.tmp 13, .int .i64), (.tmp 15, .int .i64)], [19, 20, 21, 22, 23, 24, 25, 26, 27, 28, 31, 32, 33, 34, 35, 36, 37, 38, 39, 40, 41, 42, 43, 29, 30]⟩
    | 60, 11 => some ⟨[(.tmp 12, .row 98 true), (.tmp 13, .int .i64), (.tmp 16, .bool)], [44, 45, 46, 47, 48, 49, 50, 51, 52, 53, 54, 55, 56, 57, 58, 59, 8, 9, 10, 11, 60, 61, 62, 63, 17, 64, 65, 66, 67, 68, 69]⟩
    | _, _ => none
noncomputable def J_ref1_set : FuncId → Nat → Option Shape := fun f i => match f, i with
    | 60, 14 => some ⟨[(.tmp 55, .bool)], [48, 49, 50, 51, 52, 53, 54]⟩
    | 60, 10 => some ⟨[(.tmp 14, .bool), (.tmp 13, .int .i64)], [15, 19, 20, 21, 22, 23, 24, 25, 26, 27, 28, 31, 32, 33, 34, 35, 36, 37, 38, 39, 40, 41, 42, 43, 29, 30]⟩
    | 60, 6 => some ⟨[(.tmp 14, .bool), (.tmp 13, .int .i64)], [31, 32, 33, 34, 35, 36, 37, 38, 39, 40, 41, 42, 43]⟩
    | 60, 8 => some ⟨[(.tmp 41, .bool)], [31, 32, 33, 34, 35, 36, 37, 38, 39, 40]⟩
    | _, _ => none
@[reducible] noncomputable def X_ref1_set : TX := ⟨cfgX, A, lay, dec, wd, tab32, L_ref1_set, J_ref1_set⟩
noncomputable def ref1_set_k (k : Nat) (v : (List UInt8) × Int × (List UInt8) × Bool × Unit) : Option ((List Ref1Member) × Bool × Int × Bool × Unit) :=
fixN (ref1_set_l5 v k) k (false, v.2.1, 0, ())
noncomputable def ref1_set (v : (List UInt8) × Int × (List UInt8) × Bool × Unit) : Option ((List Ref1Member) × Bool × Int × Bool × Unit) := ref1_set_k kBig v
noncomputable def tab33 (g : FuncId) : List (Entry A) := if g = 60 then [⟨[(.tmp 0, .str), (.tmp 1, .int .i64), (.tmp 2, .str), (.tmp 3, .bool)], 0, [(.tmp 0, .row 98 false), (.tmp 1, .bool), (.tmp 2, .int .i64), (.tmp 3, .bool)], ref1_set⟩] else tab32 g
/-! 61 (*patchwork/patchworkref1.reader).number -/
noncomputable def ref1_reader_number_j0 (v : Unit × ((List UInt8) × Int × Int × Int × Int × Unit) × Int × Unit) (v0 : Int × Int × Unit) : Option (Unit × ((List UInt8) × Int × Int × Int × Int × Unit) × Int × Int × Bool × Unit) :=
bK (decide (v.2.2.1 < v0.2.1))
 (some ((), (v.2.1.1, v.2.1.2.1, v.2.1.2.2.1, v.2.1.2.2.2.1, v.2.1.2.2.2.2.1, ()), v0.1, v0.2.1, !(decide (200 < v0.1)), ()))
 (some ((), (v.2.1.1, v.2.1.2.1, v.2.1.2.2.1, v.2.1.2.2.2.1, v.2.1.2.2.2.2.1, ()), v0.1, v0.2.1, false, ()))
noncomputable def ref1_reader_number_l1 (v : Unit × ((List UInt8) × Int × Int × Int × Int × Unit) × Int × Unit) (rec1 : (Int × Int × Unit) → Option (Unit × ((List UInt8) × Int × Int × Int × Int × Unit) × Int × Int × Bool × Unit)) (v2 : Int × Int × Unit) : Option (Unit × ((List UInt8) × Int × Int × Int × Int × Unit) × Int × Int × Bool × Unit) :=
bK (decide (v2.2.1 < len v.2.1.1))
 (oK (idx v.2.1.1 v2.2.1) fun b3 =>
 oK (ref1_digit ((b3.toNat : Int), ())) fun r4 =>
 bK r4.1
  (bK (decide (IntKind.wrap .i64 (v2.2.1 - v.2.2.1) = 3))
   (some ((), (v.2.1.1, v.2.1.2.1, v.2.1.2.2.1, v.2.1.2.2.2.1, v.2.1.2.2.2.2.1, ()), 0, 0, false, ()))
   (oK (idx v.2.1.1 v2.2.1) fun b5 =>
   rec1 (IntKind.wrap .i64 ((IntKind.wrap .i64 (10 * v2.1)) + (IntKind.wrap .i64 (IntKind.wrap .u8 ((b5.toNat : Int) - 48)))), IntKind.wrap .i64 (v2.2.1 + 1), ())))
  (joinB (box (ref1_reader_number_j0 v)) (v2.1, v2.2.1, ())))
 (joinB (box (ref1_reader_number_j0 v)) (v2.1, v2.2.1, ()))
noncomputable def L_ref1_reader_number : FuncId → Nat → Option Shape := fun f i => match f, i with
    | 61, 3 => some ⟨[(.tmp 7, .int .i64), (.tmp 8, .int .i64)], [10, 11, 12, 13, 14, 15, 16, 17, 18, 19, 20, 21, 22, 23, 24, 25, 26, 27, 28, 29, 4, 5, 6, 30, 31, 32, 33, 34, 35, 36, 37, 38, 39, 40, 41, 42]⟩
    | _, _ => none
noncomputable def J_ref1_reader_number : FuncId → Nat → Option Shape := fun f i => match f, i with
    | 61, 8 => some ⟨[(.tmp 7, .int .i64), (.tmp 8, .int .i64)], [10, 11, 12, 13, 14, 15, 16, 17, 18, 19, 20, 21, 22, 23, 24, 25, 26, 27, 28, 29, 4, 5, 6, 30, 31, 32, 33, 34, 35, 36, 37, 38, 39, 40, 41, 42]⟩
    | _, _ => none
@[reducible] noncomputable def X_ref1_reader_number : TX := ⟨cfgX, A, lay, dec, wd, tab33, L_ref1_reader_number, J_ref1_reader_number⟩
noncomputable def ref1_reader_number_k (k : Nat) (v : Unit × ((List UInt8) × Int × Int × Int × Int × Unit) × Int × Unit) : Option (Unit × ((List UInt8) × Int × Int × Int × Int × Unit) × Int × Int × Bool × Unit) :=
fixN (ref1_reader_number_l1 v) k (0, v.2.2.1, ())
noncomputable def ref1_reader_number (v : Unit × ((List UInt8) × Int × Int × Int × Int × Unit) × Int × Unit) : Option (Unit × ((List UInt8) × Int × Int × Int × Int × Unit) × Int × Int × Bool × Unit) := ref1_reader_number_k kBig v
noncomputable def tab34 (g : FuncId) : List (Entry A) := if g = 61 then [⟨[(.tmp 0, .ptr 0 0), (.new 0, .agg [.str, .int .i64, .int .i64, .int .i64, .int .i64]), (.tmp 1, .int .i64)], 1, [(.tmp 0, .ptr 0 0), (.new 0, .agg [.str, .int .i64, .int .i64, .int .i64, .int .i64]), (.tmp 1, .int .i64), (.tmp 2, .int .i64), (.tmp 3, .bool)], ref1_reader_number⟩] else tab33 g
/-! 54 (*patchwork/patchworkref1.reader).times -/
noncomputable def ref1_reader_times_j0 (v : Unit × ((List UInt8) × Int × Int × Int × Int × Unit) × Unit) (r0 : Unit × ((List UInt8) × Int × Int × Int × Int × Unit) × Int × Int × Bool × Unit) (v1 : Int × Int × Bool × ((List UInt8) × Int × Int × Int × Int × Unit) × Unit) (v2 : Bool × Unit) : Option (Unit × ((List UInt8) × Int × Int × Int × Int × Unit) × Int × Int × Unit) :=
bK v2.1
 (oK (ref1_reader_fail ((), (v1.2.2.2.1.1, v1.2.2.2.1.2.1, v1.2.2.2.1.2.2.1, v1.2.2.2.1.2.2.2.1, v1.2.2.2.1.2.2.2.2.1, ()), v.2.1.2.1, 2, ())) fun r3 =>
 some ((), (r3.2.1.1, r3.2.1.2.1, r3.2.1.2.2.1, r3.2.1.2.2.2.1, r3.2.1.2.2.2.2.1, ()), 0, 0, ()))
 (some ((), (v1.2.2.2.1.1, IntKind.wrap .i64 (v1.1 + 1), v1.2.2.2.1.2.2.1, v1.2.2.2.1.2.2.2.1, v1.2.2.2.1.2.2.2.2.1, ()), r0.2.2.1, v1.2.1, ()))
noncomputable def ref1_reader_times_j1 (v : Unit × ((List UInt8) × Int × Int × Int × Int × Unit) × Unit) (r0 : Unit × ((List UInt8) × Int × Int × Int × Int × Unit) × Int × Int × Bool × Unit) (v1 : Int × Int × Bool × ((List UInt8) × Int × Int × Int × Int × Unit) × Unit) : Option (Unit × ((List UInt8) × Int × Int × Int × Int × Unit) × Int × Int × Unit) :=
bK (!v1.2.2.1)
 (joinB (box (ref1_reader_times_j0 v r0 v1)) (true, ()))
 (bK (!(decide (v1.1 < len v1.2.2.2.1.1)))
  (joinB (box (ref1_reader_times_j0 v r0 v1)) (true, ()))
  (oK (idx v1.2.2.2.1.1 v1.1) fun b4 =>
  joinB (box (ref1_reader_times_j0 v r0 v1)) (!(decide ((b4.toNat : Int) = 125)), ())))
noncomputable def ref1_reader_times_j2 (v : Unit × ((List UInt8) × Int × Int × Int × Int × Unit) × Unit) (r0 : Unit × ((List UInt8) × Int × Int × Int × Int × Unit) × Int × Int × Bool × Unit) (v6 : Bool × Unit) : Option (Unit × ((List UInt8) × Int × Int × Int × Int × Unit) × Int × Int × Unit) :=
bK v6.1
 (oK (ref1_reader_number ((), (r0.2.1.1, r0.2.1.2.1, r0.2.1.2.2.1, r0.2.1.2.2.2.1, r0.2.1.2.2.2.2.1, ()), IntKind.wrap .i64 (r0.2.2.2.1 + 1), ())) fun r7 =>
 bK r7.2.2.2.2.1
  (joinB (box (ref1_reader_times_j1 v r0)) (r7.2.2.2.1, r7.2.2.1, !(decide (r7.2.2.1 < r0.2.2.1)), (r7.2.1.1, r7.2.1.2.1, r7.2.1.2.2.1, r7.2.1.2.2.2.1, r7.2.1.2.2.2.2.1, ()), ()))
  (joinB (box (ref1_reader_times_j1 v r0)) (r7.2.2.2.1, r7.2.2.1, false, (r7.2.1.1, r7.2.1.2.1, r7.2.1.2.2.1, r7.2.1.2.2.2.1, r7.2.1.2.2.2.2.1, ()), ())))
 (joinB (box (ref1_reader_times_j1 v r0)) (IntKind.wrap .i64 (r0.2.2.2.1 + 1), (-1), r0.2.2.2.2.1, (r0.2.1.1, r0.2.1.2.1, r0.2.1.2.2.1, r0.2.1.2.2.2.1, r0.2.1.2.2.2.2.1, ()), ()))
noncomputable def ref1_reader_times_j3 (v : Unit × ((List UInt8) × Int × Int × Int × Int × Unit) × Unit) (r0 : Unit × ((List UInt8) × Int × Int × Int × Int × Unit) × Int × Int × Bool × Unit) (v5 : Bool × Unit) : Option (Unit × ((List UInt8) × Int × Int × Int × Int × Unit) × Int × Int × Unit) :=
bK v5.1
 (bK (decide (IntKind.wrap .i64 (r0.2.2.2.1 + 1) < len r0.2.1.1))
  (oK (idx r0.2.1.1 (IntKind.wrap .i64 (r0.2.2.2.1 + 1))) fun b8 =>
  joinB (box (ref1_reader_times_j2 v r0)) (!(decide ((b8.toNat : Int) = 125)), ()))
  (joinB (box (ref1_reader_times_j2 v r0)) (false, ())))
 (joinB (box (ref1_reader_times_j1 v r0)) (r0.2.2.2.1, r0.2.2.1, r0.2.2.2.2.1, (r0.2.1.1, r0.2.1.2.1, r0.2.1.2.2.1, r0.2.1.2.2.2.1, r0.2.1.2.2.2.2.1, ()), ()))
noncomputable def L_ref1_reader_times : FuncId → Nat → Option Shape := fun _ _ => none
noncomputable def J_ref1_reader_times : FuncId → Nat → Option Shape := fun f i => match f, i with
    | 54, 11 => some ⟨[(.tmp 91, .bool)], [72, 73, 74, 75, 76, 77, 78, 79, 80, 81, 82, 83, 84, 85, 86, 87, 88, 89, 90]⟩
    | 54, 10 => some ⟨[(.tmp 6, .int .i64), (.tmp 8, .int .i64), (.tmp 7, .bool), (.loc 0, .agg [.str, .int .i64, .int .i64, .int .i64, .int .i64])], [22, 23, 24, 25, 26, 27, 28, 29, 30, 31, 32, 33, 34, 35, 36, 37, 38, 39, 40, 41, 42, 43, 44, 45, 46, 47, 48, 49, 50, 51, 52, 53, 54, 55, 56, 57, 58, 60, 61, 62, 59, 63, 64, 65, 66, 67, 68, 69, 70, 71]⟩
    | 54, 8 => some ⟨[(.tmp 58, .bool)], [43, 44, 45, 46, 47, 48, 49, 50, 51, 52, 53, 54, 55, 56, 57]⟩
    | 54, 5 => some ⟨[(.tmp 40, .bool)], [22, 23, 24, 25, 26, 27, 28, 29, 30, 31, 32, 33, 34, 35, 36, 37, 38, 39]⟩
    | _, _ => none
@[reducible] noncomputable def X_ref1_reader_times : TX := ⟨cfgX, A, lay, dec, wd, tab34, L_ref1_reader_times, J_ref1_reader_times⟩
noncomputable def ref1_reader_times (v : Unit × ((List UInt8) × Int × Int × Int × Int × Unit) × Unit) : Option (Unit × ((List UInt8) × Int × Int × Int × Int × Unit) × Int × Int × Unit) :=
oK (ref1_reader_number ((), (v.2.1.1, v.2.1.2.1, v.2.1.2.2.1, v.2.1.2.2.2.1, v.2.1.2.2.2.2.1, ()), IntKind.wrap .i64 (v.2.1.2.1 + 1), ())) fun r0 =>
bK r0.2.2.2.2.1
 (bK (decide (r0.2.2.2.1 < len r0.2.1.1))
  (oK (idx r0.2.1.1 r0.2.2.2.1) fun b9 =>
  joinB (box (ref1_reader_times_j3 v r0)) (decide ((b9.toNat : Int) = 44), ()))
  (joinB (box (ref1_reader_times_j3 v r0)) (false, ())))
 (joinB (box (ref1_reader_times_j3 v r0)) (false, ()))
noncomputable def tab35 (g : FuncId) : List (Entry A) := if g = 54 then [⟨[(.tmp 0, .ptr 0 0), (.new 0, .agg [.str, .int .i64, .int .i64, .int .i64, .int .i64])], 1, [(.tmp 0, .ptr 0 0), (.new 0, .agg [.str, .int .i64, .int .i64, .int .i64, .int .i64]), (.tmp 1, .int .i64), (.tmp 2, .int .i64)], ref1_reader_times⟩] else tab34 g
/-! 53 (*patchwork/patchworkref1.reader).atom -/
noncomputable def ref1_reader_atom_j0 (v : Unit × ((List UInt8) × Int × Int × Int × Int × Unit) × Unit) (b0 : UInt8) (v12 : Bool × Unit) : Option (Unit × ((List UInt8) × Int × Int × Int × Int × Unit) × Node × Unit) :=
bK v12.1
 (oK (ref1_reader_fail ((), (v.2.1.1, IntKind.wrap .i64 (v.2.1.2.1 + 1), v.2.1.2.2.1, v.2.1.2.2.2.1, v.2.1.2.2.2.2.1, ()), v.2.1.2.1, 2, ())) fun r13 =>
 some ((), (r13.2.1.1, r13.2.1.2.1, r13.2.1.2.2.1, r13.2.1.2.2.2.1, r13.2.1.2.2.2.2.1, ()), (Node.mk 0 0 0 0 0 [] 0 0), ()))
 (oK (ref1_only ((b0.toNat : Int), ())) fun r14 =>
 some ((), (v.2.1.1, IntKind.wrap .i64 (v.2.1.2.1 + 1), v.2.1.2.2.1, v.2.1.2.2.2.1, v.2.1.2.2.2.2.1, ()), (Node.mk r14.1.kind r14.1.set0 r14.1.set1 r14.1.set2 r14.1.set3 r14.1.kids r14.1.min r14.1.max), ()))
noncomputable def L_ref1_reader_atom : FuncId → Nat → Option Shape := fun _ _ => none
noncomputable def J_ref1_reader_atom : FuncId → Nat → Option Shape := fun f i => match f, i with
    | 53, 42 => some ⟨[(.tmp 150, .bool)], [151, 152, 153, 154, 155, 156]⟩
    | _, _ => none
@[reducible] noncomputable def X_ref1_reader_atom (r_ref1_reader_atom : (Unit × ((List UInt8) × Int × Int × Int × Int × Unit) × Unit) → Option (Unit × ((List UInt8) × Int × Int × Int × Int × Unit) × Node × Unit)) (r_ref1_reader_piece : (Unit × ((List UInt8) × Int × Int × Int × Int × Unit) × Unit) → Option (Unit × ((List UInt8) × Int × Int × Int × Int × Unit) × Node × Unit)) (r_ref1_reader_branch : (Unit × ((List UInt8) × Int × Int × Int × Int × Unit) × Unit) → Option (Unit × ((List UInt8) × Int × Int × Int × Int × Unit) × Node × Unit)) (r_ref1_reader_branches : (Unit × ((List UInt8) × Int × Int × Int × Int × Unit) × Unit) → Option (Unit × ((List UInt8) × Int × Int × Int × Int × Unit) × Node × Unit)) : TX := ⟨cfgX, A, lay, dec, wd, fun g => if g = 53 then [⟨[(.tmp 0, .ptr 0 0), (.new 0, .agg [.str, .int .i64, .int .i64, .int .i64, .int .i64])], 1, [(.tmp 0, .ptr 0 0), (.new 0, .agg [.str, .int .i64, .int .i64, .int .i64, .int .i64]), (.tmp 1, .sct 27)], r_ref1_reader_atom⟩] else if g = 50 then [⟨[(.tmp 0, .ptr 0 0), (.new 0, .agg [.str, .int .i64, .int .i64, .int .i64, .int .i64])], 1, [(.tmp 0, .ptr 0 0), (.new 0, .agg [.str, .int .i64, .int .i64, .int .i64, .int .i64]), (.tmp 1, .sct 27)], r_ref1_reader_piece⟩] else if g = 40 then [⟨[(.tmp 0, .ptr 0 0), (.new 0, .agg [.str, .int .i64, .int .i64, .int .i64, .int .i64])], 1, [(.tmp 0, .ptr 0 0), (.new 0, .agg [.str, .int .i64, .int .i64, .int .i64, .int .i64]), (.tmp 1, .sct 27)], r_ref1_reader_branch⟩] else if g = 29 then [⟨[(.tmp 0, .ptr 0 0), (.new 0, .agg [.str, .int .i64, .int .i64, .int .i64, .int .i64])], 1, [(.tmp 0, .ptr 0 0), (.new 0, .agg [.str, .int .i64, .int .i64, .int .i64, .int .i64]), (.tmp 1, .sct 27)], r_ref1_reader_branches⟩] else tab35 g, L_ref1_reader_atom, J_ref1_reader_atom⟩
noncomputable def ref1_reader_atom_b (r_ref1_reader_atom : (Unit × ((List UInt8) × Int × Int × Int × Int × Unit) × Unit) → Option (Unit × ((List UInt8) × Int × Int × Int × Int × Unit) × Node × Unit)) (r_ref1_reader_piece : (Unit × ((List UInt8) × Int × Int × Int × Int × Unit) × Unit) → Option (Unit × ((List UInt8) × Int × Int × Int × Int × Unit) × Node × Unit)) (r_ref1_reader_branch : (Unit × ((List UInt8) × Int × Int × Int × Int × Unit) × Unit) → Option (Unit × ((List UInt8) × Int × Int × Int × Int × Unit) × Node × Unit)) (r_ref1_reader_branches : (Unit × ((List UInt8) × Int × Int × Int × Int × Unit) × Unit) → Option (Unit × ((List UInt8) × Int × Int × Int × Int × Unit) × Node × Unit)) (k : Nat) (v : Unit × ((List UInt8) × Int × Int × Int × Int × Unit) × Unit) : Option (Unit × ((List UInt8) × Int × Int × Int × Int × Unit) × Node × Unit) :=
oK (idx v.2.1.1 v.2.1.2.1) fun b0 =>
bK (decide ((b0.toNat : Int) = 40))
 (bK (decide (30 < IntKind.wrap .i64 (v.2.1.2.2.1 + 1)))
  (oK (ref1_reader_fail ((), (v.2.1.1, IntKind.wrap .i64 (v.2.1.2.1 + 1), IntKind.wrap .i64 (v.2.1.2.2.1 + 1), v.2.1.2.2.2.1, v.2.1.2.2.2.2.1, ()), v.2.1.2.1, 4, ())) fun r1 =>
  some ((), (r1.2.1.1, r1.2.1.2.1, r1.2.1.2.2.1, r1.2.1.2.2.2.1, r1.2.1.2.2.2.2.1, ()), (Node.mk 0 0 0 0 0 [] 0 0), ()))
  (oK (r_ref1_reader_branches ((), (v.2.1.1, IntKind.wrap .i64 (v.2.1.2.1 + 1), IntKind.wrap .i64 (v.2.1.2.2.1 + 1), v.2.1.2.2.2.1, v.2.1.2.2.2.2.1, ()), ())) fun r2 =>
  oK (ref1_reader_is ((), (r2.2.1.1, r2.2.1.2.1, r2.2.1.2.2.1, r2.2.1.2.2.2.1, r2.2.1.2.2.2.2.1, ()), 41, ())) fun r3 =>
  bK (!r3.2.2.1)
   (oK (ref1_reader_fail ((), (r3.2.1.1, r3.2.1.2.1, r3.2.1.2.2.1, r3.2.1.2.2.2.1, r3.2.1.2.2.2.2.1, ()), r3.2.1.2.1, 2, ())) fun r4 =>
   some ((), (r4.2.1.1, r4.2.1.2.1, r4.2.1.2.2.1, r4.2.1.2.2.2.1, r4.2.1.2.2.2.2.1, ()), (Node.mk 0 0 0 0 0 [] 0 0), ()))
   (some ((), (r3.2.1.1, IntKind.wrap .i64 (r3.2.1.2.1 + 1), IntKind.wrap .i64 (r3.2.1.2.2.1 - 1), r3.2.1.2.2.2.1, r3.2.1.2.2.2.2.1, ()), (Node.mk r2.2.2.1.kind r2.2.2.1.set0 r2.2.2.1.set1 r2.2.2.1.set2 r2.2.2.1.set3 r2.2.2.1.kids r2.2.2.1.min r2.2.2.1.max), ()))))
 (bK (decide ((b0.toNat : Int) = 46))
  (oK (ref1_of ([], true, ())) fun r5 =>
  some ((), (v.2.1.1, IntKind.wrap .i64 (v.2.1.2.1 + 1), v.2.1.2.2.1, v.2.1.2.2.2.1, v.2.1.2.2.2.2.1, ()), (Node.mk 2 r5.1.1 r5.1.2.1 r5.1.2.2.1 r5.1.2.2.2.1 [] 0 0), ()))
  (bK (decide ((b0.toNat : Int) = 94))
   (some ((), (v.2.1.1, IntKind.wrap .i64 (v.2.1.2.1 + 1), v.2.1.2.2.1, v.2.1.2.2.2.1, v.2.1.2.2.2.2.1, ()), (Node.mk 6 0 0 0 0 [] 0 0), ()))
   (bK (decide ((b0.toNat : Int) = 36))
    (some ((), (v.2.1.1, IntKind.wrap .i64 (v.2.1.2.1 + 1), v.2.1.2.2.1, v.2.1.2.2.2.1, v.2.1.2.2.2.2.1, ()), (Node.mk 7 0 0 0 0 [] 0 0), ()))
    (bK (decide ((b0.toNat : Int) = 92))
     (bK (!(decide (IntKind.wrap .i64 (v.2.1.2.1 + 1) < len v.2.1.1)))
      (oK (ref1_reader_fail ((), (v.2.1.1, IntKind.wrap .i64 (v.2.1.2.1 + 1), v.2.1.2.2.1, v.2.1.2.2.2.1, v.2.1.2.2.2.2.1, ()), IntKind.wrap .i64 (v.2.1.2.1 + 1), 2, ())) fun r6 =>
      some ((), (r6.2.1.1, r6.2.1.2.1, r6.2.1.2.2.1, r6.2.1.2.2.2.1, r6.2.1.2.2.2.2.1, ()), (Node.mk 0 0 0 0 0 [] 0 0), ()))
      (oK (idx v.2.1.1 (IntKind.wrap .i64 ((IntKind.wrap .i64 ((IntKind.wrap .i64 (v.2.1.2.1 + 1)) + 1)) - 1))) fun b7 =>
      oK (ref1_only ((b7.toNat : Int), ())) fun r8 =>
      some ((), (v.2.1.1, IntKind.wrap .i64 ((IntKind.wrap .i64 (v.2.1.2.1 + 1)) + 1), v.2.1.2.2.1, v.2.1.2.2.2.1, v.2.1.2.2.2.2.1, ()), (Node.mk r8.1.kind r8.1.set0 r8.1.set1 r8.1.set2 r8.1.set3 r8.1.kids r8.1.min r8.1.max), ())))
     (bK (decide ((b0.toNat : Int) = 91))
      (oK (ref1_set (v.2.1.1, IntKind.wrap .i64 (v.2.1.2.1 + 1), ([94] : List UInt8), false, ())) fun r9 =>
      bK (!r9.2.2.2.1)
       (oK (ref1_reader_fail ((), (v.2.1.1, IntKind.wrap .i64 (v.2.1.2.1 + 1), v.2.1.2.2.1, v.2.1.2.2.2.1, v.2.1.2.2.2.2.1, ()), v.2.1.2.1, 2, ())) fun r10 =>
       some ((), (r10.2.1.1, r10.2.1.2.1, r10.2.1.2.2.1, r10.2.1.2.2.2.1, r10.2.1.2.2.2.2.1, ()), (Node.mk 0 0 0 0 0 [] 0 0), ()))
       (oK (ref1_of (r9.1, r9.2.1, ())) fun r11 =>
       some ((), (v.2.1.1, r9.2.2.1, v.2.1.2.2.1, v.2.1.2.2.2.1, v.2.1.2.2.2.2.1, ()), (Node.mk 2 r11.1.1 r11.1.2.1 r11.1.2.2.1 r11.1.2.2.2.1 [] 0 0), ())))
      (bK (decide ((b0.toNat : Int) = 41))
       (joinB (box (ref1_reader_atom_j0 v b0)) (decide ((b0.toNat : Int) = 41), ()))
       (bK (decide ((b0.toNat : Int) = 42))
        (joinB (box (ref1_reader_atom_j0 v b0)) (decide ((b0.toNat : Int) = 42), ()))
        (bK (decide ((b0.toNat : Int) = 43))
         (joinB (box (ref1_reader_atom_j0 v b0)) (decide ((b0.toNat : Int) = 43), ()))
         (bK (decide ((b0.toNat : Int) = 63))
          (joinB (box (ref1_reader_atom_j0 v b0)) (decide ((b0.toNat : Int) = 63), ()))
          (bK (decide ((b0.toNat : Int) = 123))
           (joinB (box (ref1_reader_atom_j0 v b0)) (decide ((b0.toNat : Int) = 123), ()))
           (joinB (box (ref1_reader_atom_j0 v b0)) (decide ((b0.toNat : Int) = 124), ()))))))))))))
/-! 50 (*patchwork/patchworkref1.reader).piece -/
noncomputable def ref1_reader_piece_j0 (rec1 : ((Int × Int × Int × Int × Int × (List Node) × Int × Int × Unit) × ((List UInt8) × Int × Int × Int × Int × Unit) × Unit) → Option (Unit × ((List UInt8) × Int × Int × Int × Int × Unit) × Node × Unit)) (v2 : (Int × Int × Int × Int × Int × (List Node) × Int × Int × Unit) × ((List UInt8) × Int × Int × Int × Int × Unit) × Unit) (v3 : Int × Int × ((List UInt8) × Int × Int × Int × Int × Unit) × Unit) : Option (Unit × ((List UInt8) × Int × Int × Int × Int × Unit) × Node × Unit) :=
rec1 ((5, 0, 0, 0, 0, ([(Node.mk v2.1.1 v2.1.2.1 v2.1.2.2.1 v2.1.2.2.2.1 v2.1.2.2.2.2.1 v2.1.2.2.2.2.2.1 v2.1.2.2.2.2.2.2.1 v2.1.2.2.2.2.2.2.2.1)] : List Node), v3.1, v3.2.1, ()), (v3.2.2.1.1, v3.2.2.1.2.1, v3.2.2.1.2.2.1, v3.2.2.1.2.2.2.1, v3.2.2.1.2.2.2.2.1, ()), ())
noncomputable def ref1_reader_piece_l1 (rec1 : ((Int × Int × Int × Int × Int × (List Node) × Int × Int × Unit) × ((List UInt8) × Int × Int × Int × Int × Unit) × Unit) → Option (Unit × ((List UInt8) × Int × Int × Int × Int × Unit) × Node × Unit)) (v2 : (Int × Int × Int × Int × Int × (List Node) × Int × Int × Unit) × ((List UInt8) × Int × Int × Int × Int × Unit) × Unit) : Option (Unit × ((List UInt8) × Int × Int × Int × Int × Unit) × Node × Unit) :=
bK (decide (v2.2.1.2.2.2.1 < 0))
 (bK (decide (v2.2.1.2.1 < len v2.2.1.1))
  (oK (idx v2.2.1.1 v2.2.1.2.1) fun b4 =>
  bK (decide ((b4.toNat : Int) = 42))
   (joinB (box (ref1_reader_piece_j0 rec1 v2)) (0, (-1), (v2.2.1.1, IntKind.wrap .i64 (v2.2.1.2.1 + 1), v2.2.1.2.2.1, v2.2.1.2.2.2.1, v2.2.1.2.2.2.2.1, ()), ()))
   (bK (decide ((b4.toNat : Int) = 43))
    (joinB (box (ref1_reader_piece_j0 rec1 v2)) (1, (-1), (v2.2.1.1, IntKind.wrap .i64 (v2.2.1.2.1 + 1), v2.2.1.2.2.1, v2.2.1.2.2.2.1, v2.2.1.2.2.2.2.1, ()), ()))
    (bK (decide ((b4.toNat : Int) = 63))
     (joinB (box (ref1_reader_piece_j0 rec1 v2)) (0, 1, (v2.2.1.1, IntKind.wrap .i64 (v2.2.1.2.1 + 1), v2.2.1.2.2.1, v2.2.1.2.2.2.1, v2.2.1.2.2.2.2.1, ()), ()))
     (bK (decide ((b4.toNat : Int) = 123))
      (oK (ref1_reader_times ((), (v2.2.1.1, v2.2.1.2.1, v2.2.1.2.2.1, v2.2.1.2.2.2.1, v2.2.1.2.2.2.2.1, ()), ())) fun r5 =>
      joinB (box (ref1_reader_piece_j0 rec1 v2)) (r5.2.2.1, r5.2.2.2.1, (r5.2.1.1, r5.2.1.2.1, r5.2.1.2.2.1, r5.2.1.2.2.2.1, r5.2.1.2.2.2.2.1, ()), ()))
      (some ((), (v2.2.1.1, v2.2.1.2.1, v2.2.1.2.2.1, v2.2.1.2.2.2.1, v2.2.1.2.2.2.2.1, ()), (Node.mk v2.1.1 v2.1.2.1 v2.1.2.2.1 v2.1.2.2.2.1 v2.1.2.2.2.2.1 v2.1.2.2.2.2.2.1 v2.1.2.2.2.2.2.2.1 v2.1.2.2.2.2.2.2.2.1), ()))))))
  (some ((), (v2.2.1.1, v2.2.1.2.1, v2.2.1.2.2.1, v2.2.1.2.2.2.1, v2.2.1.2.2.2.2.1, ()), (Node.mk v2.1.1 v2.1.2.1 v2.1.2.2.1 v2.1.2.2.2.1 v2.1.2.2.2.2.1 v2.1.2.2.2.2.2.1 v2.1.2.2.2.2.2.2.1 v2.1.2.2.2.2.2.2.2.1), ())))
 (some ((), (v2.2.1.1, v2.2.1.2.1, v2.2.1.2.2.1, v2.2.1.2.2.2.1, v2.2.1.2.2.2.2.1, ()), (Node.mk v2.1.1 v2.1.2.1 v2.1.2.2.1 v2.1.2.2.2.1 v2.1.2.2.2.2.1 v2.1.2.2.2.2.2.1 v2.1.2.2.2.2.2.2.1 v2.1.2.2.2.2.2.2.2.1), ()))
noncomputable def L_ref1_reader_piece : FuncId → Nat → Option Shape := fun f i => match f, i with
    | 50, 2 => some ⟨[(.loc 2, .agg [.int .i64, .int .u64, .int .u64, .int .u64, .int .u64, .row 27 false, .int .i64, .int .i64]), (.loc 0, .agg [.str, .int .i64, .int .i64, .int .i64, .int .i64])], [8, 9, 10, 11, 12, 13, 14, 15, 16, 17, 18, 19, 20, 21, 22, 23, 24, 4, 5, 25, 26, 27, 28, 29, 30, 31, 32, 33, 36, 35, 37, 38, 39, 40, 41, 42, 43, 45, 44, 46, 47, 48, 49, 50, 51, 52, 54, 53, 55, 56, 57, 58, 59, 60, 61, 63, 62, 65, 66, 64, 67, 68, 34, 69, 70, 71, 72, 73]⟩
    | _, _ => none
noncomputable def J_ref1_reader_piece : FuncId → Nat → Option Shape := fun f i => match f, i with
    | 50, 17 => some ⟨[(.tmp 4, .int .i64), (.tmp 5, .int .i64), (.loc 0, .agg [.str, .int .i64, .int .i64, .int .i64, .int .i64])], [25, 26, 27, 28, 29, 30, 31, 32, 33, 36, 35, 37, 38, 39, 40, 41, 42, 43, 45, 44, 46, 47, 48, 49, 50, 51, 52, 54, 53, 55, 56, 57, 58, 59, 60, 61, 63, 62, 65, 66, 64, 67, 68, 34]⟩
    | _, _ => none
@[reducible] noncomputable def X_ref1_reader_piece (r_ref1_reader_atom : (Unit × ((List UInt8) × Int × Int × Int × Int × Unit) × Unit) → Option (Unit × ((List UInt8) × Int × Int × Int × Int × Unit) × Node × Unit)) (r_ref1_reader_piece : (Unit × ((List UInt8) × Int × Int × Int × Int × Unit) × Unit) → Option (Unit × ((List UInt8) × Int × Int × Int × Int × Unit) × Node × Unit)) (r_ref1_reader_branch : (Unit × ((List UInt8) × Int × Int × Int × Int × Unit) × Unit) → Option (Unit × ((List UInt8) × Int × Int × Int × Int × Unit) × Node × Unit)) (r_ref1_reader_branches : (Unit × ((List UInt8) × Int × Int × Int × Int × Unit) × Unit) → Option (Unit × ((List UInt8) × Int × Int × Int × Int × Unit) × Node × Unit)) : TX := ⟨cfgX, A, lay, dec, wd, fun g => if g = 53 then [⟨[(.tmp 0, .ptr 0 0), (.new 0, .agg [.str, .int .i64, .int .i64, .int .i64, .int .i64])], 1, [(.tmp 0, .ptr 0 0), (.new 0, .agg [.str, .int .i64, .int .i64, .int .i64, .int .i64]), (.tmp 1, .sct 27)], r_ref1_reader_atom⟩] else if g = 50 then [⟨[(.tmp 0, .ptr 0 0), (.new 0, .agg [.str, .int .i64, .int .i64, .int .i64, .int .i64])], 1, [(.tmp 0, .ptr 0 0), (.new 0, .agg [.str, .int .i64, .int .i64, .int .i64, .int .i64]), (.tmp 1, .sct 27)], r_ref1_reader_piece⟩] else if g = 40 then [⟨[(.tmp 0, .ptr 0 0), (.new 0, .agg [.str, .int .i64, .int .i64, .int .i64, .int .i64])], 1, [(.tmp 0, .ptr 0 0), (.new 0, .agg [.str, .int .i64, .int .i64, .int .i64, .int .i64]), (.tmp 1, .sct 27)], r_ref1_reader_branch⟩] else if g = 29 then [⟨[(.tmp 0, .ptr 0 0), (.new 0, .agg [.str, .int .i64, .int .i64, .int .i64, .int .i64])], 1, [(.tmp 0, .ptr 0 0), (.new 0, .agg [.str, .int .i64, .int .i64, .int .i64, .int .i64]), (.tmp 1, .sct 27)], r_ref1_reader_branches⟩] else tab35 g, L_ref1_reader_piece, J_ref1_reader_piece⟩
noncomputable def ref1_reader_piece_b (r_ref1_reader_atom : (Unit × ((List UInt8) × Int × Int × Int × Int × Unit) × Unit) → Option (Unit × ((List UInt8) × Int × Int × Int × Int × Unit) × Node × Unit)) (r_ref1_reader_piece : (Unit × ((List UInt8) × Int × Int × Int × Int × Unit) × Unit) → Option (Unit × ((List UInt8) × Int × Int × Int × Int × Unit) × Node × Unit)) (r_ref1_reader_branch : (Unit × ((List UInt8) × Int × Int × Int × Int × Unit) × Unit) → Option (Unit × ((List UInt8) × Int × Int × Int × Int × Unit) × Node × Unit)) (r_ref1_reader_branches : (Unit × ((List UInt8) × Int × Int × Int × Int × Unit) × Unit) → Option (Unit × ((List UInt8) × Int × Int × Int × Int × Unit) × Node × Unit)) (k : Nat) (v : Unit × ((List UInt8) × Int × Int × Int × Int × Unit) × Unit) : Option (Unit × ((List UInt8) × Int × Int × Int × Int × Unit) × Node × Unit) :=
oK (r_ref1_reader_atom ((), (v.2.1.1, v.2.1.2.1, v.2.1.2.2.1, v.2.1.2.2.2.1, v.2.1.2.2.2.2.1, ()), ())) fun r0 =>
fixN (ref1_reader_piece_l1) k ((r0.2.2.1.kind, r0.2.2.1.set0, r0.2.2.1.set1, r0.2.2.1.set2, r0.2.2.1.set3, r0.2.2.1.kids, r0.2.2.1.min, r0.2.2.1.max, ()), (r0.2.1.1, r0.2.1.2.1, r0.2.1.2.2.1, r0.2.1.2.2.2.1, r0.2.1.2.2.2.2.1, ()), ())
/-! 40 (*patchwork/patchworkref1.reader).branch -/
noncomputable def ref1_reader_branch_j0 (v0 : (List Node) × ((List UInt8) × Int × Int × Int × Int × Unit) × Unit) : Option (Unit × ((List UInt8) × Int × Int × Int × Int × Unit) × Node × Unit) :=
bK (decide (len v0.1 = 0))
 (some ((), (v0.2.1.1, v0.2.1.2.1, v0.2.1.2.2.1, v0.2.1.2.2.2.1, v0.2.1.2.2.2.2.1, ()), (Node.mk 1 0 0 0 0 [] 0 0), ()))
 (bK (decide (len v0.1 = 1))
  (oK (idx v0.1 0) fun x1 =>
  some ((), (v0.2.1.1, v0.2.1.2.1, v0.2.1.2.2.1, v0.2.1.2.2.2.1, v0.2.1.2.2.2.2.1, ()), (Node.mk x1.kind x1.set0 x1.set1 x1.set2 x1.set3 x1.kids x1.min x1.max), ()))
  (some ((), (v0.2.1.1, v0.2.1.2.1, v0.2.1.2.2.1, v0.2.1.2.2.2.1, v0.2.1.2.2.2.2.1, ()), (Node.mk 3 0 0 0 0 v0.1 0 0), ())))
noncomputable def ref1_reader_branch_l1 (r_ref1_reader_piece : (Unit × ((List UInt8) × Int × Int × Int × Int × Unit) × Unit) → Option (Unit × ((List UInt8) × Int × Int × Int × Int × Unit) × Node × Unit)) (rec2 : ((List Node) × ((List UInt8) × Int × Int × Int × Int × Unit) × Unit) → Option (Unit × ((List UInt8) × Int × Int × Int × Int × Unit) × Node × Unit)) (v3 : (List Node) × ((List UInt8) × Int × Int × Int × Int × Unit) × Unit) : Option (Unit × ((List UInt8) × Int × Int × Int × Int × Unit) × Node × Unit) :=
bK (decide (v3.2.1.2.2.2.1 < 0))
 (bK (decide (v3.2.1.2.1 < len v3.2.1.1))
  (oK (idx v3.2.1.1 v3.2.1.2.1) fun b4 =>
  bK (!(decide ((b4.toNat : Int) = 124)))
   (oK (idx v3.2.1.1 v3.2.1.2.1) fun b5 =>
   bK (!(decide ((b5.toNat : Int) = 41)))
    (oK (r_ref1_reader_piece ((), (v3.2.1.1, v3.2.1.2.1, v3.2.1.2.2.1, v3.2.1.2.2.2.1, v3.2.1.2.2.2.2.1, ()), ())) fun r6 =>
    bK (fits 80 (v3.1.length + 1))
     (rec2 ((v3.1 ++ ([(Node.mk r6.2.2.1.kind r6.2.2.1.set0 r6.2.2.1.set1 r6.2.2.1.set2 r6.2.2.1.set3 r6.2.2.1.kids r6.2.2.1.min r6.2.2.1.max)] : List Node)), (r6.2.1.1, r6.2.1.2.1, r6.2.1.2.2.1, r6.2.1.2.2.2.1, r6.2.1.2.2.2.2.1, ()), ()))
     (none))
    (joinB (box ref1_reader_branch_j0) (v3.1, (v3.2.1.1, v3.2.1.2.1, v3.2.1.2.2.1, v3.2.1.2.2.2.1, v3.2.1.2.2.2.2.1, ()), ())))
   (joinB (box ref1_reader_branch_j0) (v3.1, (v3.2.1.1, v3.2.1.2.1, v3.2.1.2.2.1, v3.2.1.2.2.2.1, v3.2.1.2.2.2.2.1, ()), ())))
  (joinB (box ref1_reader_branch_j0) (v3.1, (v3.2.1.1, v3.2.1.2.1, v3.2.1.2.2.1, v3.2.1.2.2.2.1, v3.2.1.2.2.2.2.1, ()), ())))
 (joinB (box ref1_reader_branch_j0) (v3.1, (v3.2.1.1, v3.2.1.2.1, v3.2.1.2.2.1, v3.2.1.2.2.2.1, v3.2.1.2.2.2.2.1, ()), ()))
noncomputable def L_ref1_reader_branch : FuncId → Nat → Option Shape := fun f i => match f, i with
    | 40, 2 => some ⟨[(.tmp 3, .row 27 true), (.loc 0, .agg [.str, .int .i64, .int .i64, .int .i64, .int .i64])], [4, 5, 6, 7, 8, 9, 10, 11, 12, 13, 14, 15, 16, 17, 18, 19, 20, 21, 22, 23, 24, 25, 26, 27, 28, 29, 30, 31, 32, 33, 34, 35, 36, 37, 38, 39, 40, 41, 42, 43, 44, 45, 46, 47, 48, 49]⟩
    | _, _ => none
noncomputable def J_ref1_reader_branch : FuncId → Nat → Option Shape := fun f i => match f, i with
    | 40, 4 => some ⟨[(.tmp 3, .row 27 true), (.loc 0, .agg [.str, .int .i64, .int .i64, .int .i64, .int .i64])], [4, 5, 6, 7, 8, 9, 10, 11, 12, 13, 14, 15, 16, 17, 18, 19, 20, 21, 22, 23, 24, 25, 26, 27, 28, 29, 30, 31, 32, 33, 34, 35, 36, 37, 38, 39, 40, 41, 42, 43, 44, 45, 46, 47, 48, 49]⟩
    | _, _ => none
@[reducible] noncomputable def X_ref1_reader_branch (r_ref1_reader_atom : (Unit × ((List UInt8) × Int × Int × Int × Int × Unit) × Unit) → Option (Unit × ((List UInt8) × Int × Int × Int × Int × Unit) × Node × Unit)) (r_ref1_reader_piece : (Unit × ((List UInt8) × Int × Int × Int × Int × Unit) × Unit) → Option (Unit × ((List UInt8) × Int × Int × Int × Int × Unit) × Node × Unit)) (r_ref1_reader_branch : (Unit × ((List UInt8) × Int × Int × Int × Int × Unit) × Unit) → Option (Unit × ((List UInt8) × Int × Int × Int × Int × Unit) × Node × Unit)) (r_ref1_reader_branches : (Unit × ((List UInt8) × Int × Int × Int × Int × Unit) × Unit) → Option (Unit × ((List UInt8) × Int × Int × Int × Int × Unit) × Node × Unit)) : TX := ⟨cfgX, A, lay, dec, wd, fun g => if g = 53 then [⟨[(.tmp 0, .ptr 0 0), (.new 0, .agg [.str, .int .i64, .int .i64, .int .i64, .int .i64])], 1, [(.tmp 0, .ptr 0 0), (.new 0, .agg [.str, .int .i64, .int .i64, .int .i64, .int .i64]), (.tmp 1, .sct 27)], r_ref1_reader_atom⟩] else if g = 50 then [⟨[(.tmp 0, .ptr 0 0), (.new 0, .agg [.str, .int .i64, .int .i64, .int .i64, .int .i64])], 1, [(.tmp 0, .ptr 0 0), (.new 0, .agg [.str, .int .i64, .int .i64, .int .i64, .int .i64]), (.tmp 1, .sct 27)], r_ref1_reader_piece⟩] else if g = 40 then [⟨[(.tmp 0, .ptr 0 0), (.new 0, .agg [.str, .int .i64, .int .i64, .int .i64, .int .i64])], 1, [(.tmp 0, .ptr 0 0), (.new 0, .agg [.str, .int .i64, .int .i64, .int .i64, .int .i64]), (.tmp 1, .sct 27)], r_ref1_reader_branch⟩] else if g = 29 then [⟨[(.tmp 0, .ptr 0 0), (.new 0, .agg [.str, .int .i64, .int .i64, .int .i64, .int .i64])], 1, [(.tmp 0, .ptr 0 0), (.new 0, .agg [.str, .int .i64, .int .i64, .int .i64, .int .i64]), (.tmp 1, .sct 27)], r_ref1_reader_branches⟩] else tab35 g, L_ref1_reader_branch, J_ref1_reader_branch⟩
noncomputable def ref1_reader_branch_b (r_ref1_reader_atom : (Unit × ((List UInt8) × Int × Int × Int × Int × Unit) × Unit) → Option (Unit × ((List UInt8) × Int × Int × Int × Int × Unit) × Node × Unit)) (r_ref1_reader_piece : (Unit × ((List UInt8) × Int × Int × Int × Int × Unit) × Unit) → Option (Unit × ((List UInt8) × Int × Int × Int × Int × Unit) × Node × Unit)) (r_ref1_reader_branch : (Unit × ((List UInt8) × Int × Int × Int × Int × Unit) × Unit) → Option (Unit × ((List UInt8) × Int × Int × Int × Int × Unit) × Node × Unit)) (r_ref1_reader_branches : (Unit × ((List UInt8) × Int × Int × Int × Int × Unit) × Unit) → Option (Unit × ((List UInt8) × Int × Int × Int × Int × Unit) × Node × Unit)) (k : Nat) (v : Unit × ((List UInt8) × Int × Int × Int × Int × Unit) × Unit) : Option (Unit × ((List UInt8) × Int × Int × Int × Int × Unit) × Node × Unit) :=
fixN (ref1_reader_branch_l1 r_ref1_reader_piece) k ([], (v.2.1.1, v.2.1.2.1, v.2.1.2.2.1, v.2.1.2.2.2.1, v.2.1.2.2.2.2.1, ()), ())
/-! 29 (*patchwork/patchworkref1.reader).branches -/
noncomputable def ref1_reader_branches_l0 (r_ref1_reader_branch : (Unit × ((List UInt8) × Int × Int × Int × Int × Unit) × Unit) → Option (Unit × ((List UInt8) × Int × Int × Int × Int × Unit) × Node × Unit)) (rec1 : ((List Node) × ((List UInt8) × Int × Int × Int × Int × Unit) × Unit) → Option (Unit × ((List UInt8) × Int × Int × Int × Int × Unit) × Node × Unit)) (v2 : (List Node) × ((List UInt8) × Int × Int × Int × Int × Unit) × Unit) : Option (Unit × ((List UInt8) × Int × Int × Int × Int × Unit) × Node × Unit) :=
oK (ref1_reader_is ((), (v2.2.1.1, v2.2.1.2.1, v2.2.1.2.2.1, v2.2.1.2.2.2.1, v2.2.1.2.2.2.2.1, ()), 124, ())) fun r3 =>
bK r3.2.2.1
 (oK (r_ref1_reader_branch ((), (r3.2.1.1, IntKind.wrap .i64 (r3.2.1.2.1 + 1), r3.2.1.2.2.1, r3.2.1.2.2.2.1, r3.2.1.2.2.2.2.1, ()), ())) fun r4 =>
 bK (fits 80 (v2.1.length + 1))
  (rec1 ((v2.1 ++ ([(Node.mk r4.2.2.1.kind r4.2.2.1.set0 r4.2.2.1.set1 r4.2.2.1.set2 r4.2.2.1.set3 r4.2.2.1.kids r4.2.2.1.min r4.2.2.1.max)] : List Node)), (r4.2.1.1, r4.2.1.2.1, r4.2.1.2.2.1, r4.2.1.2.2.2.1, r4.2.1.2.2.2.2.1, ()), ()))
  (none))
 (bK (decide (len v2.1 = 1))
  (oK (idx v2.1 0) fun x5 =>
  some ((), (r3.2.1.1, r3.2.1.2.1, r3.2.1.2.2.1, r3.2.1.2.2.2.1, r3.2.1.2.2.2.2.1, ()), (Node.mk x5.kind x5.set0 x5.set1 x5.set2 x5.set3 x5.kids x5.min x5.max), ()))
  (some ((), (r3.2.1.1, r3.2.1.2.1, r3.2.1.2.2.1, r3.2.1.2.2.2.1, r3.2.1.2.2.2.2.1, ()), (Node.mk 4 0 0 0 0 v2.1 0 0), ())))
noncomputable def L_ref1_reader_branches : FuncId → Nat → Option Shape := fun f i => match f, i with
    | 29, 2 => some ⟨[(.tmp 3, .row 27 true), (.loc 0, .agg [.str, .int .i64, .int .i64, .int .i64, .int .i64])], [7, 8, 9, 10, 11, 12, 13, 14, 15, 16, 17, 18, 19, 20]⟩
    | _, _ => none
noncomputable def J_ref1_reader_branches : FuncId → Nat → Option Shape := fun _ _ => none
@[reducible] noncomputable def X_ref1_reader_branches (r_ref1_reader_atom : (Unit × ((List UInt8) × Int × Int × Int × Int × Unit) × Unit) → Option (Unit × ((List UInt8) × Int × Int × Int × Int × Unit) × Node × Unit)) (r_ref1_reader_piece : (Unit × ((List UInt8) × Int × Int × Int × Int × Unit) × Unit) → Option (Unit × ((List UInt8) × Int × Int × Int × Int × Unit) × Node × Unit)) (r_ref1_reader_branch : (Unit × ((List UInt8) × Int × Int × Int × Int × Unit) × Unit) → Option (Unit × ((List UInt8) × Int × Int × Int × Int × Unit) × Node × Unit)) (r_ref1_reader_branches : (Unit × ((List UInt8) × Int × Int × Int × Int × Unit) × Unit) → Option (Unit × ((List UInt8) × Int × Int × Int × Int × Unit) × Node × Unit)) : TX := ⟨cfgX, A, lay, dec, wd, fun g => if g = 53 then [⟨[(.tmp 0, .ptr 0 0), (.new 0, .agg [.str, .int .i64, .int .i64, .int .i64, .int .i64])], 1, [(.tmp 0, .ptr 0 0), (.new 0, .agg [.str, .int .i64, .int .i64, .int .i64, .int .i64]), (.tmp 1, .sct 27)], r_ref1_reader_atom⟩] else if g = 50 then [⟨[(.tmp 0, .ptr 0 0), (.new 0, .agg [.str, .int .i64, .int .i64, .int .i64, .int .i64])], 1, [(.tmp 0, .ptr 0 0), (.new 0, .agg [.str, .int .i64, .int .i64, .int .i64, .int .i64]), (.tmp 1, .sct 27)], r_ref1_reader_piece⟩] else if g = 40 then [⟨[(.tmp 0, .ptr 0 0), (.new 0, .agg [.str, .int .i64, .int .i64, .int .i64, .int .i64])], 1, [(.tmp 0, .ptr 0 0), (.new 0, .agg [.str, .int .i64, .int .i64, .int .i64, .int .i64]), (.tmp 1, .sct 27)], r_ref1_reader_branch⟩] else if g = 29 then [⟨[(.tmp 0, .ptr 0 0), (.new 0, .agg [.str, .int .i64, .int .i64, .int .i64, .int .i64])], 1, [(.tmp 0, .ptr 0 0), (.new 0, .agg [.str, .int .i64, .int .i64, .int .i64, .int .i64]), (.tmp 1, .sct 27)], r_ref1_reader_branches⟩] else tab35 g, L_ref1_reader_branches, J_ref1_reader_branches⟩
noncomputable def ref1_reader_branches_b (r_ref1_reader_atom : (Unit × ((List UInt8) × Int × Int × Int × Int × Unit) × Unit) → Option (Unit × ((List UInt8) × Int × Int × Int × Int × Unit) × Node × Unit)) (r_ref1_reader_piece : (Unit × ((List UInt8) × Int × Int × Int × Int × Unit) × Unit) → Option (Unit × ((List UInt8) × Int × Int × Int × Int × Unit) × Node × Unit)) (r_ref1_reader_branch : (Unit × ((List UInt8) × Int × Int × Int × Int × Unit) × Unit) → Option (Unit × ((List UInt8) × Int × Int × Int × Int × Unit) × Node × Unit)) (r_ref1_reader_branches : (Unit × ((List UInt8) × Int × Int × Int × Int × Unit) × Unit) → Option (Unit × ((List UInt8) × Int × Int × Int × Int × Unit) × Node × Unit)) (k : Nat) (v : Unit × ((List UInt8) × Int × Int × Int × Int × Unit) × Unit) : Option (Unit × ((List UInt8) × Int × Int × Int × Int × Unit) × Node × Unit) :=
oK (r_ref1_reader_branch ((), (v.2.1.1, v.2.1.2.1, v.2.1.2.2.1, v.2.1.2.2.2.1, v.2.1.2.2.2.2.1, ()), ())) fun r0 =>
fixN (ref1_reader_branches_l0 r_ref1_reader_branch) k (([(Node.mk r0.2.2.1.kind r0.2.2.1.set0 r0.2.2.1.set1 r0.2.2.1.set2 r0.2.2.1.set3 r0.2.2.1.kids r0.2.2.1.min r0.2.2.1.max)] : List Node), (r0.2.1.1, r0.2.1.2.1, r0.2.1.2.2.1, r0.2.1.2.2.2.1, r0.2.1.2.2.2.2.1, ()), ())
noncomputable def ref1_reader_atom_all (k : Nat) : Nat → ((Unit × ((List UInt8) × Int × Int × Int × Int × Unit) × Unit) → Option (Unit × ((List UInt8) × Int × Int × Int × Int × Unit) × Node × Unit)) × ((Unit × ((List UInt8) × Int × Int × Int × Int × Unit) × Unit) → Option (Unit × ((List UInt8) × Int × Int × Int × Int × Unit) × Node × Unit)) × ((Unit × ((List UInt8) × Int × Int × Int × Int × Unit) × Unit) → Option (Unit × ((List UInt8) × Int × Int × Int × Int × Unit) × Node × Unit)) × ((Unit × ((List UInt8) × Int × Int × Int × Int × Unit) × Unit) → Option (Unit × ((List UInt8) × Int × Int × Int × Int × Unit) × Node × Unit))
  | 0 => (fun _ => none, fun _ => none, fun _ => none, fun _ => none)
  | n + 1 => (ref1_reader_atom_b ((ref1_reader_atom_all k n).1) ((ref1_reader_atom_all k n).2.1) ((ref1_reader_atom_all k n).2.2.1) ((ref1_reader_atom_all k n).2.2.2) k, ref1_reader_piece_b ((ref1_reader_atom_all k n).1) ((ref1_reader_atom_all k n).2.1) ((ref1_reader_atom_all k n).2.2.1) ((ref1_reader_atom_all k n).2.2.2) k, ref1_reader_branch_b ((ref1_reader_atom_all k n).1) ((ref1_reader_atom_all k n).2.1) ((ref1_reader_atom_all k n).2.2.1) ((ref1_reader_atom_all k n).2.2.2) k, ref1_reader_branches_b ((ref1_reader_atom_all k n).1) ((ref1_reader_atom_all k n).2.1) ((ref1_reader_atom_all k n).2.2.1) ((ref1_reader_atom_all k n).2.2.2) k)
noncomputable def ref1_reader_atom (v : Unit × ((List UInt8) × Int × Int × Int × Int × Unit) × Unit) : Option (Unit × ((List UInt8) × Int × Int × Int × Int × Unit) × Node × Unit) := (ref1_reader_atom_all kBig kBig).1 v
noncomputable def ref1_reader_piece (v : Unit × ((List UInt8) × Int × Int × Int × Int × Unit) × Unit) : Option (Unit × ((List UInt8) × Int × Int × Int × Int × Unit) × Node × Unit) := (ref1_reader_atom_all kBig kBig).2.1 v
noncomputable def ref1_reader_branch (v : Unit × ((List UInt8) × Int × Int × Int × Int × Unit) × Unit) : Option (Unit × ((List UInt8) × Int × Int × Int × Int × Unit) × Node × Unit) := (ref1_reader_atom_all kBig kBig).2.2.1 v
noncomputable def ref1_reader_branches (v : Unit × ((List UInt8) × Int × Int × Int × Int × Unit) × Unit) : Option (Unit × ((List UInt8) × Int × Int × Int × Int × Unit) × Node × Unit) := (ref1_reader_atom_all kBig kBig).2.2.2 v
noncomputable def tab36 (g : FuncId) : List (Entry A) := if g = 53 then [⟨[(.tmp 0, .ptr 0 0), (.new 0, .agg [.str, .int .i64, .int .i64, .int .i64, .int .i64])], 1, [(.tmp 0, .ptr 0 0), (.new 0, .agg [.str, .int .i64, .int .i64, .int .i64, .int .i64]), (.tmp 1, .sct 27)], ref1_reader_atom⟩] else if g = 50 then [⟨[(.tmp 0, .ptr 0 0), (.new 0, .agg [.str, .int .i64, .int .i64, .int .i64, .int .i64])], 1, [(.tmp 0, .ptr 0 0), (.new 0, .agg [.str, .int .i64, .int .i64, .int .i64, .int .i64]), (.tmp 1, .sct 27)], ref1_reader_piece⟩] else if g = 40 then [⟨[(.tmp 0, .ptr 0 0), (.new 0, .agg [.str, .int .i64, .int .i64, .int .i64, .int .i64])], 1, [(.tmp 0, .ptr 0 0), (.new 0, .agg [.str, .int .i64, .int .i64, .int .i64, .int .i64]), (.tmp 1, .sct 27)], ref1_reader_branch⟩] else if g = 29 then [⟨[(.tmp 0, .ptr 0 0), (.new 0, .agg [.str, .int .i64, .int .i64, .int .i64, .int .i64])], 1, [(.tmp 0, .ptr 0 0), (.new 0, .agg [.str, .int .i64, .int .i64, .int .i64, .int .i64]), (.tmp 1, .sct 27)], ref1_reader_branches⟩] else tab35 g
/-! 42 patchwork/patchworkref1.rightNode -/
noncomputable def ref1_rightNode_l0 (r_ref1_rightNode : (Node × Int × Unit) → Option (Bool × Unit)) (v : Node × Int × Unit) (rec2 : (Int × Unit) → Option (Bool × Unit)) (v3 : Int × Unit) : Option (Bool × Unit) :=
bK (decide (v3.1 < len v.1.kids))
 (oK (idx v.1.kids v3.1) fun x4 =>
 oK (r_ref1_rightNode ((Node.mk x4.kind x4.set0 x4.set1 x4.set2 x4.set3 x4.kids x4.min x4.max), IntKind.wrap .i64 (v.2.1 - 1), ())) fun r5 =>
 bK (!r5.1)
  (some (false, ()))
  (rec2 (IntKind.wrap .i64 (v3.1 + 1), ())))
 (some (true, ()))
noncomputable def ref1_rightNode_j1 (r_ref1_rightNode : (Node × Int × Unit) → Option (Bool × Unit)) (v : Node × Int × Unit) (k : Nat) (v1 : Unit) : Option (Bool × Unit) :=
fixN (ref1_rightNode_l0 r_ref1_rightNode v) k (0, ())
noncomputable def ref1_rightNode_j2 (r_ref1_rightNode : (Node × Int × Unit) → Option (Bool × Unit)) (v : Node × Int × Unit) (k : Nat) (v6 : Bool × Unit) : Option (Bool × Unit) :=
bK v6.1
 (bK (decide (len v.1.kids < 2))
  (some (false, ()))
  (joinB (box (ref1_rightNode_j1 r_ref1_rightNode v k)) (())))
 (bK (decide (v.1.kind = 5))
  (bK (!(decide (len v.1.kids = 1)))
   (some (false, ()))
   (bK (decide (v.1.min < 0))
    (some (false, ()))
    (bK (decide (200 < v.1.min))
     (some (false, ()))
     (bK (decide (200 < v.1.max))
      (some (false, ()))
      (bK (decide (v.1.max < 0))
       (bK (!(decide (v.1.max = (-1))))
        (some (false, ()))
        (bK (!(decide (v.1.max < 0)))
         (bK (decide (v.1.max < v.1.min))
          (some (false, ()))
          (joinB (box (ref1_rightNode_j1 r_ref1_rightNode v k)) (())))
         (joinB (box (ref1_rightNode_j1 r_ref1_rightNode v k)) (()))))
       (bK (!(decide (v.1.max < 0)))
        (bK (decide (v.1.max < v.1.min))
         (some (false, ()))
         (joinB (box (ref1_rightNode_j1 r_ref1_rightNode v k)) (())))
        (joinB (box (ref1_rightNode_j1 r_ref1_rightNode v k)) (()))))))))
  (bK (decide (0 < len v.1.kids))
   (some (false, ()))
   (joinB (box (ref1_rightNode_j1 r_ref1_rightNode v k)) (()))))
noncomputable def ref1_rightNode_j3 (r_ref1_rightNode : (Node × Int × Unit) → Option (Bool × Unit)) (v : Node × Int × Unit) (k : Nat) (v0 : Unit) : Option (Bool × Unit) :=
bK (decide (v.1.kind = 3))
 (joinB (box (ref1_rightNode_j2 r_ref1_rightNode v k)) (decide (v.1.kind = 3), ()))
 (joinB (box (ref1_rightNode_j2 r_ref1_rightNode v k)) (decide (v.1.kind = 4), ()))
noncomputable def L_ref1_rightNode : FuncId → Nat → Option Shape := fun f i => match f, i with
    | 42, 14 => some ⟨[(.tmp 5, .int .i64)], [100, 101, 102, 103, 104, 107, 108, 109, 110, 111, 112, 113, 114, 115, 4, 105, 106]⟩
    | _, _ => none
noncomputable def J_ref1_rightNode : FuncId → Nat → Option Shape := fun f i => match f, i with
    | 42, 13 => some ⟨[], [44, 45, 51, 50, 52, 53, 54, 55, 56, 4, 58, 57, 59, 60, 61, 62, 63, 64, 65, 66, 67, 68, 69, 70, 71, 72, 73, 74, 75, 76, 77, 78, 79, 80, 81, 82, 83, 84, 85, 86, 87, 88, 89, 90, 91, 92, 93, 94, 95, 96, 97, 98, 99, 46, 47, 48, 49]⟩
    | 42, 8 => some ⟨[(.tmp 50, .bool)], [51, 52]⟩
    | 42, 3 => some ⟨[], [6, 7, 8, 9, 10, 11, 12, 13, 14, 15, 16, 17, 18, 19, 20, 21, 22, 23, 24, 25, 26, 27, 28, 29, 30, 31, 32, 33, 34, 35, 36, 37, 38, 39, 40, 41, 42, 43, 4]⟩
    | _, _ => none
@[reducible] noncomputable def X_ref1_rightNode (r_ref1_rightNode : (Node × Int × Unit) → Option (Bool × Unit)) : TX := ⟨cfgX, A, lay, dec, wd, fun g => if g = 42 then [⟨[(.tmp 0, .sct 27), (.tmp 1, .int .i64)], 0, [(.tmp 0, .bool)], r_ref1_rightNode⟩] else tab36 g, L_ref1_rightNode, J_ref1_rightNode⟩
noncomputable def ref1_rightNode_b (r_ref1_rightNode : (Node × Int × Unit) → Option (Bool × Unit)) (k : Nat) (v : Node × Int × Unit) : Option (Bool × Unit) :=
bK (decide (v.2.1 < 0))
 (some (false, ()))
 (bK (decide (v.1.kind < 1))
  (some (false, ()))
  (bK (decide (7 < v.1.kind))
   (some (false, ()))
   (bK (!(decide (v.1.kind = 2)))
    (bK (!((decide (v.1.set0 = 0) && (decide (v.1.set1 = 0) && (decide (v.1.set2 = 0) && decide (v.1.set3 = 0)))) == true))
     (some (false, ()))
     (bK (!(decide (v.1.kind = 5)))
      (bK (!(decide (v.1.min = 0)))
       (some (false, ()))
       (bK (!(decide (v.1.max = 0)))
        (some (false, ()))
        (joinB (box (ref1_rightNode_j3 r_ref1_rightNode v k)) (()))))
      (joinB (box (ref1_rightNode_j3 r_ref1_rightNode v k)) (()))))
    (bK (!(decide (v.1.kind = 5)))
     (bK (!(decide (v.1.min = 0)))
      (some (false, ()))
      (bK (!(decide (v.1.max = 0)))
       (some (false, ()))
       (joinB (box (ref1_rightNode_j3 r_ref1_rightNode v k)) (()))))
     (joinB (box (ref1_rightNode_j3 r_ref1_rightNode v k)) (()))))))
noncomputable def ref1_rightNode_all (k : Nat) : Nat → ((Node × Int × Unit) → Option (Bool × Unit))
  | 0 => (fun _ => none)
  | n + 1 => (ref1_rightNode_b ((ref1_rightNode_all k n)) k)
noncomputable def ref1_rightNode (v : Node × Int × Unit) : Option (Bool × Unit) := (ref1_rightNode_all kBig kBig) v
noncomputable def tab37 (g : FuncId) : List (Entry A) := if g = 42 then [⟨[(.tmp 0, .sct 27), (.tmp 1, .int .i64)], 0, [(.tmp 0, .bool)], ref1_rightNode⟩] else tab36 g
/-! 36 patchwork/patchworkref1.size -/
noncomputable def ref1_size_l0 (r_ref1_size : (Node × Int × Unit) → Option (Int × Unit)) (v : Node × Int × Unit) (v0 : Int × Unit) (rec1 : (Int × Int × Unit) → Option (Int × Unit)) (v2 : Int × Int × Unit) : Option (Int × Unit) :=
bK (decide (v2.2.1 < len v.1.kids))
 (oK (idx v.1.kids v2.2.1) fun x3 =>
 oK (r_ref1_size ((Node.mk x3.kind x3.set0 x3.set1 x3.set2 x3.set3 x3.kids x3.min x3.max), IntKind.wrap .i64 (v.2.1 + 1), ())) fun r4 =>
 bK (decide (v0.1 = 0))
  (none)
  (bK (decide (IntKind.wrap .i64 (Int.tdiv 1073741824 v0.1) < r4.1))
   (some (1073741824, ()))
   (bK (decide (1073741824 < IntKind.wrap .i64 (v2.1 + (IntKind.wrap .i64 (r4.1 * v0.1)))))
    (some (1073741824, ()))
    (rec1 (IntKind.wrap .i64 (v2.1 + (IntKind.wrap .i64 (r4.1 * v0.1))), IntKind.wrap .i64 (v2.2.1 + 1), ())))))
 (some (v2.1, ()))
noncomputable def ref1_size_j1 (r_ref1_size : (Node × Int × Unit) → Option (Int × Unit)) (v : Node × Int × Unit) (k : Nat) (v0 : Int × Unit) : Option (Int × Unit) :=
fixN (ref1_size_l0 r_ref1_size v v0) k (1, 0, ())
noncomputable def ref1_size_j2 (r_ref1_size : (Node × Int × Unit) → Option (Int × Unit)) (v : Node × Int × Unit) (k : Nat) (v5 : Int × Unit) : Option (Int × Unit) :=
bK (decide (v5.1 < v.1.max))
 (joinB (box (ref1_size_j1 r_ref1_size v k)) (v.1.max, ()))
 (joinB (box (ref1_size_j1 r_ref1_size v k)) (v5.1, ()))
noncomputable def L_ref1_size : FuncId → Nat → Option Shape := fun f i => match f, i with
    | 36, 11 => some ⟨[(.tmp 5, .int .i64), (.tmp 7, .int .i64)], [26, 27, 28, 29, 30, 33, 34, 35, 36, 37, 38, 39, 40, 8, 41, 42, 43, 44, 4, 45, 46, 47, 48, 49, 50, 51, 31, 32]⟩
    | _, _ => none
noncomputable def J_ref1_size : FuncId → Nat → Option Shape := fun f i => match f, i with
    | 36, 10 => some ⟨[(.tmp 6, .int .i64)], [11, 12, 13, 14, 15, 16, 17, 18, 19, 20, 21, 22, 23, 24, 25]⟩
    | 36, 8 => some ⟨[(.tmp 6, .int .i64)], [14, 15, 16, 17, 18, 19]⟩
    | _, _ => none
@[reducible] noncomputable def X_ref1_size (r_ref1_size : (Node × Int × Unit) → Option (Int × Unit)) : TX := ⟨cfgX, A, lay, dec, wd, fun g => if g = 36 then [⟨[(.tmp 0, .sct 27), (.tmp 1, .int .i64)], 0, [(.tmp 0, .int .i64)], r_ref1_size⟩] else tab37 g, L_ref1_size, J_ref1_size⟩
noncomputable def ref1_size_b (r_ref1_size : (Node × Int × Unit) → Option (Int × Unit)) (k : Nat) (v : Node × Int × Unit) : Option (Int × Unit) :=
bK (decide (2000 < v.2.1))
 (some (1073741824, ()))
 (bK (decide (v.1.kind = 5))
  (bK (decide (1 < v.1.min))
   (joinB (box (ref1_size_j2 r_ref1_size v k)) (v.1.min, ()))
   (joinB (box (ref1_size_j2 r_ref1_size v k)) (1, ())))
  (joinB (box (ref1_size_j1 r_ref1_size v k)) (1, ())))
noncomputable def ref1_size_all (k : Nat) : Nat → ((Node × Int × Unit) → Option (Int × Unit))
  | 0 => (fun _ => none)
  | n + 1 => (ref1_size_b ((ref1_size_all k n)) k)
noncomputable def ref1_size (v : Node × Int × Unit) : Option (Int × Unit) := (ref1_size_all kBig kBig) v
noncomputable def tab38 (g : FuncId) : List (Entry A) := if g = 36 then [⟨[(.tmp 0, .sct 27), (.tmp 1, .int .i64)], 0, [(.tmp 0, .int .i64)], ref1_size⟩] else tab37 g
/-! 26 patchwork/patchworkref1.Size -/
noncomputable def L_ref1_Size : FuncId → Nat → Option Shape := fun _ _ => none
noncomputable def J_ref1_Size : FuncId → Nat → Option Shape := fun _ _ => none
@[reducible] noncomputable def X_ref1_Size : TX := ⟨cfgX, A, lay, dec, wd, tab38, L_ref1_Size, J_ref1_Size⟩
noncomputable def ref1_Size (v : Node × Unit) : Option (Int × Unit) :=
oK (ref1_size ((Node.mk v.1.kind v.1.set0 v.1.set1 v.1.set2 v.1.set3 v.1.kids v.1.min v.1.max), 0, ())) fun r0 =>
some (r0.1, ())
noncomputable def tab39 (g : FuncId) : List (Entry A) := if g = 26 then [⟨[(.tmp 0, .sct 27)], 0, [(.tmp 0, .int .i64)], ref1_Size⟩] else tab38 g
/-! 31 patchwork/patchworkref1.RightNode -/
noncomputable def L_ref1_RightNode : FuncId → Nat → Option Shape := fun _ _ => none
noncomputable def J_ref1_RightNode : FuncId → Nat → Option Shape := fun _ _ => none
@[reducible] noncomputable def X_ref1_RightNode : TX := ⟨cfgX, A, lay, dec, wd, tab39, L_ref1_RightNode, J_ref1_RightNode⟩
noncomputable def ref1_RightNode (v : Node × Unit) : Option (Bool × Unit) :=
oK (ref1_rightNode ((Node.mk v.1.kind v.1.set0 v.1.set1 v.1.set2 v.1.set3 v.1.kids v.1.min v.1.max), 200, ())) fun r0 =>
bK r0.1
 (oK (ref1_Size ((Node.mk v.1.kind v.1.set0 v.1.set1 v.1.set2 v.1.set3 v.1.kids v.1.min v.1.max), ())) fun r1 =>
 some (!(decide (20000 < r1.1)), ()))
 (some (false, ()))
noncomputable def tab40 (g : FuncId) : List (Entry A) := if g = 31 then [⟨[(.tmp 0, .sct 27)], 0, [(.tmp 0, .bool)], ref1_RightNode⟩] else tab39 g
/-! 23 patchwork/patchworkref1.SameNode -/
noncomputable def ref1_SameNode_l0 (r_ref1_SameNode : (Node × Node × Unit) → Option (Bool × Unit)) (v : Node × Node × Unit) (rec0 : (Int × Unit) → Option (Bool × Unit)) (v1 : Int × Unit) : Option (Bool × Unit) :=
bK (decide (v1.1 < len v.1.kids))
 (oK (idx v.1.kids v1.1) fun x2 =>
 oK (idx v.2.1.kids v1.1) fun x3 =>
 oK (r_ref1_SameNode ((Node.mk x2.kind x2.set0 x2.set1 x2.set2 x2.set3 x2.kids x2.min x2.max), (Node.mk x3.kind x3.set0 x3.set1 x3.set2 x3.set3 x3.kids x3.min x3.max), ())) fun r4 =>
 bK (!r4.1)
  (some (false, ()))
  (rec0 (IntKind.wrap .i64 (v1.1 + 1), ())))
 (some (true, ()))
noncomputable def L_ref1_SameNode : FuncId → Nat → Option Shape := fun f i => match f, i with
    | 23, 4 => some ⟨[(.tmp 5, .int .i64)], [41, 42, 43, 44, 45, 48, 49, 50, 51, 52, 53, 54, 55, 56, 57, 58, 59, 4, 46, 47]⟩
    | _, _ => none
noncomputable def J_ref1_SameNode : FuncId → Nat → Option Shape := fun _ _ => none
@[reducible] noncomputable def X_ref1_SameNode (r_ref1_SameNode : (Node × Node × Unit) → Option (Bool × Unit)) : TX := ⟨cfgX, A, lay, dec, wd, fun g => if g = 23 then [⟨[(.tmp 0, .sct 27), (.tmp 1, .sct 27)], 0, [(.tmp 0, .bool)], r_ref1_SameNode⟩] else tab40 g, L_ref1_SameNode, J_ref1_SameNode⟩
noncomputable def ref1_SameNode_b (r_ref1_SameNode : (Node × Node × Unit) → Option (Bool × Unit)) (k : Nat) (v : Node × Node × Unit) : Option (Bool × Unit) :=
bK (!(decide (v.1.kind = v.2.1.kind)))
 (some (false, ()))
 (bK (!((decide (v.1.set0 = v.2.1.set0) && (decide (v.1.set1 = v.2.1.set1) && (decide (v.1.set2 = v.2.1.set2) && decide (v.1.set3 = v.2.1.set3)))) == true))
  (some (false, ()))
  (bK (!(decide (v.1.min = v.2.1.min)))
   (some (false, ()))
   (bK (!(decide (v.1.max = v.2.1.max)))
    (some (false, ()))
    (bK (!(decide (len v.1.kids = len v.2.1.kids)))
     (some (false, ()))
     (fixN (ref1_SameNode_l0 r_ref1_SameNode v) k (0, ()))))))
noncomputable def ref1_SameNode_all (k : Nat) : Nat → ((Node × Node × Unit) → Option (Bool × Unit))
  | 0 => (fun _ => none)
  | n + 1 => (ref1_SameNode_b ((ref1_SameNode_all k n)) k)
noncomputable def ref1_SameNode (v : Node × Node × Unit) : Option (Bool × Unit) := (ref1_SameNode_all kBig kBig) v
noncomputable def tab41 (g : FuncId) : List (Entry A) := if g = 23 then [⟨[(.tmp 0, .sct 27), (.tmp 1, .sct 27)], 0, [(.tmp 0, .bool)], ref1_SameNode⟩] else tab40 g
/-! 19 patchwork/ere.Parse -/
noncomputable def ere_Parse_j0 (r0 : Unit × ((List UInt8) × Int × (Option EreWrong) × Unit) × Node × Unit) (v1 : ((List UInt8) × Int × (Option EreWrong) × Unit) × Unit) : Option (Node × Int × Int × Unit) :=
bK (!(v1.1.2.2.1.isNone == true))
 (oK (v1.1.2.2.1) fun x2 =>
 oK (v1.1.2.2.1) fun x3 =>
 some ((Node.mk 0 0 0 0 0 [] 0 0), x2.at_, x3.e, ()))
 (oK (ere_Right ((Node.mk r0.2.2.1.kind r0.2.2.1.set0 r0.2.2.1.set1 r0.2.2.1.set2 r0.2.2.1.set3 r0.2.2.1.kids r0.2.2.1.min r0.2.2.1.max), ())) fun r4 =>
 bK (!r4.1)
  (some ((Node.mk 0 0 0 0 0 [] 0 0), 0, 4, ()))
  (some ((Node.mk r0.2.2.1.kind r0.2.2.1.set0 r0.2.2.1.set1 r0.2.2.1.set2 r0.2.2.1.set3 r0.2.2.1.kids r0.2.2.1.min r0.2.2.1.max), (-1), 0, ())))
noncomputable def ere_Parse_j1 (r0 : Unit × ((List UInt8) × Int × (Option EreWrong) × Unit) × Node × Unit) (v5 : Bool × Unit) : Option (Node × Int × Int × Unit) :=
bK v5.1
 (oK (ere_parser_fail ((), (r0.2.1.1, r0.2.1.2.1, r0.2.1.2.2.1, ()), r0.2.1.2.1, 2, ())) fun r6 =>
 joinB (box (ere_Parse_j0 r0)) ((r6.2.1.1, r6.2.1.2.1, r6.2.1.2.2.1, ()), ()))
 (joinB (box (ere_Parse_j0 r0)) ((r0.2.1.1, r0.2.1.2.1, r0.2.1.2.2.1, ()), ()))
noncomputable def L_ere_Parse : FuncId → Nat → Option Shape := fun _ _ => none
noncomputable def J_ere_Parse : FuncId → Nat → Option Shape := fun f i => match f, i with
    | 19, 7 => some ⟨[(.loc 1, .agg [.str, .int .i64, .optp 70])], [16, 17, 18, 19, 20, 21, 22, 23, 24, 25, 26, 27, 28, 29, 30, 31, 32, 33, 34, 35]⟩
    | 19, 6 => some ⟨[(.tmp 29, .bool)], [16, 17, 18, 19, 20, 21, 22, 23, 24, 25, 26, 27, 28]⟩
    | _, _ => none
@[reducible] noncomputable def X_ere_Parse : TX := ⟨cfgX, A, lay, dec, wd, tab41, L_ere_Parse, J_ere_Parse⟩
noncomputable def ere_Parse (v : (List UInt8) × Unit) : Option (Node × Int × Int × Unit) :=
bK (decide (1000 < len v.1))
 (some ((Node.mk 0 0 0 0 0 [] 0 0), 0, 5, ()))
 (oK (ere_parser_expression ((), (v.1, 0, none, ()), 0, ())) fun r0 =>
 bK (r0.2.1.2.2.1.isNone == true)
  (joinB (box (ere_Parse_j1 r0)) (decide (r0.2.1.2.1 < len v.1), ()))
  (joinB (box (ere_Parse_j1 r0)) (false, ())))
noncomputable def tab42 (g : FuncId) : List (Entry A) := if g = 19 then [⟨[(.tmp 0, .str)], 0, [(.tmp 0, .sct 27), (.tmp 1, .int .i64), (.tmp 2, .int .i64)], ere_Parse⟩] else tab41 g
/-! 18 patchwork/patchworklaw6.alive -/
noncomputable def L_law6_alive : FuncId → Nat → Option Shape := fun _ _ => none
noncomputable def J_law6_alive : FuncId → Nat → Option Shape := fun _ _ => none
@[reducible] noncomputable def X_law6_alive : TX := ⟨cfgX, A, lay, dec, wd, tab42, L_law6_alive, J_law6_alive⟩
noncomputable def law6_alive (v : Unit) : Option (Bool × Unit) :=
oK (ere_Parse (([] : List UInt8), ())) fun r0 =>
oK (ere_Parse (([91, 97, 45, 99, 93, 123, 50, 125] : List UInt8), ())) fun r1 =>
bK (decide (r0.1.kind = 1))
 (bK (decide (r0.2.1 = (-1)))
  (oK (law6_num (r0.2.2.1, ())) fun r2 =>
  bK (decide (r2.1 = 0))
   (oK (law6_num (r1.2.2.1, ())) fun r3 =>
   bK (decide (r3.1 = 0))
    (bK (decide (r1.1.kind = 5))
     (bK (decide (len r1.1.kids = 1))
      (oK (idx r1.1.kids 0) fun x4 =>
      oK (ere_Has ((Node.mk x4.kind x4.set0 x4.set1 x4.set2 x4.set3 x4.kids x4.min x4.max), 98, ())) fun r5 =>
      bK r5.1
       (oK (ere_Right ((Node.mk r1.1.kind r1.1.set0 r1.1.set1 r1.1.set2 r1.1.set3 r1.1.kids r1.1.min r1.1.max), ())) fun r6 =>
       bK r6.1
        (oK (ere_Size ((Node.mk r1.1.kind r1.1.set0 r1.1.set1 r1.1.set2 r1.1.set3 r1.1.kids r1.1.min r1.1.max), ())) fun r7 =>
        some (decide (r7.1 = 3), ()))
        (some (false, ())))
       (some (false, ())))
      (some (false, ())))
     (some (false, ())))
    (some (false, ())))
   (some (false, ())))
  (some (false, ())))
 (some (false, ()))
noncomputable def tab43 (g : FuncId) : List (Entry A) := if g = 18 then [⟨[], 0, [(.tmp 0, .bool)], law6_alive⟩] else tab42 g
/-! 17 patchwork/patchworkref1.Ere -/
noncomputable def ref1_Ere_j0 (r0 : Unit × ((List UInt8) × Int × Int × Int × Int × Unit) × Node × Unit) (v1 : ((List UInt8) × Int × Int × Int × Int × Unit) × Unit) : Option (Node × Int × Int × Unit) :=
bK (!(decide (v1.1.2.2.2.1 < 0)))
 (some ((Node.mk 0 0 0 0 0 [] 0 0), v1.1.2.2.2.1, v1.1.2.2.2.2.1, ()))
 (oK (ref1_RightNode ((Node.mk r0.2.2.1.kind r0.2.2.1.set0 r0.2.2.1.set1 r0.2.2.1.set2 r0.2.2.1.set3 r0.2.2.1.kids r0.2.2.1.min r0.2.2.1.max), ())) fun r2 =>
 bK (!r2.1)
  (some ((Node.mk 0 0 0 0 0 [] 0 0), 0, 4, ()))
  (some ((Node.mk r0.2.2.1.kind r0.2.2.1.set0 r0.2.2.1.set1 r0.2.2.1.set2 r0.2.2.1.set3 r0.2.2.1.kids r0.2.2.1.min r0.2.2.1.max), (-1), 0, ())))
noncomputable def L_ref1_Ere : FuncId → Nat → Option Shape := fun _ _ => none
noncomputable def J_ref1_Ere : FuncId → Nat → Option Shape := fun f i => match f, i with
    | 17, 7 => some ⟨[(.loc 1, .agg [.str, .int .i64, .int .i64, .int .i64, .int .i64])], [16, 17, 18, 19, 20, 21, 22, 23, 24, 25, 26, 27, 28]⟩
    | _, _ => none
@[reducible] noncomputable def X_ref1_Ere : TX := ⟨cfgX, A, lay, dec, wd, tab43, L_ref1_Ere, J_ref1_Ere⟩
noncomputable def ref1_Ere (v : (List UInt8) × Unit) : Option (Node × Int × Int × Unit) :=
bK (decide (1000 < len v.1))
 (some ((Node.mk 0 0 0 0 0 [] 0 0), 0, 5, ()))
 (oK (ref1_reader_branches ((), (v.1, 0, 0, (-1), 0, ()), ())) fun r0 =>
 bK (decide (r0.2.1.2.1 < len v.1))
  (oK (ref1_reader_fail ((), (r0.2.1.1, r0.2.1.2.1, r0.2.1.2.2.1, r0.2.1.2.2.2.1, r0.2.1.2.2.2.2.1, ()), r0.2.1.2.1, 2, ())) fun r3 =>
  joinB (box (ref1_Ere_j0 r0)) ((r3.2.1.1, r3.2.1.2.1, r3.2.1.2.2.1, r3.2.1.2.2.2.1, r3.2.1.2.2.2.2.1, ()), ()))
  (joinB (box (ref1_Ere_j0 r0)) ((r0.2.1.1, r0.2.1.2.1, r0.2.1.2.2.1, r0.2.1.2.2.2.1, r0.2.1.2.2.2.2.1, ()), ())))
noncomputable def tab44 (g : FuncId) : List (Entry A) := if g = 17 then [⟨[(.tmp 0, .str)], 0, [(.tmp 0, .sct 27), (.tmp 1, .int .i64), (.tmp 2, .int .i64)], ref1_Ere⟩] else tab43 g
end Go.Proofs.YtlkaoiceehlkmaaTE
