/- Printed by a program of this session's own; no condition. -/
import Derived.Test.YtlkaoiceehlkmaaErD
namespace Go.Proofs.YtlkaoiceehlkmaaTE
open Go Go.Proofs.YtlkaoiceehlkmaaVE
set_option linter.unusedVariables false
set_option maxRecDepth 100000
/-! 10 patchwork/patchworklaw6.EreTimes -/
noncomputable def law6_EreTimes_j0 (x5 : Int) (x6 : Int) (r7 : Node × Int × Int × Unit) (v8 : Bool × Unit) : Option (Bool × Unit) :=
bK v8.1
 (oK (law6_num (r7.2.2.1, ())) fun r9 =>
 bK (decide (r9.1 = 2))
  (some (decide (r7.2.1 = 1), ()))
  (some (false, ())))
 (oK (law6_num (r7.2.2.1, ())) fun r10 =>
 bK (decide (r10.1 = 0))
  (bK (decide (r7.1.kind = 5))
   (bK (decide (r7.1.min = x5))
    (some (decide (r7.1.max = x6), ()))
    (some (false, ())))
   (some (false, ())))
  (some (false, ())))
noncomputable def law6_EreTimes_j1 (v : Int × Int × Int × Unit) (r0 : Bool × Unit) (v1 : Bool × Unit) : Option (Bool × Unit) :=
bK v1.1
 (some (r0.1, ()))
 (oK (ref1_PutNum (v.1, ())) fun r2 =>
 oK (ref1_PutNum (v.2.1, ())) fun r3 =>
 bK (fits 1 (1 + r2.1.length))
  (bK (fits 1 ((([123] : List UInt8) ++ r2.1).length + 1))
   (bK (fits 1 (1 + r2.1.length))
    (bK (fits 1 ((([123] : List UInt8) ++ r2.1).length + 2))
     (bK (fits 1 (1 + r2.1.length))
      (bK (fits 1 ((([123] : List UInt8) ++ r2.1).length + 1))
       (bK (fits 1 (((([123] : List UInt8) ++ r2.1) ++ ([44] : List UInt8)).length + r3.1.length))
        (bK (fits 1 ((((([123] : List UInt8) ++ r2.1) ++ ([44] : List UInt8)) ++ r3.1).length + 1))
         (oK (idx ([([42] : List UInt8), ([43] : List UInt8), ([63] : List UInt8), ((([123] : List UInt8) ++ r2.1) ++ ([125] : List UInt8)), ((([123] : List UInt8) ++ r2.1) ++ ([44, 125] : List UInt8)), ((((([123] : List UInt8) ++ r2.1) ++ ([44] : List UInt8)) ++ r3.1) ++ ([125] : List UInt8))] : List (List UInt8)) v.2.2.1) fun x4 =>
         oK (idx ([0, 1, 0, v.1, v.1, v.1] : List Int) v.2.2.1) fun x5 =>
         oK (idx ([(-1), (-1), 1, v.1, (-1), v.2.1] : List Int) v.2.2.1) fun x6 =>
         bK (fits 1 (1 + x4.length))
          (oK (ere_Parse ((([120] : List UInt8) ++ x4), ())) fun r7 =>
          bK (decide (2 < v.2.2.1))
           (bK (decide (200 < v.1))
            (join (law6_EreTimes_j0 x5 x6 r7) (true, ()))
            (bK (decide (v.2.2.1 = 5))
             (bK (decide (200 < v.2.1))
              (join (law6_EreTimes_j0 x5 x6 r7) (true, ()))
              (join (law6_EreTimes_j0 x5 x6 r7) (decide (v.2.1 < v.1), ())))
             (join (law6_EreTimes_j0 x5 x6 r7) (false, ()))))
           (bK (decide (v.2.2.1 = 5))
            (bK (decide (200 < v.2.1))
             (join (law6_EreTimes_j0 x5 x6 r7) (true, ()))
             (join (law6_EreTimes_j0 x5 x6 r7) (decide (v.2.1 < v.1), ())))
            (join (law6_EreTimes_j0 x5 x6 r7) (false, ()))))
          (none))
         (none))
        (none))
       (none))
      (none))
     (none))
    (none))
   (none))
  (none))
noncomputable def L_law6_EreTimes : FuncId → Nat → Option Shape := fun _ _ => none
noncomputable def J_law6_EreTimes : FuncId → Nat → Option Shape := fun f i => match f, i with
    | 10, 11 => some ⟨[(.tmp 102, .bool)], [84, 85, 86, 87, 88, 89, 90, 91, 92, 93, 94, 95, 96, 97, 98, 99, 100, 101]⟩
    | 10, 3 => some ⟨[(.tmp 42, .bool)], [17, 18, 19, 20, 21, 22, 23, 24, 25, 26, 27, 28, 29, 30, 31, 32, 33, 34, 35, 36, 37, 38, 39, 40, 41]⟩
    | _, _ => none
@[reducible] noncomputable def X_law6_EreTimes : TX := ⟨cfgX, A, lay, dec, wd, tab45, L_law6_EreTimes, J_law6_EreTimes⟩
noncomputable def law6_EreTimes (v : Int × Int × Int × Unit) : Option (Bool × Unit) :=
oK (law6_alive (())) fun r0 =>
bK (!r0.1)
 (join (law6_EreTimes_j1 v r0) (true, ()))
 (bK (decide (v.1 < 0))
  (join (law6_EreTimes_j1 v r0) (true, ()))
  (bK (decide (220 < v.1))
   (join (law6_EreTimes_j1 v r0) (true, ()))
   (bK (decide (v.2.1 < 0))
    (join (law6_EreTimes_j1 v r0) (true, ()))
    (bK (decide (220 < v.2.1))
     (join (law6_EreTimes_j1 v r0) (true, ()))
     (bK (decide (v.2.2.1 < 0))
      (join (law6_EreTimes_j1 v r0) (true, ()))
      (join (law6_EreTimes_j1 v r0) (decide (5 < v.2.2.1), ())))))))

end Go.Proofs.YtlkaoiceehlkmaaTE
