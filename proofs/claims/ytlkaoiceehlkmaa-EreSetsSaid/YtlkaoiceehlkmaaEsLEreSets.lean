/- Printed by a program of this session's own; no condition. -/
import Derived.Test.YtlkaoiceehlkmaaEsD
namespace Go.Proofs.YtlkaoiceehlkmaaTE
open Go Go.Proofs.YtlkaoiceehlkmaaVE
set_option linter.unusedVariables false
set_option maxRecDepth 100000
/-! 11 patchwork/patchworklaw6.EreSets -/
noncomputable def law6_EreSets_j0 (v : Int × Int × Int × Int × Unit) (x4 : List UInt8) (v7 : Bool × Unit) : Option (Bool × Unit) :=
oK (ere_Parse (x4, ())) fun r8 =>
oK (law6_num (r8.2.2.1, ())) fun r9 =>
bK (decide (r9.1 = 0))
 (bK (decide (r8.1.kind = 2))
  (oK (ere_Has ((Node.mk r8.1.kind r8.1.set0 r8.1.set1 r8.1.set2 r8.1.set3 r8.1.kids r8.1.min r8.1.max), v.2.2.1, ())) fun r10 =>
  some ((r10.1 == v7.1), ()))
  (some (false, ())))
 (some (false, ()))
noncomputable def law6_EreSets_j1 (v : Int × Int × Int × Int × Unit) (x4 : List UInt8) (v5 : Bool × Unit) (v6 : Bool × Unit) : Option (Bool × Unit) :=
bK (!(decide (v.2.2.1 = v.1)))
 (bK (!(decide (v.2.2.1 < v.1)))
  (bK v5.1
   (oK (idx ([!(decide (v.2.2.1 = 10)), decide (v.2.2.1 = v.1), decide (v.2.2.1 = v.1), !(decide (v.2.2.1 = 10)), !(decide (v.2.1 < v.2.2.1)), true, !v6.1] : List Bool) v.2.2.2.1) fun x11 =>
   joinB (box (law6_EreSets_j0 v x4)) (x11, ()))
   (oK (idx ([!(decide (v.2.2.1 = 10)), decide (v.2.2.1 = v.1), decide (v.2.2.1 = v.1), !(decide (v.2.2.1 = 10)), !(decide (v.2.1 < v.2.2.1)), decide (v.2.2.1 = v.1), !v6.1] : List Bool) v.2.2.2.1) fun x12 =>
   joinB (box (law6_EreSets_j0 v x4)) (x12, ())))
  (bK v5.1
   (oK (idx ([!(decide (v.2.2.1 = 10)), decide (v.2.2.1 = v.1), decide (v.2.2.1 = v.1), !(decide (v.2.2.1 = 10)), false, true, !v6.1] : List Bool) v.2.2.2.1) fun x13 =>
   joinB (box (law6_EreSets_j0 v x4)) (x13, ()))
   (oK (idx ([!(decide (v.2.2.1 = 10)), decide (v.2.2.1 = v.1), decide (v.2.2.1 = v.1), !(decide (v.2.2.1 = 10)), false, decide (v.2.2.1 = v.1), !v6.1] : List Bool) v.2.2.2.1) fun x14 =>
   joinB (box (law6_EreSets_j0 v x4)) (x14, ()))))
 (bK (!(decide (v.2.2.1 < v.1)))
  (bK v5.1
   (oK (idx ([!(decide (v.2.2.1 = 10)), decide (v.2.2.1 = v.1), decide (v.2.2.1 = v.1), false, !(decide (v.2.1 < v.2.2.1)), true, !v6.1] : List Bool) v.2.2.2.1) fun x15 =>
   joinB (box (law6_EreSets_j0 v x4)) (x15, ()))
   (oK (idx ([!(decide (v.2.2.1 = 10)), decide (v.2.2.1 = v.1), decide (v.2.2.1 = v.1), false, !(decide (v.2.1 < v.2.2.1)), decide (v.2.2.1 = v.1), !v6.1] : List Bool) v.2.2.2.1) fun x16 =>
   joinB (box (law6_EreSets_j0 v x4)) (x16, ())))
  (bK v5.1
   (oK (idx ([!(decide (v.2.2.1 = 10)), decide (v.2.2.1 = v.1), decide (v.2.2.1 = v.1), false, false, true, !v6.1] : List Bool) v.2.2.2.1) fun x17 =>
   joinB (box (law6_EreSets_j0 v x4)) (x17, ()))
   (oK (idx ([!(decide (v.2.2.1 = 10)), decide (v.2.2.1 = v.1), decide (v.2.2.1 = v.1), false, false, decide (v.2.2.1 = v.1), !v6.1] : List Bool) v.2.2.2.1) fun x18 =>
   joinB (box (law6_EreSets_j0 v x4)) (x18, ()))))
noncomputable def law6_EreSets_j2 (v : Int × Int × Int × Int × Unit) (x4 : List UInt8) (v5 : Bool × Unit) : Option (Bool × Unit) :=
bK (!(decide (v.2.2.1 < 9)))
 (bK (!(decide (13 < v.2.2.1)))
  (joinB (box (law6_EreSets_j1 v x4 v5)) (true, ()))
  (joinB (box (law6_EreSets_j1 v x4 v5)) (decide (v.2.2.1 = 32), ())))
 (joinB (box (law6_EreSets_j1 v x4 v5)) (decide (v.2.2.1 = 32), ()))
noncomputable def law6_EreSets_j3 (v : Int × Int × Int × Int × Unit) (r0 : Bool × Unit) (v1 : Bool × Unit) : Option (Bool × Unit) :=
bK v1.1
 (some (r0.1, ()))
 (oK (intRow lay 5 ([v.1] : List Int)) fun ns2 =>
 bK (fits 1 (1 + (toBytes ns2).length))
  (bK (fits 1 (1 + (toBytes ns2).length))
   (bK (fits 1 ((([91] : List UInt8) ++ toBytes ns2).length + 1))
    (bK (fits 1 (2 + (toBytes ns2).length))
     (bK (fits 1 ((([91, 94] : List UInt8) ++ toBytes ns2).length + 1))
      (bK (fits 1 (1 + (toBytes ns2).length))
       (bK (fits 1 ((([91] : List UInt8) ++ toBytes ns2).length + 1))
        (oK (intRow lay 5 ([v.2.1] : List Int)) fun ns3 =>
        bK (fits 1 (((([91] : List UInt8) ++ toBytes ns2) ++ ([45] : List UInt8)).length + (toBytes ns3).length))
         (bK (fits 1 ((((([91] : List UInt8) ++ toBytes ns2) ++ ([45] : List UInt8)) ++ toBytes ns3).length + 1))
          (bK (fits 1 (10 + (toBytes ns2).length))
           (bK (fits 1 ((([91, 91, 58, 97, 108, 110, 117, 109, 58, 93] : List UInt8) ++ toBytes ns2).length + 1))
            (oK (idx ([([46] : List UInt8), (([92] : List UInt8) ++ toBytes ns2), ((([91] : List UInt8) ++ toBytes ns2) ++ ([93] : List UInt8)), ((([91, 94] : List UInt8) ++ toBytes ns2) ++ ([93] : List UInt8)), ((((([91] : List UInt8) ++ toBytes ns2) ++ ([45] : List UInt8)) ++ toBytes ns3) ++ ([93] : List UInt8)), ((([91, 91, 58, 97, 108, 110, 117, 109, 58, 93] : List UInt8) ++ toBytes ns2) ++ ([93] : List UInt8)), ([91, 94, 91, 58, 115, 112, 97, 99, 101, 58, 93, 93] : List UInt8)] : List (List UInt8)) v.2.2.2.1) fun x4 =>
            bK (!(decide (v.2.2.1 < 97)))
             (bK (!(decide (122 < v.2.2.1)))
              (joinB (box (law6_EreSets_j2 v x4)) (true, ()))
              (bK (!(decide (v.2.2.1 < 65)))
               (bK (!(decide (90 < v.2.2.1)))
                (joinB (box (law6_EreSets_j2 v x4)) (true, ()))
                (bK (!(decide (v.2.2.1 < 48)))
                 (joinB (box (law6_EreSets_j2 v x4)) (!(decide (57 < v.2.2.1)), ()))
                 (joinB (box (law6_EreSets_j2 v x4)) (false, ()))))
               (bK (!(decide (v.2.2.1 < 48)))
                (joinB (box (law6_EreSets_j2 v x4)) (!(decide (57 < v.2.2.1)), ()))
                (joinB (box (law6_EreSets_j2 v x4)) (false, ())))))
             (bK (!(decide (v.2.2.1 < 65)))
              (bK (!(decide (90 < v.2.2.1)))
               (joinB (box (law6_EreSets_j2 v x4)) (true, ()))
               (bK (!(decide (v.2.2.1 < 48)))
                (joinB (box (law6_EreSets_j2 v x4)) (!(decide (57 < v.2.2.1)), ()))
                (joinB (box (law6_EreSets_j2 v x4)) (false, ()))))
              (bK (!(decide (v.2.2.1 < 48)))
               (joinB (box (law6_EreSets_j2 v x4)) (!(decide (57 < v.2.2.1)), ()))
               (joinB (box (law6_EreSets_j2 v x4)) (false, ())))))
            (none))
           (none))
          (none))
         (none))
        (none))
       (none))
      (none))
     (none))
    (none))
   (none))
  (none))
noncomputable def L_law6_EreSets : FuncId → Nat → Option Shape := fun _ _ => none
noncomputable def J_law6_EreSets : FuncId → Nat → Option Shape := fun f i => match f, i with
    | 11, 9 => some ⟨[(.tmp 14, .bool)], [128, 129, 130, 131, 132, 133, 134, 135, 136, 137, 138, 139, 140, 141, 142, 143, 144, 145, 146, 147, 148, 149, 150, 151, 152, 153, 154, 155, 156, 157, 158, 159, 160, 161, 162]⟩
    | 11, 8 => some ⟨[(.tmp 13, .bool)], [118, 119, 120, 121, 122, 123, 124, 125, 126, 127]⟩
    | 11, 7 => some ⟨[(.tmp 12, .bool)], [96, 97, 98, 99, 100, 101, 102, 103, 104, 105, 106, 107, 108, 109, 110, 111, 112, 113, 114, 115, 116, 117]⟩
    | 11, 3 => some ⟨[(.tmp 68, .bool)], [19, 20, 21, 22, 23, 24, 25, 26, 27, 28, 29, 30, 31, 32, 33, 34, 35, 36, 37, 38, 39, 40, 41, 42, 43, 44, 45, 46, 47, 48, 49, 50, 51, 52, 53, 54, 55, 56, 57, 58, 59, 60, 61, 62, 63, 64, 65, 66, 67]⟩
    | _, _ => none
@[reducible] noncomputable def X_law6_EreSets : TX := ⟨cfgX, A, lay, dec, wd, tab44, L_law6_EreSets, J_law6_EreSets⟩
noncomputable def law6_EreSets (v : Int × Int × Int × Int × Unit) : Option (Bool × Unit) :=
oK (law6_alive (())) fun r0 =>
bK (!r0.1)
 (joinB (box (law6_EreSets_j3 v r0)) (true, ()))
 (bK (decide (v.2.2.2.1 < 0))
  (joinB (box (law6_EreSets_j3 v r0)) (true, ()))
  (bK (decide (6 < v.2.2.2.1))
   (joinB (box (law6_EreSets_j3 v r0)) (true, ()))
   (bK (!(decide (32 < v.1)))
    (joinB (box (law6_EreSets_j3 v r0)) (true, ()))
    (bK (!(decide (v.1 < 127)))
     (joinB (box (law6_EreSets_j3 v r0)) (true, ()))
     (bK (!(decide (32 < v.2.1)))
      (joinB (box (law6_EreSets_j3 v r0)) (true, ()))
      (bK (!(decide (v.2.1 < 127)))
       (joinB (box (law6_EreSets_j3 v r0)) (true, ()))
       (bK (decide (v.1 = 91))
        (joinB (box (law6_EreSets_j3 v r0)) (true, ()))
        (bK (decide (v.1 = 93))
         (joinB (box (law6_EreSets_j3 v r0)) (true, ()))
         (bK (decide (v.1 = 94))
          (joinB (box (law6_EreSets_j3 v r0)) (true, ()))
          (bK (decide (v.1 = 45))
           (joinB (box (law6_EreSets_j3 v r0)) (true, ()))
           (bK (decide (v.2.1 = 93))
            (joinB (box (law6_EreSets_j3 v r0)) (true, ()))
            (joinB (box (law6_EreSets_j3 v r0)) (decide (v.2.1 = 91), ())))))))))))))

end Go.Proofs.YtlkaoiceehlkmaaTE
