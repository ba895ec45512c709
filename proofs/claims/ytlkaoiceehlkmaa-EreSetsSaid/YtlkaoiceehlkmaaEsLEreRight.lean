/- Printed by a program of this session's own; no condition. -/
import Derived.Test.YtlkaoiceehlkmaaEsD
namespace Go.Proofs.YtlkaoiceehlkmaaTE
open Go Go.Proofs.YtlkaoiceehlkmaaVE
set_option linter.unusedVariables false
set_option maxRecDepth 100000
/-! 8 patchwork/patchworklaw6.EreRight -/
noncomputable def law6_EreRight_j0 (v : (List UInt8) × Unit) (r0 : Bool × Unit) (v1 : Bool × Unit) : Option (Bool × Unit) :=
bK v1.1
 (some (r0.1, ()))
 (oK (ere_Parse (v.1, ())) fun r2 =>
 oK (law6_num (r2.2.2.1, ())) fun r3 =>
 bK (decide (r3.1 = 0))
  (bK (decide (r2.2.1 = (-1)))
   (oK (ere_Right ((Node.mk r2.1.kind r2.1.set0 r2.1.set1 r2.1.set2 r2.1.set3 r2.1.kids r2.1.min r2.1.max), ())) fun r4 =>
   bK r4.1
    (oK (ere_Size ((Node.mk r2.1.kind r2.1.set0 r2.1.set1 r2.1.set2 r2.1.set3 r2.1.kids r2.1.min r2.1.max), ())) fun r5 =>
    some (!(decide (20000 < r5.1)), ()))
    (some (false, ())))
   (some (false, ())))
  (bK (!(decide (r2.2.1 < 0)))
   (bK (!(decide (len v.1 < r2.2.1)))
    (bK (decide (r2.1.kind = 0))
     (some (decide (len r2.1.kids = 0), ()))
     (some (false, ())))
    (some (false, ())))
   (some (false, ()))))
noncomputable def L_law6_EreRight : FuncId → Nat → Option Shape := fun _ _ => none
noncomputable def J_law6_EreRight : FuncId → Nat → Option Shape := fun f i => match f, i with
    | 8, 3 => some ⟨[(.tmp 14, .bool)], [8, 9, 10, 11, 12, 13]⟩
    | _, _ => none
@[reducible] noncomputable def X_law6_EreRight : TX := ⟨cfgX, A, lay, dec, wd, tab44, L_law6_EreRight, J_law6_EreRight⟩
noncomputable def law6_EreRight (v : (List UInt8) × Unit) : Option (Bool × Unit) :=
oK (law6_alive (())) fun r0 =>
bK (!r0.1)
 (joinB (box (law6_EreRight_j0 v r0)) (true, ()))
 (joinB (box (law6_EreRight_j0 v r0)) (decide (200 < len v.1), ()))

end Go.Proofs.YtlkaoiceehlkmaaTE
