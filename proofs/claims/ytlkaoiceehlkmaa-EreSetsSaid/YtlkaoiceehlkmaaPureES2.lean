/- EreSets, the plain law: the seven texts, and the law; no program in sight. -/
import Derived.Test.YtlkaoiceehlkmaaPureES
namespace Go.Proofs.YtlkaoiceehlkmaaTE
open Go Go.Proofs.YtlkaoiceehlkmaaVE
set_option linter.unusedVariables false
set_option linter.unusedSectionVars false
set_option linter.unusedSimpArgs false
abbrev Told (s : List UInt8) (S : Nat → Bool) : Prop := ∃ nd : Node, ere_Parse (s, ()) = some (nd, -1, 0, ()) ∧ nd.kind = 2 ∧ ∀ c : Nat, c < 256 → ere_Has (nd, ((c : Nat) : Int), ()) = some (S c, ())
theorem t_end {s : List UInt8} {i : Nat} {neg : Bool} {S : Nat → Bool} {n : Node} (hs : i + 1 = s.length) (h1 : n.kind = 2) (h2 : n.kids = []) (h3 : n.min = 0) (h4 : n.max = 0) (h5 : IsSet n.set0 n.set1 n.set2 n.set3 S) : GP s S ((), (s, ((i + 1 : Nat) : Int), none, ()), n, ()) := ⟨by rw [hs], h1, h2, h3, h4, h5⟩
theorem told0 : Told [46] fun c => !(false || decide (c = 10)) := by
  refine set_told (by decide) rfl rfl ⟨((), ([46], 1, none, ()), Node.mk 2 (xorW (orW 0 1024)) (xorW 0) (xorW 0) (xorW 0) [] 0 0, ()), ⟨rfl, rfl, rfl, rfl, rfl, IsSet.empty.others⟩, fun n => ?_⟩
  rw [fT_s]
  unfold ere_parser_atom_b
  dsimp only
  have hi : ∀ sg, ere_parser_is ((), ([46], 0, none, ()), sg, ()) = some ((), ([46], 0, none, ()), sg.contains 46, ()) := fun sg => is_at (s := [46]) (i := 0) rfl sg
  rw [idx_z, show ([46] : List UInt8)[0]? = some 46 from rfl, oK_s, hi, oK_s]
  dsimp only
  rw [show ([42, 43, 63, 123] : List UInt8).contains 46 = false from rfl, bK_f, hi, oK_s]
  dsimp only
  rw [show ([91] : List UInt8).contains 46 = false from rfl, bK_f, hi, oK_s]
  dsimp only
  rw [show ([40] : List UInt8).contains 46 = false from rfl, bK_f, d_t (show ((((46 : UInt8).toNat : Nat) : Int) = 46) from rfl), bK_t]
  have ho : ere_others ((0, 0, 0, 0, ()), ()) = some ((xorW (orW 0 1024), xorW 0, xorW 0, xorW 0, ()), ()) := by kernel_rfl
  rw [ho, oK_s]
  rfl
section
variable {x y : UInt8}
theorem told1 : Told [92, x] fun c => false || decide (c = x.toNat) := by
  have hx := x.toNat_lt
  refine set_told (by simp) rfl rfl ⟨((), ([92, x], 2, none, ()), Node.mk 2 (addS 0 0 0 0 ((x.toNat : Nat) : Int) 0) (addS 0 0 0 0 ((x.toNat : Nat) : Int) 1) (addS 0 0 0 0 ((x.toNat : Nat) : Int) 2) (addS 0 0 0 0 ((x.toNat : Nat) : Int) 3) [] 0 0, ()), ⟨rfl, rfl, rfl, rfl, rfl, IsSet.empty.add (by omega)⟩, fun n => ?_⟩
  rw [fT_s]
  unfold ere_parser_atom_b
  dsimp only
  have hi : ∀ sg, ere_parser_is ((), ([92, x], 0, none, ()), sg, ()) = some ((), ([92, x], 0, none, ()), sg.contains 92, ()) := fun sg => is_at (s := [92, x]) (i := 0) rfl sg
  rw [idx_z, show ([92, x] : List UInt8)[0]? = some 92 from rfl, oK_s, hi, oK_s]
  dsimp only
  rw [show ([42, 43, 63, 123] : List UInt8).contains 92 = false from rfl, bK_f, hi, oK_s]
  dsimp only
  rw [show ([91] : List UInt8).contains 92 = false from rfl, bK_f, hi, oK_s]
  dsimp only
  rw [show ([40] : List UInt8).contains 92 = false from rfl, bK_f, d_f (show ¬ ((((92 : UInt8).toNat : Nat) : Int) = 46) by decide), bK_f, d_f (show ¬ ((((92 : UInt8).toNat : Nat) : Int) = 94) by decide), bK_f, d_f (show ¬ ((((92 : UInt8).toNat : Nat) : Int) = 36) by decide), bK_f, d_t (show ((((92 : UInt8).toNat : Nat) : Int) = 92) from rfl), bK_t]
  have e1 : IntKind.wrap .i64 ((0 : Int) + 1) = 1 := by decide
  have e2 : IntKind.wrap .i64 ((1 : Int) + 1) = 2 := by decide
  have e3 : IntKind.wrap .i64 ((2 : Int) - 1) = 1 := by decide
  rw [e1, e2, e3, d_f (show ¬ (1 : Int) = len [92, x] by rw [len_e]; simp), bK_f, show idx [92, x] 1 = some x from rfl, oK_s]
  obtain ⟨d1, d2⟩ := d64 (m := ((x.toNat : Nat) : Int)) (by omega) (by omega)
  have hs : ere_single (((x.toNat : Nat) : Int), ()) = some (Node.mk 2 (addS 0 0 0 0 ((x.toNat : Nat) : Int) 0) (addS 0 0 0 0 ((x.toNat : Nat) : Int) 1) (addS 0 0 0 0 ((x.toNat : Nat) : Int) 2) (addS 0 0 0 0 ((x.toNat : Nat) : Int) 3) [] 0 0, ()) := by
    unfold ere_single
    dsimp only
    rw [d1, bK_t, d2, bK_f, bK_t]
  rw [hs, oK_s]
variable (hx1 : x ≠ 91) (hx3 : x ≠ 93)
theorem n94 (hx4 : x ≠ 94) : decide (((x.toNat : Nat) : Int) = 94) = false := d_f fun h => hx4 (UInt8.toNat_inj.1 (by show x.toNat = 94; omega))
include hx1 hx3 in
theorem told2 (hx4 : x ≠ 94) : Told [91, x, 93] fun c => false || (decide (x.toNat ≤ c) && decide (c ≤ x.toNat)) := by
  refine set_told (by simp) rfl rfl (atom_set rfl ?_)
  refine set_start (by simp) false 1 (x := x) rfl (n94 hx4) rfl ?_
  rw [show kBig = (kBig - 2) + 1 + 1 from rfl]
  refine set_item (by simp) (x := x) (y := x) (j := 2) rfl hx3 hx1 (.inl ⟨by simp, rfl, rfl⟩) SW.start fun w' hw' => ?_
  exact set_end (by simp) rfl (by omega) hw' fun n h1 h2 h3 h4 h5 => ⟨rfl, h1, h2, h3, h4, h5⟩
include hx1 hx3 in
theorem told3 : Told [91, 94, x, 93] fun c => !((false || (decide (x.toNat ≤ c) && decide (c ≤ x.toNat))) || decide (c = 10)) := by
  refine set_told (by simp) rfl rfl (atom_set rfl ?_)
  refine set_start (by simp) true 2 (x := 94) rfl rfl rfl ?_
  rw [show kBig = (kBig - 2) + 1 + 1 from rfl]
  refine set_item (by simp) (x := x) (y := x) (j := 3) rfl hx3 hx1 (.inl ⟨by simp, rfl, rfl⟩) SW.start fun w' hw' => ?_
  exact set_end (by simp) rfl (by omega) hw' fun n h1 h2 h3 h4 h5 => ⟨rfl, h1, h2, h3, h4, h5⟩
include hx1 hx3 in
theorem told4 (hx4 : x ≠ 94) (hy1 : y ≠ 91) (hy3 : y ≠ 93) : Told [91, x, 45, y, 93] fun c => false || (decide (x.toNat ≤ c) && decide (c ≤ y.toNat)) := by
  refine set_told (by simp) rfl rfl (atom_set rfl ?_)
  refine set_start (by simp) false 1 (x := x) rfl (n94 hx4) rfl ?_
  rw [show kBig = (kBig - 2) + 1 + 1 from rfl]
  refine set_item (by simp) (x := x) (y := y) (j := 4) rfl hx3 hx1 (.inr ⟨rfl, rfl, hy3, hy1, rfl⟩) SW.start fun w' hw' => ?_
  exact set_end (by simp) rfl (by omega) hw' fun n h1 h2 h3 h4 h5 => ⟨rfl, h1, h2, h3, h4, h5⟩
def alnum (c : Nat) : Bool := (decide (97 ≤ c) && decide (c ≤ 122)) || ((decide (65 ≤ c) && decide (c ≤ 90)) || (decide (48 ≤ c) && decide (c ≤ 57)))
def space (c : Nat) : Bool := (decide (9 ≤ c) && decide (c ≤ 13)) || decide (c = 32)
set_option maxRecDepth 100000 in
theorem alnum_all : ((List.range 256).all fun i => decide (glob_Class ([97, 108, 110, 117, 109], ((i : Nat) : Int), ()) = some (alnum i, true, ()))) = true := by kernel_rfl
set_option maxRecDepth 100000 in
theorem space_all : ((List.range 256).all fun i => decide (glob_Class ([115, 112, 97, 99, 101], ((i : Nat) : Int), ()) = some (space i, true, ()))) = true := by kernel_rfl
theorem alnum_cls (i : Nat) (h : i < 256) : glob_Class ([97, 108, 110, 117, 109], ((i : Nat) : Int), ()) = some (alnum i, true, ()) := of_decide_eq_true (List.all_eq_true.1 alnum_all i (List.mem_range.2 h))
theorem space_cls (i : Nat) (h : i < 256) : glob_Class ([115, 112, 97, 99, 101], ((i : Nat) : Int), ()) = some (space i, true, ()) := of_decide_eq_true (List.all_eq_true.1 space_all i (List.mem_range.2 h))
include hx1 hx3 in
theorem told5 : Told [91, 91, 58, 97, 108, 110, 117, 109, 58, 93, x, 93] fun c => (false || alnum c) || (decide (x.toNat ≤ c) && decide (c ≤ x.toNat)) := by
  refine set_told (by simp) rfl rfl (atom_set rfl ?_)
  refine set_start (by simp) false 1 (x := 91) rfl rfl rfl ?_
  rw [show kBig = (kBig - 3) + 1 + 1 + 1 from rfl]
  have hN : glob_Named ([91, 91, 58, 97, 108, 110, 117, 109, 58, 93, x, 93], ((1 : Nat) : Int), ()) = some ([97, 108, 110, 117, 109], ((10 : Nat) : Int), ()) := by kernel_rfl
  refine set_class (name := [97, 108, 110, 117, 109]) (e := 10) rfl hN alnum alnum_cls SW.start fun w' hw' => ?_
  refine set_item (by simp) (x := x) (y := x) (j := 11) rfl hx3 hx1 (.inl ⟨by simp, rfl, rfl⟩) hw' fun w' hw' => ?_
  exact set_end (by simp) rfl (by omega) hw' fun n h1 h2 h3 h4 h5 => ⟨rfl, h1, h2, h3, h4, h5⟩
theorem told6 : Told [91, 94, 91, 58, 115, 112, 97, 99, 101, 58, 93, 93] fun c => !((false || space c) || decide (c = 10)) := by
  refine set_told (by decide) rfl rfl (atom_set rfl ?_)
  refine set_start (by decide) true 2 (x := 94) rfl rfl rfl ?_
  rw [show kBig = (kBig - 2) + 1 + 1 from rfl]
  have hN : glob_Named ([91, 94, 91, 58, 115, 112, 97, 99, 101, 58, 93, 93], ((2 : Nat) : Int), ()) = some ([115, 112, 97, 99, 101], ((11 : Nat) : Int), ()) := by kernel_rfl
  refine set_class (name := [115, 112, 97, 99, 101]) (e := 11) rfl hN space space_cls SW.start fun w' hw' => ?_
  exact set_end (by decide) rfl (by omega) hw' fun n h1 h2 h3 h4 h5 => ⟨rfl, h1, h2, h3, h4, h5⟩
end
end Go.Proofs.YtlkaoiceehlkmaaTE
