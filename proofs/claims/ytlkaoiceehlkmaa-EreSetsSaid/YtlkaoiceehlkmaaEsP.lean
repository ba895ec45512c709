/- The expression reader, as it is told: what its small functions do; no program in sight. -/
import Derived.Test.YtlkaoiceehlkmaaEsD
import Derived.Test.YtlkaoiceehlkmaaTeZ1
namespace Go.Proofs.YtlkaoiceehlkmaaTE
open Go Go.Proofs.YtlkaoiceehlkmaaVE
set_option linter.unusedVariables false
set_option linter.unusedSimpArgs false
set_option maxRecDepth 100000 in
theorem er_alive : law6_alive () = some (true, ()) := by kernel_rfl
theorem nd_eta (n : Node) : Node.mk n.kind n.set0 n.set1 n.set2 n.set3 n.kids n.min n.max = n := by cases n; rfl
theorem idxF_has : ∀ (l : List UInt8) (c : UInt8) (k : Nat), (!(decide (idxF l c k < 0))) = l.contains c
  | [], c, k => rfl
  | b :: l, c, k => by
    rw [idxF, List.contains_cons]
    by_cases h : b = c
    · subst h
      simp only [beq_self_eq_true, if_true, Bool.true_or]
      rw [d_f (by omega)]; rfl
    · have h1 : (b == c) = false := by simpa using h
      have h2 : (c == b) = false := by simpa using fun e => h e.symm
      rw [h1, h2]
      simp only [Bool.false_eq_true, if_false, Bool.false_or]
      exact idxF_has l c (k + 1)
theorem byte_back (c : UInt8) : (((c.toNat : Nat) : Int).toNat).toUInt8 = c := by
  rw [Int.toNat_natCast]; exact UInt8.ofNat_toNat
section basics
variable {s : List UInt8} {i : Nat} {c : UInt8}
theorem is_at (h : s[i]? = some c) (signs : List UInt8) : ere_parser_is ((), (s, ((i : Nat) : Int), none, ()), signs, ()) = some ((), (s, ((i : Nat) : Int), none, ()), signs.contains c, ()) := by
  have hi : i < s.length := (List.getElem?_eq_some_iff.1 h).1
  unfold ere_parser_is
  simp only [Option.isNone_none, beq_self_eq_true, bK_t, d_t (show ((i : Nat) : Int) < len s by rw [len_e]; omega), idx_n, h, oK_s, tIndexByte, byte_back, idxF_has]
theorem is_end (h : s.length ≤ i) (signs : List UInt8) : ere_parser_is ((), (s, ((i : Nat) : Int), none, ()), signs, ()) = some ((), (s, ((i : Nat) : Int), none, ()), false, ()) := by
  unfold ere_parser_is
  simp only [Option.isNone_none, beq_self_eq_true, bK_t, d_f (show ¬ ((i : Nat) : Int) < len s by rw [len_e]; omega), bK_f]
theorem is_bad (at_ : Int) (w : EreWrong) (signs : List UInt8) : ere_parser_is ((), (s, at_, some w, ()), signs, ()) = some ((), (s, at_, some w, ()), false, ()) := by
  unfold ere_parser_is
  simp only [Option.isNone_some]
  rfl
theorem fail_ok (at_ : Int) (p e : Int) : ere_parser_fail ((), (s, at_, none, ()), p, e, ()) = some ((), (s, at_, some ⟨p, e⟩, ()), ()) := rfl
theorem fail_bad (at_ : Int) (w : EreWrong) (p e : Int) : ere_parser_fail ((), (s, at_, some w, ()), p, e, ()) = some ((), (s, at_, some w, ()), ()) := rfl
theorem pre_one (t : List UInt8) (c : UInt8) : strings_HasPrefix (t, [c], ()) = some (t.head? == some c, ()) := by
  unfold strings_HasPrefix stringslite_HasPrefix
  cases t with
  | nil => rfl
  | cons b t =>
    simp only [d_f (show ¬ len (b :: t) < len [c] by rw [len_e, len_e]; simp only [List.length_cons, List.length_nil]; omega), Bool.not_false, bK_t]
    rw [okSl_t (by omega) (by rw [len_e]; simp) (by rw [len_e, len_e]; simp only [List.length_cons, List.length_nil]; omega)]
    have : slc (b :: t) 0 (len [c]) = [b] := by rw [len_e]; exact slc_z (b :: t) 1
    simp only [bK_t, oK_s, this]
    refine congrArg (fun b => some (b, ())) ?_
    by_cases h : b = c
    · subst h; simp
    · rw [d_f (by simpa using h)]
      simp [h]
end basics
/-! the levels of the recursion -/
abbrev PSt := List UInt8 × Int × Option EreWrong × Unit
abbrev PF := Unit × PSt × Int × Unit → Option (Unit × PSt × Node × Unit)
noncomputable def fG (n : Nat) : PF := (ere_parser_group_all kBig n).1
noncomputable def fT (n : Nat) : PF := (ere_parser_group_all kBig n).2.1
noncomputable def fP (n : Nat) : PF := (ere_parser_group_all kBig n).2.2.1
noncomputable def fB (n : Nat) : PF := (ere_parser_group_all kBig n).2.2.2.1
noncomputable def fE (n : Nat) : PF := (ere_parser_group_all kBig n).2.2.2.2
theorem fE_s (n : Nat) (v) : fE (n + 1) v = ere_parser_expression_b (fG n) (fT n) (fP n) (fB n) (fE n) kBig v := by kernel_rfl
theorem fB_s (n : Nat) (v) : fB (n + 1) v = ere_parser_branch_b (fG n) (fT n) (fP n) (fB n) (fE n) kBig v := by kernel_rfl
theorem fP_s (n : Nat) (v) : fP (n + 1) v = ere_parser_piece_b (fG n) (fT n) (fP n) (fB n) (fE n) kBig v := by kernel_rfl
theorem fT_s (n : Nat) (v) : fT (n + 1) v = ere_parser_atom_b (fG n) (fT n) (fP n) (fB n) (fE n) kBig v := by kernel_rfl
theorem fG_s (n : Nat) (v) : fG (n + 1) v = ere_parser_group_b (fG n) (fT n) (fP n) (fB n) (fE n) kBig v := by kernel_rfl
theorem expr_e (v) : ere_parser_expression v = fE kBig v := by kernel_rfl
end Go.Proofs.YtlkaoiceehlkmaaTE
