/- EreSets, the plain law: which bytes a point, a byte, a stretch, a class take; no program in sight. -/
import Derived.Test.YtlkaoiceehlkmaaPureER
import Derived.Test.YtlkaoiceehlkmaaSetBits
import Derived.Test.YtlkaoiceehlkmaaEsLEreSets
namespace Go.Proofs.YtlkaoiceehlkmaaTE
open Go Go.Proofs.YtlkaoiceehlkmaaVE
set_option linter.unusedVariables false
set_option linter.unusedSectionVars false
set_option linter.unusedSimpArgs false
abbrev WT := Int × Int × Int × Int × Int × Unit × Int × Int × Unit
def SW (S : Nat → Bool) (w : WT) : Prop := w.1 = 2 ∧ IsSet w.2.1 w.2.2.1 w.2.2.2.1 w.2.2.2.2.1 S ∧ w.2.2.2.2.2.2.1 = 0 ∧ w.2.2.2.2.2.2.2.1 = 0
theorem SW.congr {S T : Nat → Bool} {w : WT} (h : SW S w) (he : ∀ c, c < 256 → S c = T c) : SW T w := ⟨h.1, h.2.1.congr he, h.2.2⟩
theorem SW.start : SW (fun _ => false) (2, 0, 0, 0, 0, (), 0, 0, ()) := ⟨rfl, .empty, rfl, rfl⟩
abbrev RecT := (Int × WT × Unit) → Option (Unit × PSt × Node × Unit)
section
variable {P : (Unit × PSt × Node × Unit) → Prop} {rec2 : RecT}
theorem l0_loop {name : List UInt8} {e : Int} {S : Nat → Bool} {w : WT} (cls : Nat → Bool) (hc : ∀ i : Nat, i < 256 → glob_Class (name, ((i : Nat) : Int), ()) = some (cls i, true, ())) (hw : SW S w)
    (hrec : ∀ w', SW (fun c => S c || cls c) w' → Tot P (rec2 (e, w', ()))) : Tot P (fixN (ere_parser_set_l0 rec2 (name, e, ())) kBig (0, w, ())) := by
  refine Tot.fix (I := fun d v => ∃ (i : Nat) (w : WT), v = (((i : Nat) : Int), w, ()) ∧ i ≤ 256 ∧ SW (fun c => S c || (decide (c < i) && cls c)) w ∧ d = 256 - i) ?_ 256 _ _ ⟨0, _, rfl, by omega, hw.congr fun c _ => by simp, rfl⟩ (kBig_gt (by omega))
  rintro d v rec ⟨i, w, rfl, h1, h2, rfl⟩ ih
  unfold ere_parser_set_l0
  refine Tot.ifB (fun hb => ?_) fun hb => hrec _ ?_
  · have hi : i < 256 := by have := of_decide_eq_true hb; dsimp only at this; omega
    dsimp only
    rw [u8_in (n := ((i : Nat) : Int)) (by omega) (by omega), hc i hi, oK_s]
    obtain ⟨e1, e2⟩ := d64 (m := ((i : Nat) : Int)) (by omega) (by omega)
    rw [show IntKind.wrap .i64 (((i : Nat) : Int) + 1) = ((i + 1 : Nat) : Int) from i64_succ (by omega)]
    refine Tot.ifB (fun hcl => ?_) fun hcl => ?_
    · have hcl : cls i = true := hcl
      rw [e1, bK_t, e2, bK_f, bK_t]
      refine ih (256 - (i + 1)) _ (by omega) ⟨i + 1, _, rfl, by omega, ⟨h2.1, (h2.2.1.add hi).congr fun c hc => ?_, h2.2.2⟩, rfl⟩
      by_cases hci : c = i
      · subst hci
        rw [d_t rfl, hcl, d_t (show c < c + 1 by omega)]
        simp
      · rw [d_f hci, show decide (c < i + 1) = decide (c < i) from decide_eq_decide.2 (by omega), Bool.or_false]
    · have hcl : cls i = false := hcl
      refine ih (256 - (i + 1)) _ (by omega) ⟨i + 1, _, rfl, by omega, ⟨h2.1, h2.2.1.congr fun c hc => ?_, h2.2.2⟩, rfl⟩
      by_cases hci : c = i
      · subst hci
        rw [hcl]
        simp
      · rw [show decide (c < i + 1) = decide (c < i) from decide_eq_decide.2 (by omega)]
  · have hi : i = 256 := by
      have := of_decide_eq_false hb
      dsimp only at this
      omega
    subst hi
    exact ⟨h2.1, h2.2.1.congr fun c hc => (by rw [d_t hc, Bool.true_and]), h2.2.2⟩
theorem l1_loop {x y : UInt8} {e : Int} {S : Nat → Bool} {w : WT} (hw : SW S w)
    (hrec : ∀ w', SW (fun c => S c || (decide (x.toNat ≤ c) && decide (c ≤ y.toNat))) w' → Tot P (rec2 (e, w', ()))) : Tot P (fixN (ere_parser_set_l1 rec2 (((y.toNat : Nat) : Int), e, ())) kBig (((x.toNat : Nat) : Int), w, ())) := by
  have hx := x.toNat_lt
  have hy := y.toNat_lt
  refine Tot.fix (I := fun d v => ∃ (i : Nat) (w : WT), v = (((i : Nat) : Int), w, ()) ∧ i ≤ 256 ∧ (x.toNat ≤ i ∧ (i = x.toNat ∨ i ≤ y.toNat + 1)) ∧ SW (fun c => S c || (decide (x.toNat ≤ c) && decide (c < i))) w ∧ d = 256 - i) ?_ (256 - x.toNat) _ _ ⟨x.toNat, _, rfl, by omega, ⟨by omega, .inl rfl⟩, hw.congr fun c _ => ?_, rfl⟩ (kBig_gt (by omega))
  · rintro d v rec ⟨i, w, rfl, h1, ⟨h4, h3⟩, h2, rfl⟩ ih
    unfold ere_parser_set_l1
    dsimp only
    rw [i64_nat (n := y.toNat) (by omega)]
    refine Tot.ifB (fun hb => ?_) fun hb => hrec _ ?_
    · have hi : i ≤ y.toNat := by rw [Bool.not_eq_true', decide_eq_false_iff_not] at hb; omega
      rw [u8_in (n := ((i : Nat) : Int)) (by omega) (by omega)]
      obtain ⟨e1, e2⟩ := d64 (m := ((i : Nat) : Int)) (by omega) (by omega)
      rw [show IntKind.wrap .i64 (((i : Nat) : Int) + 1) = ((i + 1 : Nat) : Int) from i64_succ (by omega)]
      rw [e1, bK_t, e2, bK_f, bK_t]
      refine ih (256 - (i + 1)) _ (by omega) ⟨i + 1, _, rfl, by omega, ⟨by omega, .inr (by omega)⟩, ⟨h2.1, (h2.2.1.add (by omega)).congr fun c hc => ?_, h2.2.2⟩, rfl⟩
      by_cases hci : c = i
      · subst hci
        rw [d_t rfl, d_t (show c < c + 1 by omega)]
        by_cases hcx : x.toNat ≤ c
        · rw [d_t hcx]; simp
        · omega
      · rw [d_f hci, show decide (c < i + 1) = decide (c < i) from decide_eq_decide.2 (by omega), Bool.or_false]
    · rw [Bool.not_eq_false', decide_eq_true_eq] at hb
      refine ⟨h2.1, h2.2.1.congr fun c hc => ?_, h2.2.2⟩
      by_cases hcx : x.toNat ≤ c
      · rw [d_t hcx, show decide (c < i) = decide (c ≤ y.toNat) from decide_eq_decide.2 (by omega)]
      · rw [d_f hcx, Bool.false_and, Bool.false_and]
  · by_cases hcx : x.toNat ≤ c
    · rw [d_f (show ¬ c < x.toNat by omega)]; simp
    · rw [d_f hcx]; simp
end
theorem named_no {s : List UInt8} {i : Nat} {x : UInt8} (hi : s[i]? = some x) (hx : x ≠ 91) (hl : s.length ≤ 200) : glob_Named (s, ((i : Nat) : Int), ()) = some ([], -1, ()) := by
  obtain ⟨h, rfl⟩ := List.getElem?_eq_some_iff.1 hi
  unfold glob_Named
  dsimp only
  rw [okSl_t (by omega) (by rw [len_e]; omega) (by omega), bK_t, slc_from]
  unfold strings_HasPrefix stringslite_HasPrefix
  dsimp only
  have e : ∀ b, (b = true → False) → oK (oK (bK (!(decide (len (s.drop i) < len ([91, 58] : List UInt8)))) (bK (okSl 0 (len ([91, 58] : List UInt8)) (len (s.drop i))) (some (b, ())) none) (some (false, ()))) fun r0 => some (r0.1, ())) (fun r0 => bK (!r0.1) (some (([] : List UInt8), (-1 : Int), ())) none) = some ([], -1, ()) := fun b hb => by
    cases hd : decide (len (s.drop i) < len ([91, 58] : List UInt8)) with
    | true => rfl
    | false =>
      have hd := of_decide_eq_false hd
      rw [okSl_t (by omega) (by rw [len_e]; omega) (by omega)]
      cases b
      · rfl
      · exact absurd rfl hb
  have hne : decide (slc (s.drop i) 0 (len ([91, 58] : List UInt8)) = [91, 58]) = false := d_f fun h => hx (by
    rw [show len ([91, 58] : List UInt8) = ((2 : Nat) : Int) from rfl, slc_z, List.drop_eq_getElem_cons (by omega), List.take_succ_cons] at h
    exact (List.cons.inj h).1)
  rw [hne]
  cases hd : decide (len (s.drop i) < len ([91, 58] : List UInt8)) with
  | true => rfl
  | false =>
    have hd := of_decide_eq_false hd
    rw [okSl_t (by omega) (by rw [len_e]; omega) (by omega)]
    rfl
section
variable {s : List UInt8} (hL : s.length ≤ 200) {a f : Nat} {neg : Bool} {P : (Unit × PSt × Node × Unit) → Prop} {S : Nat → Bool} {w : WT} {i k : Nat}
noncomputable abbrev R5 (s : List UInt8) (a f : Nat) (neg : Bool) (k : Nat) : RecT := fixN (ere_parser_set_l5 ((), (s, ((a : Nat) : Int), none, ()), ()) (neg, ()) (((f : Nat) : Int), ()) kBig) k
include hL in
theorem set_end (hi : s[i]? = some 93) (hf : f < i) (hw : SW S w)
    (hP : ∀ n : Node, n.kind = 2 → n.kids = [] → n.min = 0 → n.max = 0 → IsSet n.set0 n.set1 n.set2 n.set3 (fun c => if neg then !(S c || decide (c = 10)) else S c) → P ((), (s, ((i + 1 : Nat) : Int), none, ()), n, ())) : Tot P (R5 s a f neg (k + 1) (((i : Nat) : Int), w, ())) := by
  have hil : i < s.length := (List.getElem?_eq_some_iff.1 hi).1
  unfold R5
  rw [fix_s]
  generalize fixN (ere_parser_set_l5 ((), (s, ((a : Nat) : Int), none, ()), ()) (neg, ()) (((f : Nat) : Int), ()) kBig) k = rec
  unfold ere_parser_set_l5
  dsimp only
  rw [d_t (show ((i : Nat) : Int) < len s by rw [len_e]; omega), bK_t, idx_n, hi, oK_s, d_t (show ((((93 : UInt8).toNat : Nat) : Int) = 93) from rfl), bK_t, joinB_e, d_t (show ((f : Nat) : Int) < ((i : Nat) : Int) by omega)]
  unfold ere_parser_set_j4
  dsimp only
  rw [bK_t, show IntKind.wrap .i64 (((i : Nat) : Int) + 1) = ((i + 1 : Nat) : Int) from i64_succ (by omega)]
  obtain ⟨w1, w2, w3, w4⟩ := hw
  cases neg with
  | true =>
    rw [bK_t]
    have ho : ere_others ((w.2.1, w.2.2.1, w.2.2.2.1, w.2.2.2.2.1, ()), ()) = some ((xorW (orW w.2.1 1024), xorW w.2.2.1, xorW w.2.2.2.1, xorW w.2.2.2.2.1, ()), ()) := by kernel_rfl
    rw [ho, oK_s]
    exact Tot.ret (hP _ w1 rfl w3 w4 w2.others)
  | false =>
    rw [bK_f]
    exact Tot.ret (hP _ w1 rfl w3 w4 w2)
theorem set_class {name : List UInt8} {e : Nat} (hi : s[i]? = some 91) (hN : glob_Named (s, ((i : Nat) : Int), ()) = some (name, ((e : Nat) : Int), ())) (cls : Nat → Bool) (hc : ∀ i : Nat, i < 256 → glob_Class (name, ((i : Nat) : Int), ()) = some (cls i, true, ())) (hw : SW S w)
    (hP : ∀ w', SW (fun c => S c || cls c) w' → Tot P (R5 s a f neg k (((e : Nat) : Int), w', ()))) : Tot P (R5 s a f neg (k + 1) (((i : Nat) : Int), w, ())) := by
  have hil : i < s.length := (List.getElem?_eq_some_iff.1 hi).1
  unfold R5 at hP ⊢
  rw [fix_s]
  generalize fixN (ere_parser_set_l5 ((), (s, ((a : Nat) : Int), none, ()), ()) (neg, ()) (((f : Nat) : Int), ()) kBig) k = rec at hP
  unfold ere_parser_set_l5
  dsimp only
  rw [d_t (show ((i : Nat) : Int) < len s by rw [len_e]; omega), bK_t, idx_n, hi, oK_s, d_f (show ¬ ((((91 : UInt8).toNat : Nat) : Int) = 93) by decide), bK_f, joinB_e]
  unfold ere_parser_set_j4
  dsimp only
  rw [bK_f, hN, oK_s]
  dsimp only
  rw [d_f (show ¬ ((e : Nat) : Int) < 0 by omega), Bool.not_false, bK_t]
  exact l0_loop cls hc hw hP
include hL in
theorem set_item {x y : UInt8} {j : Nat} (hi : s[i]? = some x) (hx : x ≠ 93) (hx1 : x ≠ 91)
    (hr : (s.length ≤ i + 2 ∧ y = x ∧ j = i + 1) ∨ (s[i + 1]? = some 45 ∧ s[i + 2]? = some y ∧ y ≠ 93 ∧ y ≠ 91 ∧ j = i + 3)) (hw : SW S w)
    (hP : ∀ w', SW (fun c => S c || (decide (x.toNat ≤ c) && decide (c ≤ y.toNat))) w' → Tot P (R5 s a f neg k (((j : Nat) : Int), w', ()))) : Tot P (R5 s a f neg (k + 1) (((i : Nat) : Int), w, ())) := by
  have hil : i < s.length := (List.getElem?_eq_some_iff.1 hi).1
  have hxl := x.toNat_lt
  unfold R5 at hP ⊢
  rw [fix_s]
  generalize fixN (ere_parser_set_l5 ((), (s, ((a : Nat) : Int), none, ()), ()) (neg, ()) (((f : Nat) : Int), ()) kBig) k = rec at hP
  unfold ere_parser_set_l5
  dsimp only
  have n93 : ∀ z : UInt8, z ≠ 93 → ¬ (((z.toNat : Nat) : Int) = 93) := fun z hz h => hz (UInt8.toNat_inj.1 (by show z.toNat = 93; omega))
  rw [d_t (show ((i : Nat) : Int) < len s by rw [len_e]; omega), bK_t, idx_n, hi, oK_s, d_f (n93 x hx), bK_f, joinB_e]
  unfold ere_parser_set_j4
  dsimp only
  rw [bK_f, named_no hi hx1 hL, oK_s]
  dsimp only
  rw [d_t (show (-1 : Int) < 0 by decide), Bool.not_true, bK_f, idx_n, hi, oK_s, oK_s]
  have e1 : IntKind.wrap .i64 (((i : Nat) : Int) + 1) = ((i + 1 : Nat) : Int) := i64_succ (by omega)
  have e2 : IntKind.wrap .i64 (((i + 1 : Nat) : Int) + 1) = ((i + 2 : Nat) : Int) := i64_succ (by omega)
  have e3 : IntKind.wrap .i64 (((i + 1 : Nat) : Int) + 2) = ((i + 3 : Nat) : Int) := by rw [i64_in (by omega) (by omega)]; omega
  rw [e1, e2]
  have hj2 : Tot P (ere_parser_set_j2 rec (((i : Nat) : Int), w, ()) x kBig (((y.toNat : Nat) : Int), ((j : Nat) : Int), ())) := by
    unfold ere_parser_set_j2
    rw [i64_nat (n := x.toNat) (by omega)]
    exact l1_loop hw hP
  rcases hr with ⟨h2, rfl, rfl⟩ | ⟨h45, hy, hy1, hy2, rfl⟩
  · rw [d_f (show ¬ ((i + 2 : Nat) : Int) < len s by rw [len_e]; omega), bK_f, joinB_e]
    unfold ere_parser_set_j3
    dsimp only
    rw [bK_f, joinB_e, e1]
    exact hj2
  · have hil2 : i + 2 < s.length := (List.getElem?_eq_some_iff.1 hy).1
    rw [d_t (show ((i + 2 : Nat) : Int) < len s by rw [len_e]; omega), bK_t, idx_n, h45, oK_s, d_t (show (((45 : UInt8).toNat : Nat) : Int) = 45 from rfl), bK_t, idx_n, hy, oK_s, d_f (n93 y hy1), Bool.not_false, joinB_e]
    unfold ere_parser_set_j3
    dsimp only
    rw [bK_t, e1, e2, e3, named_no hy hy2 hL, oK_s]
    dsimp only
    rw [d_t (show (-1 : Int) < 0 by decide), bK_t, idx_n, hy, oK_s, joinB_e]
    exact hj2
end
/-- What is read of a text that is one set. -/
def GP (s : List UInt8) (S : Nat → Bool) (r : Unit × PSt × Node × Unit) : Prop :=
  r.2.1 = (s, ((s.length : Nat) : Int), none, ()) ∧ r.2.2.1.kind = 2 ∧ r.2.2.1.kids = [] ∧ r.2.2.1.min = 0 ∧ r.2.2.1.max = 0 ∧ IsSet r.2.2.1.set0 r.2.2.1.set1 r.2.2.1.set2 r.2.2.1.set3 S
section
variable {s : List UInt8} (hL : s.length ≤ 200) {S : Nat → Bool}
include hL in
theorem one_atom {nd : Node} {c0 : UInt8} (h0 : s[0]? = some c0) (hc : ([124, 41] : List UInt8).contains c0 = false)
    (hT : ∀ n, fT (n + 1) ((), (s, 0, none, ()), 0, ()) = some ((), (s, ((s.length : Nat) : Int), none, ()), nd, ())) (hk : nd.kind = 2) (hkk : nd.kids = []) (hmi : nd.min = 0) (hma : nd.max = 0) : ere_Parse (s, ()) = some (nd, -1, 0, ()) := by
  have hpos : 0 < s.length := (List.getElem?_eq_some_iff.1 h0).1
  have isE : ∀ sg, ere_parser_is ((), (s, ((s.length : Nat) : Int), none, ()), sg, ()) = some ((), (s, ((s.length : Nat) : Int), none, ()), false, ()) := fun sg => is_end (Nat.le_refl _) sg
  have hP : ∀ n, fP (n + 2) ((), (s, 0, none, ()), 0, ()) = some ((), (s, ((s.length : Nat) : Int), none, ()), nd, ()) := fun n => by
    rw [fP_s]
    unfold ere_parser_piece_b
    dsimp only
    rw [hT, oK_s, show kBig = (kBig - 1) + 1 from rfl, fix_s]
    unfold ere_parser_piece_l1
    dsimp only
    rw [isE, oK_s]
    dsimp only
    rw [bK_f, nd_eta]
  have hof : ∀ k, ere_of (k, [nd], ()) = some (nd, ()) := fun k => by
    unfold ere_of
    dsimp only
    rw [d_f (show ¬ len ([nd] : List Node) = 0 by rw [len_e]; simp), d_t (show len ([nd] : List Node) = 1 by rw [len_e]; rfl), bK_f, bK_t, idx_z, List.getElem?_cons_zero, oK_s, nd_eta]
  have hB : ∀ n, fB (n + 3) ((), (s, 0, none, ()), 0, ()) = some ((), (s, ((s.length : Nat) : Int), none, ()), nd, ()) := fun n => by
    rw [fB_s]
    unfold ere_parser_branch_b
    dsimp only
    rw [show kBig = (kBig - 2) + 1 + 1 from rfl, fix_s]
    have h2 : fixN (ere_parser_branch_l1 (fP (n + 2)) ((), (s, 0, none, ()), 0, ())) (kBig - 2 + 1) ([nd], (s, ((s.length : Nat) : Int), none, ()), ()) = some ((), (s, ((s.length : Nat) : Int), none, ()), nd, ()) := by
      rw [fix_s]
      unfold ere_parser_branch_l1
      dsimp only
      rw [d_f (show ¬ ((s.length : Nat) : Int) < len s by rw [len_e]; omega), bK_f, joinB_e]
      unfold ere_parser_branch_j0
      dsimp only
      rw [hof, oK_s, nd_eta]
      rfl
    generalize fixN (ere_parser_branch_l1 (fP (n + 2)) ((), (s, 0, none, ()), 0, ())) (kBig - 2 + 1) = rec at h2
    unfold ere_parser_branch_l1
    dsimp only
    have hi := is_at (s := s) (i := 0) h0 [124, 41]
    rw [show (((0 : Nat) : Int)) = 0 from rfl, hc] at hi
    rw [d_t (show (0 : Int) < len s by rw [len_e]; omega), bK_t, hi, oK_s]
    dsimp only
    rw [Bool.not_false, bK_t, hP, oK_s, show fits 80 (([] : List Node).length + 1) = true from by decide, bK_t]
    dsimp only
    rw [nd_eta, List.nil_append]
    exact h2
  have hE : ere_parser_expression ((), (s, 0, none, ()), 0, ()) = some ((), (s, ((s.length : Nat) : Int), none, ()), nd, ()) := by
    rw [expr_e, show kBig = (kBig - 4) + 4 from rfl, fE_s]
    unfold ere_parser_expression_b
    dsimp only
    rw [hB, oK_s, show kBig = (kBig - 1) + 1 from rfl, fix_s]
    unfold ere_parser_expression_l0
    dsimp only
    rw [isE, oK_s]
    dsimp only
    rw [bK_f, nd_eta, hof, oK_s, nd_eta]
  have hf : ere_form (nd, ()) = some (true, ()) := by
    cases nd
    dsimp only at hk hkk hmi hma
    subst hk; subst hkk; subst hmi; subst hma
    rfl
  have hR : ere_Right (nd, ()) = some (true, ()) := by
    unfold ere_Right
    dsimp only
    rw [nd_eta]
    have h1 : ere_right (nd, 200, ()) = some (true, ()) := by
      show ere_right_b (ere_right_all kBig (kBig - 1)) kBig _ = _
      generalize ere_right_all kBig (kBig - 1) = g
      unfold ere_right_b
      dsimp only
      rw [nd_eta, hf, oK_s]
      dsimp only
      rw [Bool.not_true, bK_f, d_f (show ¬ 0 < len nd.kids by rw [hkk]; decide), bK_f, joinB_e]
      unfold ere_right_j1
      rw [show kBig = (kBig - 1) + 1 from rfl, fix_s]
      unfold ere_right_l0
      dsimp only
      rw [d_f (show ¬ 0 < len nd.kids by rw [hkk]; decide), bK_f]
    have h2 : ere_Size (nd, ()) = some (1, ()) := by
      show ere_Size_b (ere_Size_all kBig (kBig - 1)) kBig _ = _
      generalize ere_Size_all kBig (kBig - 1) = g
      unfold ere_Size_b
      rw [show kBig = (kBig - 1) + 1 from rfl, fix_s]
      unfold ere_Size_l1
      dsimp only
      rw [d_f (show ¬ 0 < len nd.kids by rw [hkk]; decide), bK_f]
    rw [h1, oK_s]
    dsimp only
    rw [bK_t, h2, oK_s]
    rfl
  unfold ere_Parse
  dsimp only
  rw [d_f (show ¬ 1000 < len s by rw [len_e]; omega), bK_f, hE, oK_s]
  dsimp only
  rw [show ((none : Option EreWrong).isNone == true) = true from rfl, bK_t, joinB_e, d_f (show ¬ ((s.length : Nat) : Int) < len s by rw [len_e]; omega)]
  unfold ere_Parse_j1
  dsimp only
  rw [bK_f, joinB_e]
  unfold ere_Parse_j0
  dsimp only
  rw [show (!((none : Option EreWrong).isNone == true)) = false from rfl, bK_f, nd_eta, hR, oK_s]
  rfl
include hL in
/-- A text that is one set is read as this set. -/
theorem set_told {c0 : UInt8} (h0 : s[0]? = some c0) (hc : ([124, 41] : List UInt8).contains c0 = false)
    (hT : ∃ r, GP s S r ∧ ∀ n, fT (n + 1) ((), (s, 0, none, ()), 0, ()) = some r) : ∃ nd : Node, ere_Parse (s, ()) = some (nd, -1, 0, ()) ∧ nd.kind = 2 ∧ ∀ c : Nat, c < 256 → ere_Has (nd, ((c : Nat) : Int), ()) = some (S c, ()) := by
  obtain ⟨⟨u, p, nd, u'⟩, ⟨hp, h1, h2, h3, h4, h5⟩, hT⟩ := hT
  dsimp only at hp h1 h2 h3 h4 h5
  subst hp
  refine ⟨nd, one_atom hL h0 hc hT h1 h2 h3 h4, h1, fun c hc => ?_⟩
  obtain ⟨e1, e2⟩ := d64 (m := ((c : Nat) : Int)) (by omega) (by omega)
  unfold ere_Has
  dsimp only
  rw [d_t h1, bK_t, e1, bK_t, e2, bK_f, h5.has hc]
theorem atom_set (h0 : s[0]? = some 91) (h : Tot (GP s S) (ere_parser_set ((), (s, 0, none, ()), ()))) : ∃ r, GP s S r ∧ ∀ n, fT (n + 1) ((), (s, 0, none, ()), 0, ()) = some r := by
  obtain ⟨r, h1, h2⟩ := h
  refine ⟨r, h2, fun n => ?_⟩
  rw [fT_s]
  unfold ere_parser_atom_b
  dsimp only
  have hi : ∀ sg, ere_parser_is ((), (s, 0, none, ()), sg, ()) = some ((), (s, 0, none, ()), sg.contains 91, ()) := fun sg => is_at (s := s) (i := 0) h0 sg
  rw [idx_z, h0, oK_s, hi, oK_s]
  dsimp only
  rw [show ([42, 43, 63, 123] : List UInt8).contains 91 = false from rfl, bK_f, hi, oK_s]
  dsimp only
  rw [show ([91] : List UInt8).contains 91 = true from rfl, bK_t, h1, oK_s, nd_eta]
include hL in
theorem set_start {P : (Unit × PSt × Node × Unit) → Prop} {x : UInt8} (neg : Bool) (f : Nat) (hx : s[1]? = some x) (hn : decide (((x.toNat : Nat) : Int) = 94) = neg) (hf : f = if neg then 2 else 1)
    (h : Tot P (R5 s 0 f neg kBig (((f : Nat) : Int), (2, 0, 0, 0, 0, (), 0, 0, ()), ()))) : Tot P (ere_parser_set ((), (s, 0, none, ()), ())) := by
  have hl : 1 < s.length := (List.getElem?_eq_some_iff.1 hx).1
  unfold ere_parser_set ere_parser_set_k
  dsimp only
  have e1 : IntKind.wrap .i64 ((0 : Int) + 1) = ((1 : Nat) : Int) := by decide
  have e2 : IntKind.wrap .i64 (((1 : Nat) : Int) + 1) = ((2 : Nat) : Int) := by decide
  rw [e1, d_t (show ((1 : Nat) : Int) < len s by rw [len_e]; omega), bK_t, idx_n, hx, oK_s, joinB_e, hn]
  unfold ere_parser_set_j7
  dsimp only
  rw [e1, e2]
  cases neg with
  | true =>
    have hf : f = 2 := hf
    subst hf
    rw [bK_t, joinB_e]
    exact h
  | false =>
    have hf : f = 1 := hf
    subst hf
    rw [bK_f, joinB_e]
    exact h
end
end Go.Proofs.YtlkaoiceehlkmaaTE
