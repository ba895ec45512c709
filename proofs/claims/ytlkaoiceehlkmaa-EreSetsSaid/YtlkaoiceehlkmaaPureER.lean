/- EreRight, the plain law: the reader of expressions comes to an end, and what is wrong is told within the text; no program in sight. -/
import Derived.Test.YtlkaoiceehlkmaaEsP
import Derived.Test.YtlkaoiceehlkmaaEsLEreRight
import Derived.Test.YtlkaoiceehlkmaaTeZ1
import Derived.Lib.IndexMore
namespace Go.Proofs.YtlkaoiceehlkmaaTE
open Go Go.Proofs.YtlkaoiceehlkmaaVE
set_option linter.unusedVariables false
set_option linter.unusedSectionVars false
set_option linter.unusedSimpArgs false
inductive Small : Node → Prop
  | mk (n : Node) (h : n.kids.length ≤ 1000) (hk : ∀ x, x ∈ n.kids → Small x) : Small n
theorem Small.leaf {n : Node} (h : n.kids = []) : Small n := ⟨n, by rw [h]; simp, fun x hx => by rw [h] at hx; cases hx⟩
inductive PWf (s : List UInt8) (lo b : Nat) : PSt → Prop
  | ok (q : Nat) : lo ≤ q → q ≤ s.length → PWf s lo b (s, ((q : Nat) : Int), none, ())
  | no (q : Nat) (z e : Int) : q ≤ s.length + b → 0 ≤ z → z ≤ len s → e ≠ 0 → PWf s lo b (s, ((q : Nat) : Int), some ⟨z, e⟩, ())
def RR (s : List UInt8) (lo b : Nat) (r : Unit × PSt × Node × Unit) : Prop := PWf s lo b r.2.1 ∧ Small r.2.2.1
theorem PWf.mono {s : List UInt8} {lo lo' b b' : Nat} {p : PSt} (h : PWf s lo b p) (h1 : lo' ≤ lo) (h2 : b ≤ b') : PWf s lo' b' p := by
  cases h with
  | ok q h3 h4 => exact .ok q (by omega) h4
  | no q z e h3 h4 h5 h6 => exact .no q z e (by omega) h4 h5 h6
section
variable {s : List UInt8} (hL : s.length ≤ 200)
theorem is_tot {lo b : Nat} {p : PSt} (h : PWf s lo b p) (signs : List UInt8) : Tot (fun r => r.2.1 = p ∧ (r.2.2.1 = true → ∃ a : Nat, p = (s, ((a : Nat) : Int), none, ()) ∧ a < s.length ∧ lo ≤ a)) (ere_parser_is ((), p, signs, ())) := by
  cases h with
  | ok q h1 h2 =>
    by_cases hq : q < s.length
    · exact ⟨_, is_at (List.getElem?_eq_getElem hq) signs, rfl, fun _ => ⟨q, rfl, hq, h1⟩⟩
    · exact ⟨_, is_end (by omega) signs, rfl, fun h => by cases h⟩
  | no q z e h1 h2 h3 h4 => exact ⟨_, is_bad _ _ signs, rfl, fun h => by cases h⟩
include hL in
theorem number_tot (p1 : Int) (p2 : Option EreWrong) {a : Nat} (h : a ≤ s.length) : Tot (fun r => r.2.1 = (s, p1, p2, ()) ∧ ∃ e : Nat, r.2.2.2.1 = ((e : Nat) : Int) ∧ a ≤ e ∧ e ≤ s.length) (ere_parser_number ((), (s, p1, p2, ()), ((a : Nat) : Int), ())) := by
  unfold ere_parser_number ere_parser_number_k
  refine Tot.fix (I := fun d v => ∃ (n : Int) (e : Nat), v = (n, ((e : Nat) : Int), ()) ∧ a ≤ e ∧ e ≤ s.length ∧ d = s.length - e) ?_ (s.length - a) _ _ ⟨0, a, rfl, by omega, h, rfl⟩ (kBig_gt (by omega))
  rintro d v rec ⟨n, e, rfl, h1, h2, rfl⟩ ih
  have hj : Tot (fun r : Unit × PSt × Int × Int × Bool × Unit => r.2.1 = (s, p1, p2, ()) ∧ ∃ e : Nat, r.2.2.2.1 = ((e : Nat) : Int) ∧ a ≤ e ∧ e ≤ s.length) (ere_parser_number_j0 ((), (s, p1, p2, ()), ((a : Nat) : Int), ()) (n, ((e : Nat) : Int), ())) := by
    unfold ere_parser_number_j0
    exact Tot.ifB' (Tot.ifB' (Tot.ret ⟨rfl, e, rfl, h1, h2⟩) (Tot.ret ⟨rfl, e, rfl, h1, h2⟩)) (Tot.ret ⟨rfl, e, rfl, h1, h2⟩)
  unfold ere_parser_number_l1
  refine Tot.ifB (fun hb => ?_) fun _ => hj
  have he : e < s.length := by
    have := of_decide_eq_true hb
    rw [len_e] at this
    dsimp only at this
    omega
  refine Tot.thn (Tot.el he) fun b3 _ => Tot.ifB' (Tot.thn (Tot.el he) fun b4 _ => Tot.ifB' (Tot.ifB' (Tot.thn (Tot.el he) fun b5 _ => ?_) hj) hj) hj
  exact ih (s.length - (e + 1)) _ (by omega) ⟨_, e + 1, by rw [show IntKind.wrap .i64 (((e : Nat) : Int) + 1) = ((e + 1 : Nat) : Int) from i64_succ (by omega)], by omega, by omega, rfl⟩
theorem pre_tot (t p : List UInt8) : Tot (fun r => r.1 = true → p.length ≤ t.length) (strings_HasPrefix (t, p, ())) := by
  unfold strings_HasPrefix stringslite_HasPrefix
  dsimp only
  refine Tot.thn (Q := fun r : Bool × Unit => r.1 = true → p.length ≤ t.length) ?_ fun r h => Tot.ret h
  refine Tot.ifB (fun h => ?_) fun _ => Tot.ret fun h => by cases h
  have h : p.length ≤ t.length := by
    rw [Bool.not_eq_true', decide_eq_false_iff_not, len_e, len_e] at h
    omega
  rw [okSl_t (by omega) (by rw [len_e]; omega) (by rw [len_e, len_e]; omega)]
  exact Tot.ret fun _ => h
include hL in
theorem times_tot {a : Nat} (h : a < s.length) : Tot (fun r => PWf s a 0 r.2.1 ∧ ∀ q : Nat, r.2.1.2.1 = ((q : Nat) : Int) → a ≤ q ∧ q < s.length) (ere_parser_times ((), (s, ((a : Nat) : Int), none, ()), ())) := by
  unfold ere_parser_times
  dsimp only
  rw [show IntKind.wrap .i64 (((a : Nat) : Int) + 1) = ((a + 1 : Nat) : Int) from i64_succ (by omega)]
  have hj0 : ∀ (r0 : Unit × PSt × Int × Int × Bool × Unit) (e : Nat) (hi : Int) (ok bad : Bool), (bad = false → a ≤ e ∧ e < s.length) → Tot (fun r : Unit × PSt × Int × Int × Unit => PWf s a 0 r.2.1 ∧ ∀ q : Nat, r.2.1.2.1 = ((q : Nat) : Int) → a ≤ q ∧ q < s.length) (ere_parser_times_j0 r0 (((e : Nat) : Int), hi, ok, (s, ((a : Nat) : Int), none, ()), ()) (bad, ())) := fun r0 e hi ok bad hb => by
    unfold ere_parser_times_j0
    dsimp only
    refine Tot.ifB (fun _ => ?_) fun h => ?_
    · rw [fail_ok, oK_s]
      exact Tot.ret ⟨.no a a 2 (by omega) (by omega) (by rw [len_e]; omega) (by decide), fun q hq => by dsimp only at hq; omega⟩
    · exact Tot.ret ⟨.ok e (hb h).1 (by have := (hb h).2; omega), fun q hq => by dsimp only at hq; have := hb h; omega⟩
  have hj1 : ∀ (r0 : Unit × PSt × Int × Int × Bool × Unit) (e : Nat) (hi : Int) (ok : Bool), a ≤ e → e ≤ s.length → Tot (fun r : Unit × PSt × Int × Int × Unit => PWf s a 0 r.2.1 ∧ ∀ q : Nat, r.2.1.2.1 = ((q : Nat) : Int) → a ≤ q ∧ q < s.length) (ere_parser_times_j1 r0 (((e : Nat) : Int), hi, ok, (s, ((a : Nat) : Int), none, ()), ())) := fun r0 e hi ok h1 h2 => by
    unfold ere_parser_times_j1
    dsimp only
    refine Tot.ifB' (hj0 r0 e hi ok true fun h => by cases h) ?_
    rw [okSl_t (by omega) (by rw [len_e]; omega) (by omega), bK_t, slc_from]
    refine Tot.thn (pre_tot _ _) fun r hr => hj0 r0 e hi ok _ fun hn => ⟨h1, ?_⟩
    have := hr (by simpa using hn)
    rw [List.length_drop] at this
    simp only [List.length_cons, List.length_nil] at this
    omega
  refine Tot.thn (number_tot hL _ _ (by omega)) ?_
  rintro ⟨u0, p, n, e_, ok, u1⟩ ⟨hp, e, he, h1, h2⟩
  dsimp only at hp he ⊢
  subst hp; subst he
  have hj2 : ∀ (c : Bool), (c = true → e < s.length) → Tot (fun r : Unit × PSt × Int × Int × Unit => PWf s a 0 r.2.1 ∧ ∀ q : Nat, r.2.1.2.1 = ((q : Nat) : Int) → a ≤ q ∧ q < s.length) (ere_parser_times_j2 (u0, (s, ((a : Nat) : Int), none, ()), n, ((e : Nat) : Int), ok, u1) (c, ())) := fun c hc => by
    unfold ere_parser_times_j2
    dsimp only
    refine Tot.ifB (fun h => ?_) fun _ => hj1 _ e _ _ (by omega) h2
    have he := hc h
    rw [show IntKind.wrap .i64 (((e : Nat) : Int) + 1) = ((e + 1 : Nat) : Int) from i64_succ (by omega)]
    rw [okSl_t (by omega) (by rw [len_e]; omega) (by omega), bK_t]
    refine Tot.thn (pre_tot _ _) fun r _ => Tot.ifB' (hj1 _ (e + 1) _ _ (by omega) (by omega)) ?_
    refine Tot.thn (number_tot hL _ _ (by omega)) ?_
    rintro ⟨v0, p, m, f_, ok2, v1⟩ ⟨hp, f, hf, h3, h4⟩
    dsimp only at hp hf ⊢
    subst hp; subst hf
    exact Tot.ifB' (hj1 _ f _ _ (by omega) h4) (hj1 _ f _ _ (by omega) h4)
  refine Tot.ifB' ?_ (hj2 false fun h => by cases h)
  dsimp only
  rw [okSl_t (by omega) (by rw [len_e]; omega) (by omega), bK_t, slc_from]
  refine Tot.thn (pre_tot _ _) fun r hr => hj2 _ fun h => ?_
  have := hr h
  rw [List.length_drop] at this
  simp only [List.length_cons, List.length_nil] at this
  omega
theorem class_tot (v) : Tot (fun _ => True) (glob_Class v) := by
  have hj : ∀ v v0, Tot (fun _ => True) (glob_Class_j0 v v0) := fun v v0 => by
    unfold glob_Class_j0
    repeat' first | exact Tot.ret trivial | refine Tot.ifB' ?_ ?_
  unfold glob_Class
  repeat' first | exact hj _ _ | refine Tot.ifB' ?_ ?_
include hL in
theorem named_tot {a : Nat} (h : a ≤ s.length) : Tot (fun r => 0 ≤ r.2.1 → ∃ e : Nat, r.2.1 = ((e : Nat) : Int) ∧ a < e ∧ e ≤ s.length) (glob_Named (s, ((a : Nat) : Int), ())) := by
  unfold glob_Named
  dsimp only
  rw [okSl_t (by omega) (by rw [len_e]; omega) (by omega), bK_t, slc_from]
  refine Tot.thn (pre_tot _ _) fun r hr => Tot.ifB (fun _ => Tot.ret fun h => by dsimp only at h; omega) fun hn => ?_
  have h2 := hr (by simpa using hn)
  rw [List.length_drop] at h2
  simp only [List.length_cons, List.length_nil] at h2
  rw [show IntKind.wrap .i64 (((a : Nat) : Int) + 2) = ((a + 2 : Nat) : Int) from by rw [i64_in (by omega) (by omega)]; omega]
  rw [okSl_t (by omega) (by rw [len_e]; omega) (by omega), bK_t, slc_from]
  have hcut : ∀ t : List UInt8, t.length ≤ 200 → Tot (fun r : List UInt8 × List UInt8 × Bool × Unit => r.2.2.1 = true → r.1.length + 2 ≤ t.length) (strings_Cut (t, [58, 93], ())) := fun t ht => by
    unfold strings_Cut stringslite_Cut tIndexL
    dsimp only
    rw [d_t (show t.length < 4294967281 by omega)]
    dsimp only
    rw [oK_s]
    refine Tot.thn (Q := fun r : List UInt8 × List UInt8 × Bool × Unit => r.2.2.1 = true → r.1.length + 2 ≤ t.length) ?_ fun r h => Tot.ret h
    refine Tot.ifB (fun h => ?_) fun _ => Tot.ret fun h => by cases h
    dsimp only at h
    rw [Bool.not_eq_true', decide_eq_false_iff_not] at h
    have hr := Lib.index_room t [58, 93] (by omega)
    simp only [List.length_cons, List.length_nil] at hr
    obtain ⟨i, hi⟩ : ∃ i : Nat, Lib.index t [58, 93] = ((i : Nat) : Int) := ⟨(Lib.index t [58, 93]).toNat, by omega⟩
    rw [hi] at hr ⊢
    dsimp only
    rw [okSl_t (by omega) (by omega) (by rw [len_e]; omega), bK_t]
    rw [show IntKind.wrap .i64 (((i : Nat) : Int) + len ([58, 93] : List UInt8)) = ((i + 2 : Nat) : Int) from by
      rw [show len ([58, 93] : List UInt8) = 2 from rfl, i64_in (by omega) (by omega)]; omega]
    rw [okSl_t (by omega) (by rw [len_e]; omega) (by omega), bK_t]
    refine Tot.ret fun _ => ?_
    dsimp only
    rw [slc_z, List.length_take]
    omega
  refine Tot.thn (hcut _ (by rw [List.length_drop]; omega)) fun r1 h1 => Tot.thn (class_tot _) fun r2 _ => ?_
  have hj : ∀ b : Bool, (b = false → r1.1.length + 2 ≤ (s.drop (a + 2)).length) → Tot (fun r : List UInt8 × Int × Unit => 0 ≤ r.2.1 → ∃ e : Nat, r.2.1 = ((e : Nat) : Int) ∧ a < e ∧ e ≤ s.length) (glob_Named_j0 (s, ((a : Nat) : Int), ()) r1 (b, ())) := fun b hb => by
    unfold glob_Named_j0
    refine Tot.ifB (fun _ => Tot.ret fun h => by dsimp only at h; omega) fun hn => Tot.ret fun _ => ?_
    have := hb hn
    rw [List.length_drop] at this
    dsimp only
    rw [len_e, i64_in (n := ((a : Nat) : Int) + ((r1.1.length : Nat) : Int)) (by omega) (by omega), i64_in (by omega) (by omega)]
    exact ⟨a + r1.1.length + 4, by omega, by omega, by omega⟩
  refine Tot.ifB (fun _ => hj true fun h => by cases h) fun hn => hj _ fun _ => h1 (by simpa using hn)
theorem others_tot (v) : Tot (fun _ => True) (ere_others v) := by
  unfold ere_others ere_others_k
  refine Tot.fix (I := fun d v => ∃ (i : Nat) (w : Int × Int × Int × Int × Unit), v = (((i : Nat) : Int), w, ()) ∧ i ≤ 4 ∧ d = 4 - i) ?_ 4 _ _ ⟨0, _, rfl, by omega, rfl⟩ (kBig_gt (by omega))
  rintro d v rec ⟨i, w, rfl, h1, rfl⟩ ih
  unfold ere_others_l0
  refine Tot.ifB (fun hb => ?_) fun _ => Tot.ret trivial
  have hi : i < 4 := by have := of_decide_eq_true hb; dsimp only at this; omega
  dsimp only
  rw [show inR ((i : Nat) : Int) 4 = true by simp only [inR, Bool.and_eq_true, decide_eq_true_eq]; omega, bK_t, bK_t]
  exact ih (4 - (i + 1)) _ (by omega) ⟨i + 1, _, by rw [show IntKind.wrap .i64 (((i : Nat) : Int) + 1) = ((i + 1 : Nat) : Int) from i64_succ (by omega)], by omega, rfl⟩
/-- The node that a set is made of. -/
def NS (w : Int × Int × Int × Int × Int × Unit × Int × Int × Unit) : Prop := True
include hL in
theorem set_tot {a : Nat} (h : a < s.length) : Tot (RR s (a + 1) 0) (ere_parser_set ((), (s, ((a : Nat) : Int), none, ()), ())) := by
  have hl : ∀ (P : (Unit × PSt × Node × Unit) → Prop) (rec2 : (Int × (Int × Int × Int × Int × Int × Unit × Int × Int × Unit) × Unit) → Option (Unit × PSt × Node × Unit)) (r6 : List UInt8 × Int × Unit) (w), (∀ w, Tot P (rec2 (r6.2.1, w, ()))) → Tot P (fixN (ere_parser_set_l0 rec2 r6) kBig (0, w, ())) := fun P rec2 r6 w hrec => by
    refine Tot.fix (I := fun d v => ∃ (i : Nat) (w : Int × Int × Int × Int × Int × Unit × Int × Int × Unit), v = (((i : Nat) : Int), w, ()) ∧ i ≤ 256 ∧ d = 256 - i) ?_ 256 _ _ ⟨0, _, rfl, by omega, rfl⟩ (kBig_gt (by omega))
    rintro d v rec ⟨i, w, rfl, h1, rfl⟩ ih
    unfold ere_parser_set_l0
    refine Tot.ifB (fun hb => ?_) fun _ => hrec _
    have hi : i < 256 := by have := of_decide_eq_true hb; dsimp only at this; omega
    dsimp only
    have hu := u8_rng ((i : Nat) : Int)
    obtain ⟨e1, e2⟩ := d64 hu.1 hu.2
    rw [show IntKind.wrap .i64 (((i : Nat) : Int) + 1) = ((i + 1 : Nat) : Int) from i64_succ (by omega)]
    refine Tot.thn (class_tot _) fun r9 _ => Tot.ifB' ?_ ?_
    · rw [e1, bK_t, e2, bK_f, bK_t]
      exact ih (256 - (i + 1)) _ (by omega) ⟨i + 1, _, rfl, by omega, rfl⟩
    · exact ih (256 - (i + 1)) _ (by omega) ⟨i + 1, _, rfl, by omega, rfl⟩
  have hl1 : ∀ (P : (Unit × PSt × Node × Unit) → Prop) (rec2 : (Int × (Int × Int × Int × Int × Int × Unit × Int × Int × Unit) × Unit) → Option (Unit × PSt × Node × Unit)) (hi : UInt8) (e : Int) (lo : UInt8) (w), (∀ w, Tot P (rec2 (e, w, ()))) → Tot P (fixN (ere_parser_set_l1 rec2 (((hi.toNat : Nat) : Int), e, ())) kBig (((lo.toNat : Nat) : Int), w, ())) := fun P rec2 hi e lo w hrec => by
    have hlo := lo.toNat_lt
    have hhi := hi.toNat_lt
    refine Tot.fix (I := fun d v => ∃ (i : Nat) (w : Int × Int × Int × Int × Int × Unit × Int × Int × Unit), v = (((i : Nat) : Int), w, ()) ∧ i ≤ 256 ∧ d = 256 - i) ?_ (256 - lo.toNat) _ _ ⟨lo.toNat, _, rfl, by omega, rfl⟩ (kBig_gt (by omega))
    rintro d v rec ⟨i, w, rfl, h1, rfl⟩ ih
    unfold ere_parser_set_l1
    dsimp only
    rw [i64_nat (n := hi.toNat) (by omega)]
    refine Tot.ifB (fun hb => ?_) fun _ => hrec _
    have hi : i < 256 := by rw [Bool.not_eq_true', decide_eq_false_iff_not] at hb; omega
    have hu := u8_rng ((i : Nat) : Int)
    obtain ⟨e1, e2⟩ := d64 hu.1 hu.2
    rw [show IntKind.wrap .i64 (((i : Nat) : Int) + 1) = ((i + 1 : Nat) : Int) from i64_succ (by omega)]
    rw [e1, bK_t, e2, bK_f, bK_t]
    exact ih (256 - (i + 1)) _ (by omega) ⟨i + 1, _, rfl, by omega, rfl⟩
  have hl5 : ∀ (v0 : Bool × Unit) (f : Nat), a + 1 ≤ f → f ≤ s.length + 1 → Tot (RR s (a + 1) 0) (ere_parser_set_j6 ((), (s, ((a : Nat) : Int), none, ()), ()) v0 kBig (((f : Nat) : Int), ())) := fun v0 f hf hf2 => by
    unfold ere_parser_set_j6
    refine Tot.fix (I := fun d v => ∃ (i : Nat) (w : Int × Int × Int × Int × Int × Unit × Int × Int × Unit), v = (((i : Nat) : Int), w, ()) ∧ a + 1 ≤ i ∧ i ≤ s.length + 1 ∧ d = s.length + 1 - i) ?_ (s.length + 1 - f) _ _ ⟨f, _, rfl, hf, hf2, rfl⟩ (kBig_gt (by omega))
    rintro d v rec ⟨i, w, rfl, h1, h2, rfl⟩ ih
    have hrec : ∀ (j : Nat) w, i < j → j ≤ s.length → Tot (RR s (a + 1) 0) (rec (((j : Nat) : Int), w, ())) := fun j w hj hj2 => ih (s.length + 1 - j) _ (by omega) ⟨j, w, rfl, by omega, by omega, rfl⟩
    unfold ere_parser_set_l5
    dsimp only
    refine Tot.ifB (fun hb => ?_) fun _ => ?_
    · have hi : i < s.length := by have := of_decide_eq_true hb; rw [len_e] at this; omega
      have hj4 : ∀ c, Tot (RR s (a + 1) 0) (ere_parser_set_j4 ((), (s, ((a : Nat) : Int), none, ()), ()) v0 rec (((i : Nat) : Int), w, ()) kBig (c, ())) := fun c => by
        unfold ere_parser_set_j4
        dsimp only
        have e1 : IntKind.wrap .i64 (((i : Nat) : Int) + 1) = ((i + 1 : Nat) : Int) := i64_succ (by omega)
        have e2 : IntKind.wrap .i64 (((i + 1 : Nat) : Int) + 1) = ((i + 2 : Nat) : Int) := i64_succ (by omega)
        rw [e1, e2]
        refine Tot.ifB' (Tot.ifB' (Tot.thn (others_tot _) fun r5 _ => Tot.ret ⟨.ok (i + 1) (by omega) (by omega), Small.leaf rfl⟩) (Tot.ret ⟨.ok (i + 1) (by omega) (by omega), Small.leaf rfl⟩)) ?_
        refine Tot.thn (named_tot hL (by omega)) fun r6 h6 => Tot.ifB (fun hn => ?_) fun _ => ?_
        · obtain ⟨e, he, h3, h4⟩ := h6 (by rw [Bool.not_eq_true', decide_eq_false_iff_not] at hn; omega)
          exact hl _ _ _ _ fun w => by rw [he]; exact hrec e w h3 h4
        · have hj3 : ∀ b10 b11 c, (c = true → i + 2 < s.length) → Tot (RR s (a + 1) 0) (ere_parser_set_j3 ((), (s, ((a : Nat) : Int), none, ()), ()) rec (((i : Nat) : Int), w, ()) b10 b11 kBig (c, ())) := fun b10 b11 c hc => by
            have hb10 := b10.toNat_lt
            unfold ere_parser_set_j3
            dsimp only
            have e3 : IntKind.wrap .i64 (((i + 1 : Nat) : Int) + 2) = ((i + 3 : Nat) : Int) := by rw [i64_in (by omega) (by omega)]; omega
            rw [e1, e2, e3]
            have hj2 : ∀ (b : UInt8) (j : Nat), i < j → j ≤ s.length → Tot (RR s (a + 1) 0) (ere_parser_set_j2 rec (((i : Nat) : Int), w, ()) b10 kBig (((b.toNat : Nat) : Int), ((j : Nat) : Int), ())) := fun b j h3 h4 => by
              unfold ere_parser_set_j2
              rw [i64_nat (n := b10.toNat) (by omega)]
              exact hl1 _ _ _ _ _ _ fun w => hrec j w h3 h4
            refine Tot.ifB (fun h => ?_) fun _ => hj2 b11 (i + 1) (by omega) (by omega)
            have h3 := hc h
            refine Tot.thn (named_tot hL (by omega)) fun r16 _ => Tot.ifB' (Tot.thn (Tot.el h3) fun b17 _ => hj2 b17 (i + 3) (by omega) (by omega)) (hj2 b11 (i + 1) (by omega) (by omega))
          refine Tot.thn (Tot.el hi) fun b10 _ => Tot.thn (Tot.el hi) fun b11 _ => ?_
          refine Tot.ifB (fun hq => ?_) fun _ => hj3 _ _ false fun h => by cases h
          have hq : i + 2 < s.length := by have := of_decide_eq_true hq; rw [len_e] at this; omega
          exact Tot.thn (Tot.el (show i + 1 < s.length by omega)) fun b18 _ => Tot.ifB' (Tot.thn (Tot.el hq) fun b19 _ => hj3 _ _ _ fun _ => hq) (hj3 _ _ false fun h => by cases h)
      exact Tot.thn (Tot.el hi) fun b20 _ => Tot.ifB' (hj4 _) (hj4 _)
    · rw [fail_ok, oK_s]
      exact Tot.ret ⟨.no a _ _ (by omega) (by omega) (by rw [len_e]; omega) (by decide), Small.leaf rfl⟩
  unfold ere_parser_set ere_parser_set_k
  dsimp only
  have e1 : IntKind.wrap .i64 (((a : Nat) : Int) + 1) = ((a + 1 : Nat) : Int) := i64_succ (by omega)
  have e2 : IntKind.wrap .i64 (((a + 1 : Nat) : Int) + 1) = ((a + 2 : Nat) : Int) := i64_succ (by omega)
  have hj7 : ∀ c, (c = true → a + 2 ≤ s.length) → Tot (RR s (a + 1) 0) (ere_parser_set_j7 ((), (s, ((a : Nat) : Int), none, ()), ()) kBig (c, ())) := fun c hc => by
    unfold ere_parser_set_j7
    dsimp only
    rw [e1, e2]
    exact Tot.ifB (fun h => hl5 _ (a + 2) (by omega) (by have := hc h; omega)) fun _ => hl5 _ (a + 1) (by omega) (by omega)
  rw [e1]
  refine Tot.ifB (fun hb => ?_) fun _ => hj7 _ fun h => by cases h
  have hb : a + 1 < s.length := by have := of_decide_eq_true hb; rw [len_e] at this; omega
  exact Tot.thn (Tot.el hb) fun b22 _ => hj7 _ fun _ => by omega
theorem single_tot (b : UInt8) : Tot (fun r => r.1.kids = []) (ere_single (((b.toNat : Nat) : Int), ())) := by
  have := b.toNat_lt
  obtain ⟨e1, e2⟩ := d64 (m := ((b.toNat : Nat) : Int)) (by omega) (by omega)
  unfold ere_single
  dsimp only
  rw [e1, bK_t, e2, bK_f, bK_t]
  exact Tot.ret rfl
/-- What a reader of a piece of the text does that stands at a byte. -/
def At (s : List UInt8) (b : Nat) (f : PF) (w : Nat) : Prop := ∀ a : Nat, a < s.length → Tot (RR s (a + 1) b) (f ((), (s, ((a : Nat) : Int), none, ()), ((w : Nat) : Int), ()))
/-- What one does that may stand at the end too. -/
def To (s : List UInt8) (b : Nat) (f : PF) (w : Nat) : Prop := ∀ a : Nat, a ≤ s.length → Tot (RR s a b) (f ((), (s, ((a : Nat) : Int), none, ()), ((w : Nat) : Int), ()))
include hL in
theorem group_tot {n w b : Nat} (hb : b ≤ 100) (h : w < 30 → To s b (fE n) (w + 1)) : At s (b + 1) (fG (n + 1)) w := fun a ha => by
  rw [fG_s]
  unfold ere_parser_group_b
  dsimp only
  refine Tot.ifB (fun _ => ?_) fun hw => ?_
  · rw [fail_ok, oK_s]
    exact Tot.ret ⟨.no a _ _ (by omega) (by omega) (by rw [len_e]; omega) (by decide), Small.leaf rfl⟩
  · have hw : w < 30 := by rw [Bool.not_eq_false', decide_eq_true_eq] at hw; omega
    rw [show IntKind.wrap .i64 (((a : Nat) : Int) + 1) = ((a + 1 : Nat) : Int) from i64_succ (by omega), show IntKind.wrap .i64 (((w : Nat) : Int) + 1) = ((w + 1 : Nat) : Int) from i64_succ (by omega)]
    refine Tot.thn (h hw (a + 1) (by omega)) ?_
    rintro ⟨u, p, nd, u'⟩ ⟨hp, hs⟩
    dsimp only at hp hs ⊢
    have hp' := hp
    cases hp with
    | ok q h1 h2 =>
      dsimp only
      refine Tot.thn (is_tot hp' _) ?_
      rintro ⟨u, p, c, u'⟩ ⟨rfl, h3⟩
      dsimp only at h3 ⊢
      refine Tot.ifB (fun _ => ?_) fun hc => ?_
      · rw [fail_ok, oK_s]
        rw [joinB_e]; unfold ere_parser_group_j0
        simp only [nd_eta]
        rw [show IntKind.wrap .i64 (((q : Nat) : Int) + 1) = ((q + 1 : Nat) : Int) from i64_succ (by omega)]
        exact Tot.ret ⟨.no _ _ _ (by omega) (by omega) (by rw [len_e]; omega) (by decide), hs⟩
      · obtain ⟨q', e, h4, h5⟩ := h3 (by simpa using hc)
        have e : q = q' := by
          have := congrArg (fun p : PSt => p.2.1) e
          dsimp only at this
          omega
        subst e
        rw [joinB_e]; unfold ere_parser_group_j0
        simp only [nd_eta]
        rw [show IntKind.wrap .i64 (((q : Nat) : Int) + 1) = ((q + 1 : Nat) : Int) from i64_succ (by omega)]
        exact Tot.ret ⟨.ok _ (by omega) (by omega), hs⟩
    | no q z e h1 h2 h3 h4 =>
      dsimp only
      rw [is_bad, oK_s]
      dsimp only
      rw [Bool.not_false, bK_t, fail_bad, oK_s]
      rw [joinB_e]; unfold ere_parser_group_j0
      simp only [nd_eta]
      rw [show IntKind.wrap .i64 (((q : Nat) : Int) + 1) = ((q + 1 : Nat) : Int) from i64_succ (by omega)]
      exact Tot.ret ⟨.no _ _ _ (by omega) h2 h3 h4, hs⟩
include hL in
theorem atom_tot {n w b : Nat} (h : At s b (fG n) w) : At s b (fT (n + 1)) w := fun a ha => by
  rw [fT_s]
  unfold ere_parser_atom_b
  dsimp only
  have hw : PWf s a b (s, ((a : Nat) : Int), none, ()) := .ok a (by omega) (by omega)
  refine Tot.thn (Tot.el ha) fun b0 _ => Tot.thn (is_tot hw _) ?_
  rintro ⟨u, p, c, u'⟩ ⟨hp, -⟩
  dsimp only at hp ⊢
  subst hp
  refine Tot.ifB' ?_ ?_
  · rw [fail_ok, oK_s]
    exact Tot.ret ⟨.no a _ _ (by omega) (Int.natCast_nonneg a) (by rw [len_e]; dsimp only; omega) (by decide), Small.leaf rfl⟩
  refine Tot.thn (is_tot hw _) ?_
  rintro ⟨u, p, c, u'⟩ ⟨hp, -⟩
  dsimp only at hp ⊢
  subst hp
  refine Tot.ifB' ?_ ?_
  · refine Tot.thn (set_tot hL ha) ?_
    rintro ⟨u, p, nd, u'⟩ ⟨hp, hs⟩
    simp only [nd_eta]
    exact Tot.ret ⟨hp.mono (by omega) (by omega), hs⟩
  refine Tot.thn (is_tot hw _) ?_
  rintro ⟨u, p, c, u'⟩ ⟨hp, -⟩
  dsimp only at hp ⊢
  subst hp
  refine Tot.ifB' ?_ ?_
  · refine Tot.thn (h a ha) ?_
    rintro ⟨u, p, nd, u'⟩ ⟨hp, hs⟩
    simp only [nd_eta]
    exact Tot.ret ⟨hp, hs⟩
  dsimp only
  have e1 : IntKind.wrap .i64 (((a : Nat) : Int) + 1) = ((a + 1 : Nat) : Int) := i64_succ (by omega)
  have e2 : IntKind.wrap .i64 (((a + 1 : Nat) : Int) + 1) = ((a + 2 : Nat) : Int) := i64_succ (by omega)
  have e3 : IntKind.wrap .i64 (((a + 2 : Nat) : Int) - 1) = ((a + 1 : Nat) : Int) := by rw [i64_in (by omega) (by omega)]; omega
  rw [e1, e2, e3]
  have h1 : PWf s (a + 1) b (s, ((a + 1 : Nat) : Int), none, ()) := .ok _ (by omega) (by omega)
  refine Tot.ifB' (Tot.thn (others_tot _) fun _ _ => Tot.ret ⟨h1, Small.leaf rfl⟩) (Tot.ifB' (Tot.ret ⟨h1, Small.leaf rfl⟩) (Tot.ifB' (Tot.ret ⟨h1, Small.leaf rfl⟩) (Tot.ifB' (Tot.ifB (fun _ => ?_) fun hn => ?_) ?_)))
  · rw [fail_ok, oK_s]
    exact Tot.ret ⟨.no (a + 1) _ _ (by omega) (by omega) (by rw [len_e]; omega) (by decide), Small.leaf rfl⟩
  · have hn : a + 1 < s.length := by
      rw [decide_eq_false_iff_not, len_e] at hn
      omega
    refine Tot.thn (Tot.el hn) fun b9 _ => Tot.thn (single_tot b9) fun r10 h10 => ?_
    exact Tot.ret ⟨.ok _ (by omega) (by omega), Small.leaf h10⟩
  · exact Tot.thn (single_tot b0) fun r11 h11 => Tot.ret ⟨h1, Small.leaf h11⟩
include hL in
theorem piece_tot {n w b : Nat} (hb : b ≤ 100) (h : At s b (fT n) w) : At s b (fP (n + 1)) w := fun a ha => by
  rw [fP_s]
  unfold ere_parser_piece_b
  dsimp only
  refine Tot.thn (h a ha) ?_
  rintro ⟨u, p, nd, u'⟩ ⟨hp, hs⟩
  dsimp only at hp hs ⊢
  refine Tot.fix (I := fun d v => PWf s (a + 1) b v.2.1 ∧ Small (Node.mk v.1.1 v.1.2.1 v.1.2.2.1 v.1.2.2.2.1 v.1.2.2.2.2.1 v.1.2.2.2.2.2.1 v.1.2.2.2.2.2.2.1 v.1.2.2.2.2.2.2.2.1) ∧ d = s.length + b + 5 - v.2.1.2.1.toNat) ?_ _ _ _ ⟨hp, by rw [nd_eta]; exact hs, rfl⟩ (kBig_gt (by omega))
  rintro d ⟨⟨k0, s0, s1, s2, s3, kk, mi, ma, u2⟩, p, u3⟩ rec ⟨hp, hs, rfl⟩ ih
  unfold ere_parser_piece_l1
  dsimp only at hp hs ih ⊢
  obtain ⟨ps, pa, pb, pu⟩ := p
  dsimp only
  refine Tot.thn (is_tot hp _) ?_
  rintro ⟨u, p, c, u'⟩ ⟨hp', h3⟩
  dsimp only at hp' h3 ⊢
  subst hp'
  refine Tot.ifB (fun hc => ?_) fun _ => Tot.ret ⟨hp, hs⟩
  obtain ⟨q, e, h4, h5⟩ := h3 hc
  cases e
  have hj : ∀ lo hi (q' : Nat) (w' : Option EreWrong), q ≤ q' → q' < s.length → PWf s (a + 1) b (s, ((q' + 1 : Nat) : Int), w', ()) → Tot (RR s (a + 1) b) (ere_parser_piece_j0 rec ((k0, s0, s1, s2, s3, kk, mi, ma, u2), (s, ((q : Nat) : Int), none, ()), u3) (lo, hi, (s, ((q' : Nat) : Int), w', ()), ())) := fun lo hi q' w' h1 h2 hw => by
    unfold ere_parser_piece_j0
    dsimp only
    rw [show IntKind.wrap .i64 (((q' : Nat) : Int) + 1) = ((q' + 1 : Nat) : Int) from i64_succ (by omega)]
    refine ih (s.length + b + 5 - (q' + 1)) _ ?_ ⟨hw, ⟨_, by simp, fun x hx => ?_⟩, ?_⟩
    · dsimp only
      rw [Int.toNat_natCast]
      omega
    · rw [List.mem_singleton] at hx
      rw [hx]
      exact hs
    · dsimp only
      rw [Int.toNat_natCast]
  have hok : ∀ lo hi, Tot (RR s (a + 1) b) (ere_parser_piece_j0 rec ((k0, s0, s1, s2, s3, kk, mi, ma, u2), (s, ((q : Nat) : Int), none, ()), u3) (lo, hi, (s, ((q : Nat) : Int), none, ()), ())) := fun lo hi => hj lo hi q none (by omega) h4 (.ok _ (by omega) (by omega))
  refine Tot.thn (Tot.el h4) fun b5 _ => Tot.ifB' (hok _ _) (Tot.ifB' (hok _ _) (Tot.ifB' ?_ (hok _ _)))
  refine Tot.thn (times_tot hL h4) ?_
  rintro ⟨u, p, lo, hi, u'⟩ ⟨hp2, hq⟩
  dsimp only at hp2 hq ⊢
  cases hp2 with
  | ok q' h6 h7 =>
    have := hq q' rfl
    exact hj _ _ q' none h6 this.2 (.ok _ (by omega) (by omega))
  | no q' z e h6 h7 h8 h9 =>
    have := hq q' rfl
    exact hj _ _ q' _ this.1 this.2 (.no _ _ _ (by omega) h7 h8 h9)
theorem of_tot (k : Int) (l : List Node) (hl : l.length ≤ 1000) (h : ∀ x, x ∈ l → Small x) : Tot (fun r => Small r.1) (ere_of (k, l, ())) := by
  unfold ere_of
  dsimp only
  refine Tot.ifB (fun _ => Tot.ret (Small.leaf rfl)) fun h0 => Tot.ifB (fun h1 => ?_) fun _ => Tot.ret ⟨_, hl, h⟩
  have h1 := of_decide_eq_true h1
  rw [len_e] at h1
  refine Tot.thn (Tot.elI (i := 0) (by omega) (by rw [len_e]; omega)) fun x hx => ?_
  simp only [nd_eta]
  exact Tot.ret (h x hx)
def ms (s : List UInt8) (b : Nat) (p : PSt) : Nat := s.length + b + 5 - p.2.1.toNat + (match p.2.2.1 with | none => 1000 | some _ => 0)
theorem ms_none (q : Nat) (b : Nat) : ms s b (s, ((q : Nat) : Int), none, ()) = s.length + b + 5 - q + 1000 := rfl
theorem ms_some (q : Nat) (b : Nat) (z : EreWrong) : ms s b (s, ((q : Nat) : Int), some z, ()) = s.length + b + 5 - q := rfl
theorem ms_le (b : Nat) (p : PSt) : ms s b p ≤ s.length + b + 1005 := by
  unfold ms
  split <;> omega
def BI (s : List UInt8) (a b c : Nat) (d : Nat) (v : List Node × PSt × Unit) : Prop := PWf s a b v.2.1 ∧ (v.2.1.2.2.1 = none → v.1.length ≤ v.2.1.2.1.toNat + c) ∧ v.1.length ≤ 300 ∧ (∀ x, x ∈ v.1 → Small x) ∧ d = ms s b v.2.1
include hL in
theorem branch_tot {n w b : Nat} (hb : b ≤ 100) (h : At s b (fP n) w) : To s b (fB (n + 1)) w := fun a ha => by
  rw [fB_s]
  unfold ere_parser_branch_b
  dsimp only
  refine Tot.fix (I := BI s a b 0) ?_ _ _ _ ⟨.ok a (by omega) ha, fun _ => by simp, by simp, fun x hx => (by cases hx), rfl⟩ (kBig_gt (Nat.lt_of_le_of_lt (ms_le b _) (by omega)))
  rintro d ⟨l, p, u3⟩ rec ⟨hp, hl, hl3, hs, rfl⟩ ih
  unfold ere_parser_branch_l1
  dsimp only at hp hl hl3 hs ih ⊢
  have hj : ∀ p, PWf s a b p → Tot (RR s a b) (joinB (box ere_parser_branch_j0) (l, p, ())) := fun p hp => by
    rw [joinB_e]; unfold ere_parser_branch_j0
    refine Tot.thn (of_tot _ _ (by dsimp only; omega) hs) fun r1 h1 => ?_
    simp only [nd_eta]
    exact Tot.ret ⟨hp, h1⟩
  have hp' := hp
  cases hp with
  | no q z e h1 h2 h3 h4 => exact Tot.ifB (fun h => by cases h) fun _ => hj _ hp'
  | ok q h1 h2 =>
    dsimp only at hl ⊢
    refine Tot.ifB' (Tot.ifB (fun hq => ?_) fun _ => hj _ hp') (hj _ hp')
    have hq : q < s.length := by have := of_decide_eq_true hq; rw [len_e] at this; omega
    have hl := hl rfl
    rw [Int.toNat_natCast] at hl
    refine Tot.thn (is_tot hp' _) ?_
    rintro ⟨u, p, c, u'⟩ ⟨hp2, -⟩
    dsimp only at hp2 ⊢
    subst hp2
    refine Tot.ifB' ?_ (hj _ hp')
    refine Tot.thn (h q hq) ?_
    rintro ⟨u, p, nd, u'⟩ ⟨hp2, hs2⟩
    dsimp only at hp2 hs2 ⊢
    rw [fits_t (by omega) (by decide), bK_t]
    simp only [nd_eta]
    have hs3 : ∀ x, x ∈ l ++ [nd] → Small x := fun x hx => by
      rcases List.mem_append.1 hx with hx | hx
      · exact hs x hx
      · rw [List.mem_singleton] at hx
        rw [hx]
        exact hs2
    cases hp2 with
    | ok q' h5 h6 =>
      refine ih _ _ ?_ ⟨.ok q' (by omega) h6, fun _ => ?_, ?_, hs3, rfl⟩
      · dsimp only
        rw [ms_none, ms_none]
        omega
      · dsimp only
        rw [List.length_append, List.length_singleton, Int.toNat_natCast]
        omega
      · dsimp only
        rw [List.length_append, List.length_singleton]
        omega
    | no q' z e h5 h6 h7 h8 =>
      refine ih _ _ ?_ ⟨.no q' z e h5 h6 h7 h8, fun h => (by cases h), ?_, hs3, rfl⟩
      · dsimp only
        rw [ms_none, ms_some]
        omega
      · dsimp only
        rw [List.length_append, List.length_singleton]
        omega
include hL in
theorem expr_tot {n w b : Nat} (hb : b ≤ 100) (h : To s b (fB n) w) : To s b (fE (n + 1)) w := fun a ha => by
  rw [fE_s]
  unfold ere_parser_expression_b
  dsimp only
  refine Tot.thn (h a ha) ?_
  rintro ⟨u, p, nd, u'⟩ ⟨hp, hs⟩
  dsimp only at hp hs ⊢
  refine Tot.fix (I := BI s a b 1) ?_ _ _ _ ⟨hp, fun _ => by simp, by simp, fun x hx => ?_, rfl⟩ (kBig_gt (Nat.lt_of_le_of_lt (ms_le b _) (by omega)))
  rotate_left
  · rw [List.mem_singleton, nd_eta] at hx
    rw [hx]
    exact hs
  rintro d ⟨l, p, u3⟩ rec ⟨hp, hl, hl3, hs, rfl⟩ ih
  unfold ere_parser_expression_l0
  dsimp only at hp hl hl3 hs ih ⊢
  obtain ⟨ps, pa, pb, pu⟩ := p
  dsimp only
  refine Tot.thn (is_tot hp _) ?_
  rintro ⟨u, p, c, u'⟩ ⟨hp2, h3⟩
  dsimp only at hp2 h3 ⊢
  subst hp2
  refine Tot.ifB (fun hc => ?_) fun _ => ?_
  · obtain ⟨q, e, h4, h5⟩ := h3 hc
    cases e
    dsimp only at hl ih ⊢
    have hl := hl rfl
    rw [Int.toNat_natCast] at hl
    rw [show IntKind.wrap .i64 (((q : Nat) : Int) + 1) = ((q + 1 : Nat) : Int) from i64_succ (by omega)]
    refine Tot.thn (h (q + 1) (by omega)) ?_
    rintro ⟨u, p, nd, u'⟩ ⟨hp2, hs2⟩
    dsimp only at hp2 hs2 ⊢
    rw [fits_t (by omega) (by decide), bK_t]
    simp only [nd_eta]
    have hs3 : ∀ x, x ∈ l ++ [nd] → Small x := fun x hx => by
      rcases List.mem_append.1 hx with hx | hx
      · exact hs x hx
      · rw [List.mem_singleton] at hx
        rw [hx]
        exact hs2
    cases hp2 with
    | ok q' h5 h6 =>
      refine ih _ _ ?_ ⟨.ok q' (by omega) h6, fun _ => ?_, ?_, hs3, rfl⟩
      · dsimp only
        rw [ms_none, ms_none]
        omega
      · dsimp only
        rw [List.length_append, List.length_singleton, Int.toNat_natCast]
        omega
      · dsimp only
        rw [List.length_append, List.length_singleton]
        omega
    | no q' z e h5 h6 h7 h8 =>
      refine ih _ _ ?_ ⟨.no q' z e h5 h6 h7 h8, fun h => (by cases h), ?_, hs3, rfl⟩
      · dsimp only
        rw [ms_none, ms_some]
        omega
      · dsimp only
        rw [List.length_append, List.length_singleton]
        omega
  · refine Tot.thn (of_tot _ _ (by omega) hs) fun r1 h1 => ?_
    simp only [nd_eta]
    exact Tot.ret ⟨hp, h1⟩
include hL in
theorem all_tot : ∀ (d w n : Nat), d = 30 - w → 5 * (d + 1) ≤ n → To s (d + 1) (fE n) w
  | 0, w, n, hd, hn => by
    obtain ⟨m, rfl⟩ : ∃ m, n = m + 1 + 1 + 1 + 1 + 1 := ⟨n - 5, by omega⟩
    exact expr_tot hL (by omega) (branch_tot hL (by omega) (piece_tot hL (by omega) (atom_tot hL (group_tot hL (by omega) fun h => by omega))))
  | d + 1, w, n, hd, hn => by
    obtain ⟨m, rfl⟩ : ∃ m, n = m + 1 + 1 + 1 + 1 + 1 := ⟨n - 5, by omega⟩
    by_cases hb : d ≤ 50
    · exact expr_tot hL (by omega) (branch_tot hL (by omega) (piece_tot hL (by omega) (atom_tot hL (group_tot hL (by omega) fun h => all_tot d (w + 1) m (by omega) (by omega)))))
    · omega
end
def Dep : Nat → Node → Prop
  | 0, n => n.kids = []
  | d + 1, n => ∀ x, x ∈ n.kids → Dep d x
theorem form_tot (v) : Tot (fun _ => True) (ere_form v) := by
  have h0 : ∀ v v0, Tot (fun _ => True) (ere_form_j0 v v0) := fun v v0 => by
    unfold ere_form_j0
    repeat' first | exact Tot.ret trivial | refine Tot.ifB' ?_ ?_
  have h1 : ∀ v v0, Tot (fun _ => True) (ere_form_j1 v v0) := fun v v0 => by
    unfold ere_form_j1
    repeat' first | exact Tot.ret trivial | exact h0 _ _ | refine Tot.ifB' ?_ ?_
  unfold ere_form
  repeat' first | exact h1 _ _ | refine Tot.ifB' ?_ ?_
theorem kids_tot {Q : Node → Prop} (f : (Node × Int × Unit) → Option (Bool × Unit)) (nd : Node) (left : Int) (u u' : Unit) (hl : nd.kids.length ≤ 1000)
    (h : ∀ x, x ∈ nd.kids → Tot (fun r => r.1 = true → Q x) (f (x, IntKind.wrap .i64 (left - 1), ()))) : Tot (fun r => r.1 = true → ∀ x, x ∈ nd.kids → Q x) (ere_right_j1 f (nd, left, u) kBig u') := by
  unfold ere_right_j1
  refine Tot.fix (I := fun d v => ∃ i : Nat, v = (((i : Nat) : Int), ()) ∧ i ≤ nd.kids.length ∧ (∀ (j : Nat) x, j < i → nd.kids[j]? = some x → Q x) ∧ d = nd.kids.length - i) ?_ nd.kids.length _ _ ⟨0, rfl, by omega, fun j x hj => by omega, rfl⟩ (kBig_gt (by omega))
  rintro d v rec ⟨i, rfl, h1, h2, rfl⟩ ih
  unfold ere_right_l0
  dsimp only
  refine Tot.ifB (fun hi => ?_) fun hi => Tot.ret fun _ x hx => ?_
  · have hi : i < nd.kids.length := by have := of_decide_eq_true hi; rw [len_e] at this; omega
    refine Tot.thn (Tot.el hi) fun x hx => ?_
    simp only [nd_eta]
    refine Tot.thn (h x (List.mem_of_getElem? hx)) fun r4 h4 => Tot.ifB (fun _ => Tot.ret fun h => by cases h) fun hr => ?_
    refine ih (nd.kids.length - (i + 1)) _ (by omega) ⟨i + 1, by rw [show IntKind.wrap .i64 (((i : Nat) : Int) + 1) = ((i + 1 : Nat) : Int) from i64_succ (by omega)], by omega, fun j y hj hy => ?_, rfl⟩
    by_cases hji : j = i
    · subst hji
      rw [hx] at hy
      cases hy
      exact h4 (by simpa using hr)
    · exact h2 j y (by omega) hy
  · obtain ⟨j, hj, rfl⟩ := List.getElem_of_mem hx
    rw [decide_eq_false_iff_not, len_e] at hi
    exact h2 j _ (by omega) (List.getElem?_eq_getElem hj)
theorem right_tot : ∀ (left n : Nat) (nd : Node), Small nd → left + 1 ≤ n → left ≤ 1000 → Tot (fun r => r.1 = true → Dep left nd) (ere_right_all kBig n (nd, ((left : Nat) : Int), ()))
  | 0, n, nd, hs, hn, hl => by
    obtain ⟨m, rfl⟩ : ∃ m, n = m + 1 := ⟨n - 1, by omega⟩
    show Tot _ (ere_right_b (ere_right_all kBig m) kBig _)
    unfold ere_right_b
    simp only [nd_eta]
    refine Tot.thn (form_tot _) fun r5 _ => Tot.ifB (fun _ => Tot.ret fun h => by cases h) fun _ => Tot.ifB (fun _ => Tot.ifB (fun _ => Tot.ret fun h => by cases h) fun h => ?_) fun h => ?_
    · rw [decide_eq_false_iff_not] at h
      omega
    · have h0 : nd.kids = [] := by
        rw [decide_eq_false_iff_not, len_e] at h
        exact List.length_eq_zero_iff.1 (by omega)
      have := kids_tot (Q := fun _ => True) (ere_right_all kBig m) nd ((0 : Nat) : Int) () () (by rw [h0]; simp) (fun x hx => by rw [h0] at hx; cases hx)
      exact this.mono fun r _ _ => h0
  | left + 1, n, nd, hs, hn, hl => by
    obtain ⟨m, rfl⟩ : ∃ m, n = m + 1 := ⟨n - 1, by omega⟩
    show Tot _ (ere_right_b (ere_right_all kBig m) kBig _)
    unfold ere_right_b
    simp only [nd_eta]
    have hj := kids_tot (Q := Dep left) (ere_right_all kBig m) nd ((left + 1 : Nat) : Int) () () (by cases hs with | mk _ h _ => exact h) (fun x hx => by
      rw [show IntKind.wrap .i64 (((left + 1 : Nat) : Int) - 1) = ((left : Nat) : Int) from by rw [i64_in (by omega) (by omega)]; omega]
      exact right_tot left m x (by cases hs with | mk _ _ h => exact h x hx) (by omega) (by omega))
    refine Tot.thn (form_tot _) fun r5 _ => Tot.ifB (fun _ => Tot.ret fun h => by cases h) fun _ => Tot.ifB (fun _ => Tot.ifB (fun _ => Tot.ret fun h => by cases h) fun h => hj) fun h => hj
theorem iMax_ge (x y : Int) : y ≤ iMax x y := by
  unfold iMax
  by_cases h : x < y
  · rw [d_t h]; exact Int.le_refl _
  · rw [d_f h]
    show y ≤ x
    omega
theorem times_ge (v) : Tot (fun r => 1 ≤ r.1) (ere_times v) := by
  unfold ere_times
  exact Tot.ifB' (Tot.ret (by decide)) (Tot.ret (iMax_ge _ _))
theorem iMin_30 {x : Int} (h : 1 ≤ x) : 1 ≤ iMin 1073741824 x ∧ iMin 1073741824 x ≤ 1073741824 := by
  unfold iMin
  by_cases hx : x < 1073741824
  · rw [d_t hx]
    show 1 ≤ x ∧ x ≤ _
    omega
  · rw [d_f hx]
    show 1 ≤ (1073741824 : Int) ∧ (1073741824 : Int) ≤ 1073741824
    decide
theorem size_tot : ∀ (d n : Nat) (nd : Node), Small nd → Dep d nd → d + 1 ≤ n → Tot (fun r => 1 ≤ r.1 ∧ r.1 ≤ 1073741824) (ere_Size_all kBig n (nd, ()))
  | d, n, nd, hs, hd, hn => by
    obtain ⟨m, rfl⟩ : ∃ m, n = m + 1 := ⟨n - 1, by omega⟩
    show Tot _ (ere_Size_b (ere_Size_all kBig m) kBig _)
    unfold ere_Size_b
    have hlen : nd.kids.length ≤ 1000 := by cases hs with | mk _ h _ => exact h
    have hk : ∀ x, x ∈ nd.kids → Tot (fun r => 1 ≤ r.1 ∧ r.1 ≤ 1073741824) (ere_Size_all kBig m (x, ())) := fun x hx => by
      have hsx : Small x := by cases hs with | mk _ _ h => exact h x hx
      cases d with
      | zero =>
        have h0 : nd.kids = [] := hd
        rw [h0] at hx
        cases hx
      | succ d => exact size_tot d m x hsx (hd x hx) (by omega)
    refine Tot.fix (I := fun d v => ∃ (z : Int) (i : Nat), v = (z, ((i : Nat) : Int), ()) ∧ 1 ≤ z ∧ z ≤ 1073741824 ∧ i ≤ nd.kids.length ∧ d = nd.kids.length - i) ?_ nd.kids.length _ _ ⟨1, 0, rfl, by omega, by omega, by omega, rfl⟩ (kBig_gt (by omega))
    rintro d v rec ⟨z, i, rfl, h1, h2, h3, rfl⟩ ih
    unfold ere_Size_l1
    dsimp only
    refine Tot.ifB (fun hi => ?_) fun hi => Tot.ret ⟨h1, h2⟩
    have hi : i < nd.kids.length := by have := of_decide_eq_true hi; rw [len_e] at this; omega
    refine Tot.thn (Tot.el hi) fun x hx => ?_
    simp only [nd_eta]
    have hj : ∀ y : Int, 1 ≤ y → y ≤ 1073741824 → Tot (fun r : Int × Unit => 1 ≤ r.1 ∧ r.1 ≤ 1073741824) (joinB (box (ere_Size_j0 rec (z, ((i : Nat) : Int), ()))) (y, ())) := fun y hy1 hy2 => by
      rw [joinB_e]; unfold ere_Size_j0
      dsimp only
      rw [i64_in (n := z + y) (by omega) (by omega)]
      have := iMin_30 (x := z + y) (by omega)
      exact ih (nd.kids.length - (i + 1)) _ (by omega) ⟨_, i + 1, by rw [show IntKind.wrap .i64 (((i : Nat) : Int) + 1) = ((i + 1 : Nat) : Int) from i64_succ (by omega)], this.1, this.2, by omega, rfl⟩
    refine Tot.thn (hk x (List.mem_of_getElem? hx)) fun r3 h4 => Tot.thn (times_ge _) fun r5 h5 => ?_
    rw [d_f (show ¬ r5.1 = 0 by omega), bK_f]
    refine Tot.ifB (fun _ => hj _ (by omega) (by omega)) fun hq => ?_
    have hq1 : 0 ≤ 1073741824 / r5.1 := Int.ediv_nonneg (by omega) (by omega)
    have hq2 : 1073741824 / r5.1 ≤ 1073741824 := Int.ediv_le_self _ (by omega)
    rw [Int.tdiv_eq_ediv_of_nonneg (by omega), i64_in (by omega) (by omega), decide_eq_false_iff_not] at hq
    have h6 : r3.1 * r5.1 ≤ 1073741824 := (Int.le_ediv_iff_mul_le (by omega)).1 (by omega)
    have h7 : 0 < r3.1 * r5.1 := Int.mul_pos (by omega) (by omega)
    rw [i64_in (by omega) (by omega)]
    exact hj _ (by omega) h6
theorem Right_tot {nd : Node} (hs : Small nd) : Tot (fun r => r.1 = true → ∃ z, ere_Size (nd, ()) = some (z, ()) ∧ z ≤ 20000) (ere_Right (nd, ())) := by
  unfold ere_Right
  simp only [nd_eta]
  refine Tot.thn (Q := fun r => r.1 = true → Dep 200 nd) ?_ fun r0 h0 => Tot.ifB (fun h => ?_) fun _ => Tot.ret fun h => by cases h
  · unfold ere_right
    exact right_tot 200 kBig nd hs (Nat.le_of_lt (kBig_gt (by omega))) (by omega)
  · obtain ⟨⟨z, u⟩, hz, -⟩ := size_tot 200 kBig nd hs (h0 h) (Nat.le_of_lt (kBig_gt (by omega)))
    have hz : ere_Size (nd, ()) = some (z, ()) := hz
    rw [hz, oK_s]
    refine Tot.ret fun h => ⟨z, rfl, ?_⟩
    dsimp only at h
    rw [Bool.not_eq_true', decide_eq_false_iff_not] at h
    omega
/-- What is told of a text. -/
def PG (s : List UInt8) (r : Node × Int × Int × Unit) : Prop :=
  (r.2.2.1 = 0 ∧ r.2.1 = -1 ∧ ere_Right (r.1, ()) = some (true, ()) ∧ ∃ z, ere_Size (r.1, ()) = some (z, ()) ∧ z ≤ 20000) ∨ (r.2.2.1 ≠ 0 ∧ 0 ≤ r.2.1 ∧ r.2.1 ≤ len s ∧ r.1.kind = 0 ∧ r.1.kids = [])
theorem parse_tot {s : List UInt8} (hL : s.length ≤ 200) : Tot (PG s) (ere_Parse (s, ())) := by
  unfold ere_Parse
  dsimp only
  rw [d_f (show ¬ 1000 < len s by rw [len_e]; omega), bK_f, expr_e]
  refine Tot.thn (all_tot hL 30 0 kBig rfl (Nat.le_of_lt (kBig_gt (by omega))) 0 (by omega)) ?_
  rintro ⟨u, p, nd, u'⟩ ⟨hp, hs⟩
  dsimp only at hp hs
  cases hp with
  | no q z e h1 h2 h3 h4 =>
    refine Tot.ifB (fun h => by cases h) fun _ => ?_
    rw [joinB_e]; unfold ere_Parse_j1; rw [joinB_e]; unfold ere_Parse_j0
    exact Tot.ret (.inr ⟨h4, h2, h3, rfl, rfl⟩)
  | ok q h1 h2 =>
    have hj : ∀ c, Tot (PG s) (joinB (box (ere_Parse_j1 (u, (s, ((q : Nat) : Int), none, ()), nd, u'))) (c, ())) := fun c => by
      rw [joinB_e]; unfold ere_Parse_j1
      dsimp only
      refine Tot.ifB' ?_ ?_
      · rw [fail_ok, oK_s, joinB_e]
        unfold ere_Parse_j0
        exact Tot.ret (.inr ⟨(by decide : (2 : Int) ≠ 0), Int.natCast_nonneg q, (by rw [len_e]; exact Int.ofNat_le.2 h2), rfl, rfl⟩)
      · rw [joinB_e]
        unfold ere_Parse_j0
        simp only [nd_eta]
        refine Tot.ifB (fun h => by cases h) fun _ => ?_
        obtain ⟨⟨b, u⟩, hr, h3⟩ := Right_tot hs
        dsimp only at h3
        rw [hr, oK_s]
        refine Tot.ifB (fun _ => Tot.ret (.inr ⟨(by decide : (4 : Int) ≠ 0), Int.le_refl _, (by rw [len_e]; exact Int.natCast_nonneg _), rfl, rfl⟩)) fun hb => ?_
        have hb : b = true := by simpa using hb
        subst hb
        exact Tot.ret (.inl ⟨rfl, rfl, hr, h3 rfl⟩)
    exact Tot.ifB' (hj _) (hj _)
theorem ereRight_pure (s : List UInt8) : law6_EreRight (s, ()) = some (true, ()) := by
  unfold law6_EreRight
  rw [er_alive, oK_s]
  show law6_EreRight_j0 (s, ()) (true, ()) (decide (200 < len s), ()) = _
  unfold law6_EreRight_j0
  by_cases hL : 200 < len s
  · rw [d_t hL]
    rfl
  · rw [d_f hL]
    dsimp only
    rw [bK_f]
    have hL : s.length ≤ 200 := by rw [len_e] at hL; omega
    obtain ⟨⟨nd, at_, e, u⟩, hr, h⟩ := parse_tot hL
    rw [hr, oK_s]
    unfold law6_num
    rw [oK_s]
    dsimp only
    simp only [nd_eta]
    rcases h with ⟨h1, h2, h3, z, h4, h5⟩ | ⟨h1, h2, h3, h4, h5⟩
    · dsimp only at h1 h2 h3 h4 h5
      subst h1; subst h2
      rw [d_t rfl, bK_t, d_t rfl, bK_t, h3, oK_s, bK_t, h4, oK_s]
      dsimp only
      rw [d_f (by omega)]
      rfl
    · dsimp only at h1 h2 h3 h4 h5
      rw [d_f h1, bK_f, d_f (by omega), Bool.not_false, bK_t, d_f (by omega), Bool.not_false, bK_t, d_t h4, bK_t, h5]
      rfl
end Go.Proofs.YtlkaoiceehlkmaaTE
