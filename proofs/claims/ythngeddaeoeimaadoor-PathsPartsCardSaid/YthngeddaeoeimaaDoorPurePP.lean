/- The law PathsParts about the functions as they are told; no program in sight. -/
import Derived.Test.YthngeddaeoeimaaDoorPpF
import Derived.Test.YthngeddaeoeimaaDoorTeZ
import Derived.Test.YthngeddaeoeimaaDoorPartsL
namespace Go.Proofs.YthngeddaeoeimaaDoorTE
open Go Go.Proofs.YthngeddaeoeimaaDoorVE Go.Proofs.YthngeddaeoeimaaDoorTE.Paths
set_option linter.unusedVariables false
set_option linter.unusedSimpArgs false
set_option maxRecDepth 100000 in
theorem pp_alive : law3_alive () = some (true, ()) := by kernel_rfl
/-! the parts -/
theorem getD_at' {β : Type} {l : List β} {i : Nat} {d : β} (h : i < l.length) : l.getD i d = l[i] := by
  rw [List.getD_eq_getElem?_getD, List.getElem?_eq_getElem h]; rfl
theorem idxF_cut (s : List UInt8) : (idxF s 47 0 = -1 ∧ cutL s = none) ∨ (∃ i : Nat, idxF s 47 0 = i ∧ i < s.length ∧ cutL s = some (s.drop (i + 1))) := by
  rw [idxF_zero]; exact idx_cut s
theorem pp_cut (s : List UInt8) (hs : s.length < 4611686018427387904) : ∃ b r, strings_Cut (s, [47], ()) = some (b, r, (cutL s).isSome, ()) ∧ ∀ x, cutL s = some x → r = x := by
  unfold strings_Cut stringslite_Cut tIndex
  rcases idxF_cut s with ⟨h, e⟩ | ⟨i, h, hi, e⟩
  · simp only [h, oK_s, e]
    exact ⟨_, _, rfl, fun x hx => by cases hx⟩
  · have h1 : decide ((i : Int) < 0) = false := d_f (by omega)
    have e1 : IntKind.wrap .i64 ((i : Int) + len ([47] : List UInt8)) = ((i + 1 : Nat) : Int) := i64_succ (by omega)
    simp only [h, oK_s, e, h1, Bool.not_false, bK_t, e1]
    rw [okSl_t (by omega) (by omega) (by rw [len_e]; omega), okSl_t (by omega) (by rw [len_e]; omega) (Int.le_refl _)]
    simp only [bK_t, oK_s, slc_from]
    exact ⟨_, _, rfl, fun x hx => by simpa using hx⟩
theorem pp_trim (s : List UInt8) (hs : s.length < 4611686018427387904) : strings_trimLeftByte (s, 47, ()) = some (trimL s, ()) := by
  unfold strings_trimLeftByte strings_trimLeftByte_k
  refine fix_loop (P := fun d v => v.1.length = d) (r := fun v => some (trimL v.1, ())) (fun d v rec hP ih => ?_) s.length (s, ()) kBig rfl (kBig_gt (by omega))
  obtain ⟨l, u⟩ := v
  unfold strings_trimLeftByte_l0
  cases l with
  | nil => exact rfl
  | cons b l =>
    have h1 : decide (0 < len (b :: l)) = true := d_t (by rw [len_e]; simp only [List.length_cons]; omega)
    simp only [h1, bK_t, idx_z, List.getElem?_cons_zero, oK_s, slc_one, List.drop_one, List.tail_cons]
    by_cases hb : b = 47
    · have h2 : decide (((b.toNat : Nat) : Int) = 47) = true := d_t (by subst hb; rfl)
      rw [h2, okSl_t (by omega) (by rw [len_e]; simp only [List.length_cons]; omega) (Int.le_refl _)]
      simp only [bK_t, trimL, if_pos hb]
      have hl : (b :: l).length = d := hP
      exact ih l.length _ (by simp at hl; omega) rfl
    · have h2 : decide (((b.toNat : Nat) : Int) = 47) = false := d_f fun h => hb (UInt8.toNat_inj.1 (by have : (47 : UInt8).toNat = 47 := rfl; omega))
      simp only [h2, bK_f, trimL, if_neg hb]
theorem pp_strip (s : List UInt8) (hs : s.length < 4611686018427387904) : paths_Strip (s, 1, ()) = some (strip 1 s, ()) := by
  have hk : kBig = (kBig - 2) + 1 + 1 := rfl
  have hend : ∀ (k : Nat) (y : List UInt8), paths_Strip_j0 (fixN paths_Strip_l2 (k + 1)) (s, 1, ()) (y, ()) = some (y, ()) := fun k y => by
    unfold paths_Strip_j0
    rw [show IntKind.wrap .i64 (1 - 1) = 0 from rfl, fix_s]
    exact rfl
  unfold paths_Strip paths_Strip_k
  rw [hk, fix_s]
  have hend := hend (kBig - 2)
  generalize fixN paths_Strip_l2 (kBig - 2 + 1) = rec at hend
  unfold paths_Strip_l2
  obtain ⟨b, r, hc, hr⟩ := pp_cut s hs
  simp only [d_t (show (0 : Int) < 1 by omega), bK_t, hc, oK_s]
  cases hcs : cutL s with
  | none => simp only [hcs, Option.isSome_none, Bool.not_false, bK_t, strip]
  | some x =>
    have := hr x hcs
    subst this
    have hx : r.length < s.length := cut_lt hcs
    simp only [hcs, Option.isSome_some, Bool.not_true, bK_f, strip]
    by_cases hrn : r = []
    · subst hrn
      simp only [decide_true, bK_t, join_e, paths_Strip_j1, hend, trimL]
    · simp only [d_f hrn, bK_f, join_e, paths_Strip_j1, pp_trim r (by omega), oK_s, hend]
theorem pp_parts (s : List UInt8) (hs : s.length ≤ 4294967296) : tParts (s, ()) = some (parts s, ()) := by
  unfold tParts
  simp only [d_t hs]
theorem pp_base (s : List UInt8) (hs : s.length ≤ 4294967296) (x : List UInt8) (l : List (List UInt8)) (hp : parts s = l ++ [x]) : paths_Base (s, ()) = some (x, ()) := by
  unfold paths_Base
  have hl := pcs_len s []
  have hl2 : (l ++ [x]).length ≤ s.length + 1 := by rw [← hp]; exact hl
  simp only [List.length_append, List.length_singleton] at hl2
  have h1 : decide (len (l ++ [x]) = 0) = false := d_f (by rw [len_e]; simp; omega)
  have h2 : IntKind.wrap .i64 (len (l ++ [x]) - 1) = ((l.length : Nat) : Int) := by
    rw [i64_in (by rw [len_e]; omega) (by rw [len_e]; simp; omega), len_e]; simp
  simp only [pp_parts s hs, oK_s, hp, h1, bK_f, h2, idx_app]
theorem count_cons47 (b : UInt8) (l : List UInt8) : (b :: l).count 47 = l.count 47 + (if b = 47 then 1 else 0) := by
  by_cases h : b = 47
  · subst h; simp
  · rw [if_neg h, List.count_cons_of_ne (by simpa using h)]; rfl
theorem pp_cuts (s : List UInt8) (hs : s.length ≤ 1000000) : ∃ l, ref1_Cuts (s, 47, ()) = some (l, ()) ∧ l.length = s.count 47 + 1 := by
  have key : ∀ (d i k : Nat) (l : List (List UInt8)) (f : Nat), i + d = s.length + 1 → d < k → f ≤ i → l.length ≤ i → ∃ r, fixN (ref1_Cuts_l2 (s, 47, ())) k (l, ((f : Nat) : Int), ((i : Nat) : Int), ()) = some (r, ()) ∧ r.length = l.length + (if i ≤ s.length then (s.drop i).count 47 + 1 else 0) := by
    intro d
    induction d with
    | zero =>
      intro i k l f hi hk hf hl
      obtain ⟨k, rfl⟩ : ∃ q, k = q + 1 := ⟨k - 1, by omega⟩
      rw [fix_s]
      unfold ref1_Cuts_l2
      simp only [d_t (show len s < ((i : Nat) : Int) by rw [len_e]; omega), Bool.not_true, bK_f]
      exact ⟨l, rfl, by rw [if_neg (by omega)]; rfl⟩
    | succ d ih =>
      intro i k l f hi hk hf hl
      obtain ⟨k, rfl⟩ : ∃ q, k = q + 1 := ⟨k - 1, by omega⟩
      rw [fix_s]
      generalize hrec : fixN (ref1_Cuts_l2 (s, 47, ())) k = rec at *
      have ih' : ∀ (l' : List (List UInt8)) (f' : Nat), f' ≤ i + 1 → l'.length ≤ i + 1 → ∃ r, ref1_Cuts_j0 rec (l, ((f : Nat) : Int), ((i : Nat) : Int), ()) (l', ((f' : Nat) : Int), ()) = some (r, ()) ∧ r.length = l'.length + (if i + 1 ≤ s.length then (s.drop (i + 1)).count 47 + 1 else 0) := fun l' f' h1 h2 => by
        unfold ref1_Cuts_j0
        rw [i64_succ (by omega), ← hrec]
        exact ih (i + 1) k l' f' (by omega) (by omega) h1 h2
      have cut : ref1_Cuts_j1 (s, 47, ()) rec (l, ((f : Nat) : Int), ((i : Nat) : Int), ()) (true, ()) = ref1_Cuts_j0 rec (l, ((f : Nat) : Int), ((i : Nat) : Int), ()) (l ++ [(s.drop f).take (i - f)], ((i + 1 : Nat) : Int), ()) := by
        unfold ref1_Cuts_j1
        simp only [bK_t, join_e]
        rw [okSl_t (by omega) (by omega) (by rw [len_e]; omega), fits_t (by omega) (by decide), i64_succ (by omega), slc_n]
        rfl
      unfold ref1_Cuts_l2
      simp only [d_f (show ¬ len s < ((i : Nat) : Int) by rw [len_e]; omega), Bool.not_false, bK_t, join_e]
      rw [if_pos (by omega)]
      by_cases he : i = s.length
      · simp only [d_t (show ((i : Nat) : Int) = len s by rw [len_e]; omega), bK_t]
        rw [cut]
        obtain ⟨r, h1, h2⟩ := ih' (l ++ [(s.drop f).take (i - f)]) (i + 1) (by omega) (by simp; omega)
        refine ⟨r, h1, ?_⟩
        rw [h2, if_neg (by omega), show s.drop i = [] from List.drop_of_length_le (by omega)]
        simp
      · simp only [d_f (show ¬ ((i : Nat) : Int) = len s by rw [len_e]; omega), bK_f]
        rw [idx_g (show i < s.length by omega)]
        simp only [oK_s]
        have hd := List.drop_eq_getElem_cons (show i < s.length by omega)
        rw [hd, count_cons47]
        by_cases h47 : s[i] = 47
        · have : decide (((s[i].toNat : Nat) : Int) = 47) = true := d_t (by rw [h47]; rfl)
          rw [this, cut, if_pos h47]
          obtain ⟨r, h1, h2⟩ := ih' (l ++ [(s.drop f).take (i - f)]) (i + 1) (by omega) (by simp; omega)
          refine ⟨r, h1, ?_⟩
          rw [h2, if_pos (by omega), List.length_append, List.length_singleton]
          omega
        · have : decide (((s[i].toNat : Nat) : Int) = 47) = false := d_f fun h => h47 (UInt8.toNat_inj.1 (by have : (47 : UInt8).toNat = 47 := rfl; omega))
          rw [this, if_neg h47]
          obtain ⟨r, h1, h2⟩ := ih' l f (by omega) (by omega)
          refine ⟨r, ?_, ?_⟩
          · unfold ref1_Cuts_j1
            simp only [bK_f, join_e]
            exact h1
          · rw [h2, if_pos (by omega)]
  obtain ⟨r, h1, h2⟩ := key (s.length + 1) 0 kBig [] 0 (by omega) (kBig_gt (by omega)) (Nat.le_refl _) (Nat.le_refl _)
  refine ⟨r, ?_, ?_⟩
  · unfold ref1_Cuts ref1_Cuts_k
    exact h1
  · rw [h2, if_pos (Nat.zero_le _)]; simp
theorem pp_same (a b : List (List UInt8)) (ha : a.length < 4611686018427387904) : ref1_SameTexts (a, b, ()) = some (decide (a = b), ()) := by
  unfold ref1_SameTexts ref1_SameTexts_k
  by_cases hl : a.length = b.length
  · simp only [d_t (show len a = len b by rw [len_e, len_e]; omega), Bool.not_true, bK_f]
    have key : ∀ (d i k : Nat), i + d = a.length → d < k → fixN (ref1_SameTexts_l0 (a, b, ())) k (((i : Nat) : Int), ()) = some (decide (a.drop i = b.drop i), ()) := by
      intro d
      induction d with
      | zero =>
        intro i k hi hk
        obtain ⟨k, rfl⟩ : ∃ q, k = q + 1 := ⟨k - 1, by omega⟩
        rw [fix_s]
        unfold ref1_SameTexts_l0
        simp only [d_f (show ¬ ((i : Nat) : Int) < len a by rw [len_e]; omega), bK_f]
        rw [List.drop_of_length_le (by omega), List.drop_of_length_le (by omega)]
        simp
      | succ d ih =>
        intro i k hi hk
        obtain ⟨k, rfl⟩ : ∃ q, k = q + 1 := ⟨k - 1, by omega⟩
        rw [fix_s]
        have ih := ih (i + 1) k (by omega) (by omega)
        generalize fixN (ref1_SameTexts_l0 (a, b, ())) k = rec at *
        unfold ref1_SameTexts_l0
        simp only [d_t (show ((i : Nat) : Int) < len a by rw [len_e]; omega), bK_t]
        rw [idx_g (show i < a.length by omega), idx_g (show i < b.length by omega)]
        simp only [oK_s]
        rw [List.drop_eq_getElem_cons (show i < a.length by omega), List.drop_eq_getElem_cons (show i < b.length by omega)]
        by_cases he : a[i] = b[i]
        · simp only [he, decide_true, Bool.not_true, bK_f]
          rw [i64_succ (by omega), ih]
          have : (b[i] :: a.drop (i + 1) = b[i] :: b.drop (i + 1)) ↔ a.drop (i + 1) = b.drop (i + 1) := by rw [List.cons.injEq]; exact ⟨And.right, fun h => ⟨rfl, h⟩⟩
          exact congrArg (fun b => some (b, ())) (decide_eq_decide.2 this.symm)
        · simp only [d_f he, Bool.not_false, bK_t]
          rw [d_f (fun h => he (List.cons.inj h).1)]
    exact key a.length 0 kBig (by omega) (kBig_gt (by omega))
  · simp only [d_f (show ¬ len a = len b by rw [len_e, len_e]; omega), Bool.not_false, bK_t]
    rw [d_f (fun h => hl (by rw [h]))]
/-! the string that the law builds -/
/-- items, each with so many signs behind it -/
def bld : List (List UInt8 × Nat) → List UInt8
  | [] => []
  | (t, n) :: r => t ++ (List.replicate n 47 ++ bld r)
theorem bld_append : ∀ A B : List (List UInt8 × Nat), bld (A ++ B) = bld A ++ bld B
  | [], B => rfl
  | (t, n) :: A, B => by rw [List.cons_append, bld, bld, bld_append A B]; simp
/-- items that may be: not empty, without a sign; behind each but the last at least one -/
def GoodI : List (List UInt8 × Nat) → Prop
  | [] => True
  | (t, n) :: r => t ≠ [] ∧ (47 : UInt8) ∉ t ∧ (r ≠ [] → 1 ≤ n) ∧ (r = [] → n = 0) ∧ GoodI r
theorem parts_signs : ∀ (n : Nat) (l : List UInt8), parts (List.replicate n 47 ++ l) = parts l
  | 0, l => rfl
  | n + 1, l => by
    rw [List.replicate_succ, List.cons_append]
    have ih := parts_signs n l
    unfold parts at ih ⊢
    rw [pcs, if_pos rfl, if_pos rfl, ih]
theorem parts_bld : ∀ {L : List (List UInt8 × Nat)}, GoodI L → parts (bld L) = L.map (·.1)
  | [], _ => rfl
  | (t, n) :: r, h => by
    obtain ⟨h1, h2, h3, h4, h5⟩ := h
    have ih := parts_bld h5
    have e : parts (t ++ (List.replicate n 47 ++ bld r)) = pcs t (List.replicate n 47 ++ bld r) := by
      unfold parts; rw [pcs_skip _ _ _ h2]; rfl
    rw [bld, e, List.map_cons]
    cases r with
    | nil => rw [h4 rfl]; simp [bld, pcs, h1]
    | cons x r =>
      obtain ⟨m, rfl⟩ : ∃ m, n = m + 1 := ⟨n - 1, by have := h3 (by simp); omega⟩
      rw [List.replicate_succ, List.cons_append, pcs, if_pos rfl, if_neg h1]
      have := parts_signs m (bld (x :: r))
      unfold parts at this ih
      rw [this, ih]
theorem cut_skip : ∀ (t l : List UInt8), (47 : UInt8) ∉ t → cutL (t ++ l) = cutL l
  | [], l, _ => rfl
  | b :: t, l, h => by
    have hb : b ≠ 47 := fun e => h (by simp [e])
    rw [List.cons_append, cutL, if_neg hb, cut_skip t l (fun h' => h (by simp [h']))]
theorem trim_parts : ∀ r : List UInt8, parts (trimL r) = parts r
  | [] => rfl
  | b :: r => by
    rw [trimL]
    split
    · rename_i hb
      rw [trim_parts r]
      subst hb
      unfold parts
      conv => rhs; rw [pcs]
      simp
    · rfl
theorem strip_lead {L : List (List UInt8 × Nat)} (h : GoodI L) : parts (strip 1 (47 :: bld L)) = L.map (·.1) := by
  have : strip 1 (47 :: bld L) = trimL (bld L) := rfl
  rw [this, trim_parts, parts_bld h]
theorem strip_one {t : List UInt8} {n : Nat} {r : List (List UInt8 × Nat)} (h : GoodI ((t, n) :: r)) : parts (strip 1 (bld ((t, n) :: r))) = if r = [] then [t] else r.map (·.1) := by
  obtain ⟨h1, h2, h3, h4, h5⟩ := h
  have hc : cutL (bld ((t, n) :: r)) = cutL (List.replicate n 47 ++ bld r) := cut_skip _ _ h2
  cases r with
  | nil =>
    rw [h4 rfl] at hc ⊢
    have e : strip 1 (bld [(t, 0)]) = bld [(t, 0)] := by rw [strip, hc]; rfl
    rw [e, if_pos rfl]
    exact parts_bld (L := [(t, 0)]) ⟨h1, h2, fun h => absurd rfl h, fun _ => rfl, trivial⟩
  | cons x r =>
    obtain ⟨m, rfl⟩ : ∃ m, n = m + 1 := ⟨n - 1, by have := h3 (by simp); omega⟩
    have hc' : cutL (bld ((t, m + 1) :: x :: r)) = some (List.replicate m 47 ++ bld (x :: r)) := by
      rw [hc, List.replicate_succ, List.cons_append, cutL, if_pos rfl]
    have e : strip 1 (bld ((t, m + 1) :: x :: r)) = trimL (List.replicate m 47 ++ bld (x :: r)) := by rw [strip, hc']; rfl
    rw [e, if_neg (by simp), trim_parts, parts_signs, parts_bld h5]
theorem and1 (n : Int) : IntKind.wrap .i64 (((BitVec.ofInt (IntKind.bits .i64) n) &&& (BitVec.ofInt (IntKind.bits .i64) 1)).toNat : Nat) = n % 2 := by
  have h1 : (BitVec.ofInt 64 1).toNat = 2 ^ 1 - 1 := by decide
  have key : (BitVec.ofInt 64 n &&& BitVec.ofInt 64 1).toNat = (n % ((2 ^ 64 : Nat) : Int)).toNat % 2 ^ 1 := by
    rw [BitVec.toNat_and, BitVec.toNat_ofInt, h1, Nat.and_two_pow_sub_one_eq_mod]
  show IntKind.i64.wrap ((BitVec.ofInt 64 n &&& BitVec.ofInt 64 1).toNat : Nat) = n % 2
  rw [key, i64_in (by omega) (by omega)]
  omega
def sepOf (len : Nat) (x1 : List Int) (i : Nat) : Nat := if i + 1 < len then (1 + x1.getD (i + 1) 0 % 2).toNat else 0
def itemOf (x0 : List (List UInt8)) (i : Nat) : List UInt8 := x0.getD i []
def Lf (x0 : List (List UInt8)) (x1 : List Int) (a n : Nat) : List (List UInt8 × Nat) := (List.range' a n).map fun j => (itemOf x0 j, sepOf x0.length x1 j)
theorem Lf_cons (x0 : List (List UInt8)) (x1 : List Int) (a n : Nat) : Lf x0 x1 a (n + 1) = (itemOf x0 a, sepOf x0.length x1 a) :: Lf x0 x1 (a + 1) n := by
  simp [Lf, List.range'_succ]
theorem Lf_snoc (x0 : List (List UInt8)) (x1 : List Int) (n : Nat) : Lf x0 x1 0 (n + 1) = Lf x0 x1 0 n ++ [(itemOf x0 n, sepOf x0.length x1 n)] := by
  simp [Lf, List.range'_1_concat]
theorem Lf_fst (x0 : List (List UInt8)) (x1 : List Int) : ∀ n i : Nat, i + n = x0.length → (Lf x0 x1 i n).map (·.1) = x0.drop i
  | 0, i, h => by rw [List.drop_of_length_le (by omega)]; rfl
  | n + 1, i, h => by
    rw [Lf_cons, List.map_cons, Lf_fst x0 x1 n (i + 1) (by omega), List.drop_eq_getElem_cons (show i < x0.length by omega)]
    show x0.getD i [] :: _ = _
    rw [getD_at' (show i < x0.length by omega)]
theorem Lf_good (x0 : List (List UInt8)) (x1 : List Int) (hg : ∀ j, j < x0.length → itemOf x0 j ≠ [] ∧ (47 : UInt8) ∉ itemOf x0 j) : ∀ n i : Nat, i + n = x0.length → GoodI (Lf x0 x1 i n)
  | 0, i, h => trivial
  | n + 1, i, h => by
    rw [Lf_cons]
    obtain ⟨h1, h2⟩ := hg i (by omega)
    refine ⟨h1, h2, fun hne => ?_, fun he => ?_, Lf_good x0 x1 hg n (i + 1) (by omega)⟩
    · have : n ≠ 0 := by rintro rfl; exact hne rfl
      unfold sepOf
      rw [if_pos (by omega)]
      omega
    · have : n = 0 := by
        cases n with
        | zero => rfl
        | succ n => rw [Lf_cons] at he; cases he
      unfold sepOf
      rw [if_neg (by omega)]
def lead (x1 : List Int) : List UInt8 := List.replicate (x1.getD 0 0 % 2).toNat 47
theorem signs {m : Nat} (h : m ≤ 3) : slc ([47, 47, 47] : List UInt8) 0 ((m : Nat) : Int) = List.replicate m 47 := by
  obtain h | h | h | h : m = 0 ∨ m = 1 ∨ m = 2 ∨ m = 3 := by omega
  all_goals (subst h; rfl)
section law
variable {x0 : List (List UInt8)} {x1 : List Int}
/-- The end of the loop. -/
theorem pp_end (h1 : 1 ≤ x0.length) (h20 : x0.length ≤ 20) (hlen : x0.length < x1.length) (hg : ∀ j, j < x0.length → itemOf x0 j ≠ [] ∧ (47 : UInt8) ∉ itemOf x0 j) (hs : (lead x1 ++ bld (Lf x0 x1 0 x0.length)).length ≤ 1000) (rec : ((List UInt8) × Int × Unit) → Option (Bool × Unit)) :
    law3_PathsParts_l2 (x0, x1, ()) rec (lead x1 ++ bld (Lf x0 x1 0 x0.length), ((x0.length : Nat) : Int), ()) = some (true, ()) := by
  have hG := Lf_good x0 x1 hg x0.length 0 (by omega)
  have hF : (Lf x0 x1 0 x0.length).map (·.1) = x0 := by rw [Lf_fst x0 x1 x0.length 0 (by omega)]; rfl
  obtain ⟨S, hS⟩ : ∃ S, S = lead x1 ++ bld (Lf x0 x1 0 x0.length) := ⟨_, rfl⟩
  have hP : parts S = x0 := by rw [hS, lead, parts_signs, parts_bld hG, hF]
  have hx : x1[0]? = some (x1.getD 0 0) := by simp [List.getD, show 0 < x1.length by omega]
  have hlast : x0 = x0.dropLast ++ [x0.getD (x0.length - 1) []] := by
    have hne : x0 ≠ [] := by rintro rfl; simp at h1
    conv => lhs; rw [← List.dropLast_concat_getLast hne]
    rw [List.getLast_eq_getElem, getD_at' (by omega)]
  have hidx : idx x0 (IntKind.wrap .i64 ((len x0) - 1)) = some (x0.getD (x0.length - 1) []) := by
    rw [len_e, show ((x0.length : Nat) : Int) - 1 = ((x0.length - 1 : Nat) : Int) by omega, i64_nat (by omega), idx_g (by omega), getD_at' (by omega)]
  rw [← hS] at hs ⊢
  have fin : ∀ w, parts (strip 1 S) = w → law3_PathsParts_j1 (x0, x1, ()) (S, ((x0.length : Nat) : Int), ()) (w, ()) = some (true, ()) := fun w hw => by
    have hstl : (strip 1 S).length ≤ S.length := by
      rw [strip]
      cases hc : cutL S with
      | none => exact Nat.le_refl _
      | some r =>
        have h2 := cut_lt hc
        have h3 := trim_le r
        show (trimL r).length ≤ _
        omega
    have hwl : w.length < 4611686018427387904 := by rw [← hw]; have := pcs_len (strip 1 S) []; unfold parts; omega
    unfold law3_PathsParts_j1
    simp only [pp_parts S (by omega), oK_s, hP, pp_same x0 x0 (by omega), decide_true, bK_t, pp_base S (by omega) _ _ (hP.trans hlast), hidx, pp_strip S (by omega), pp_parts (strip 1 S) (by omega), hw, pp_same w w hwl]
  unfold law3_PathsParts_l2
  simp only [d_f (show ¬ ((x0.length : Nat) : Int) < len x0 by rw [len_e]; omega), bK_f, idx_z, hx, oK_s, and1]
  by_cases hz : x1.getD 0 0 % 2 = 0
  · simp only [d_t hz, bK_t]
    rw [okSl_t (by omega) (by rw [len_e]; omega) (Int.le_refl _)]
    simp only [bK_t]
    have hS0 : S = bld (Lf x0 x1 0 x0.length) := by rw [hS, lead, hz]; rfl
    obtain ⟨n, hn⟩ : ∃ n, x0.length = n + 1 := ⟨x0.length - 1, by omega⟩
    have hone := strip_one (t := itemOf x0 0) (n := sepOf x0.length x1 0) (r := Lf x0 x1 1 n) (by rw [← Lf_cons, ← hn]; exact hG)
    rw [← Lf_cons, ← hn, ← hS0] at hone
    by_cases hl1 : x0.length = 1
    · simp only [d_t (show len x0 = 1 by rw [len_e]; omega), bK_t, join_e]
      refine fin x0 ?_
      have : n = 0 := by omega
      subst this
      rw [hone, if_pos (show Lf x0 x1 1 0 = [] from rfl)]
      have := hF
      rw [hn, Lf_cons] at this
      exact this
    · simp only [d_f (show ¬ len x0 = 1 by rw [len_e]; omega), bK_f, join_e, slc_one]
      refine fin _ ?_
      obtain ⟨m, rfl⟩ : ∃ m, n = m + 1 := ⟨n - 1, by omega⟩
      rw [hone, if_neg (by rw [Lf_cons]; simp), Lf_fst x0 x1 (m + 1) 1 (by omega)]
  · simp only [d_f hz, bK_f, join_e]
    refine fin x0 ?_
    have h12 : x1.getD 0 0 % 2 = 1 := by omega
    have hS1 : S = 47 :: bld (Lf x0 x1 0 x0.length) := by rw [hS, lead, h12]; rfl
    rw [hS1, strip_lead hG, hF]
theorem pp_loop (h1 : 1 ≤ x0.length) (h20 : x0.length ≤ 20) (hlen : x0.length < x1.length) : ∀ (d i k : Nat), i + d = x0.length → d < k → (∀ j, j < i → itemOf x0 j ≠ [] ∧ (47 : UInt8) ∉ itemOf x0 j) → (lead x1 ++ bld (Lf x0 x1 0 i)).length ≤ 1 + 22 * i →
    fixN (law3_PathsParts_l2 (x0, x1, ())) k (lead x1 ++ bld (Lf x0 x1 0 i), ((i : Nat) : Int), ()) = some (true, ()) := by
  intro d
  induction d with
  | zero =>
    intro i k hi hk hg hs
    obtain ⟨k, rfl⟩ : ∃ q, k = q + 1 := ⟨k - 1, by omega⟩
    have : i = x0.length := by omega
    subst this
    rw [fix_s]
    exact pp_end h1 h20 hlen hg (by omega) _
  | succ d ih =>
    intro i k hi hk hg hs
    obtain ⟨k, rfl⟩ : ∃ q, k = q + 1 := ⟨k - 1, by omega⟩
    rw [fix_s]
    have ih := ih (i + 1) k (by omega) (by omega)
    generalize fixN (law3_PathsParts_l2 (x0, x1, ())) k = rec at *
    obtain ⟨S, hS⟩ : ∃ S, S = lead x1 ++ bld (Lf x0 x1 0 i) := ⟨_, rfl⟩
    rw [← hS] at hs ⊢
    unfold law3_PathsParts_l2
    have hxi : idx x0 ((i : Nat) : Int) = some (itemOf x0 i) := by rw [idx_g (show i < x0.length by omega)]; unfold itemOf; rw [getD_at' (by omega)]
    simp only [d_t (show ((i : Nat) : Int) < len x0 by rw [len_e]; omega), bK_t, hxi, oK_s]
    by_cases hne : itemOf x0 i = []
    · simp only [d_t hne, bK_t]
    simp only [d_f hne, bK_f]
    by_cases hbig : 20 < (itemOf x0 i).length
    · simp only [d_t (show 20 < len (itemOf x0 i) by rw [len_e]; omega), bK_t]
    simp only [d_f (show ¬ 20 < len (itemOf x0 i) by rw [len_e]; omega), bK_f]
    obtain ⟨cl, hc1, hc2⟩ := pp_cuts (itemOf x0 i) (by omega)
    simp only [hc1, oK_s]
    by_cases h47 : (47 : UInt8) ∈ itemOf x0 i
    · have := List.count_pos_iff.2 h47
      simp only [d_f (show ¬ len cl = 1 by rw [len_e]; omega), Bool.not_false, bK_t]
    have hc0 := List.count_eq_zero.2 h47
    simp only [d_t (show len cl = 1 by rw [len_e]; omega), Bool.not_true, bK_f]
    have hg' : ∀ j, j < i + 1 → itemOf x0 j ≠ [] ∧ (47 : UInt8) ∉ itemOf x0 j := fun j hj => by
      rcases Nat.lt_or_ge j i with hj' | hj'
      · exact hg j hj'
      · have : j = i := by omega
        subst this
        exact ⟨hne, h47⟩
    have hnew : lead x1 ++ bld (Lf x0 x1 0 (i + 1)) = (S ++ itemOf x0 i) ++ List.replicate (sepOf x0.length x1 i) 47 := by
      rw [Lf_snoc, bld_append, bld, bld, hS]; simp
    have hsep : sepOf x0.length x1 i ≤ 2 := by unfold sepOf; split <;> omega
    have ih := ih hg' (by rw [hnew, List.length_append, List.length_append, List.length_replicate]; omega)
    rw [hnew] at ih
    rw [fits1 (by omega)]
    simp only [bK_t, join_e]
    rw [i64_succ (by omega)]
    by_cases hl : i + 1 < x0.length
    · have hx1 : idx x1 ((i + 1 : Nat) : Int) = some (x1.getD (i + 1) 0) := by rw [idx_g (show i + 1 < x1.length by omega)]; simp [List.getD, show i + 1 < x1.length by omega]
      have hsp : sepOf x0.length x1 i = (1 + x1.getD (i + 1) 0 % 2).toNat := by unfold sepOf; rw [if_pos hl]
      simp only [d_t (show ((i + 1 : Nat) : Int) < len x0 by rw [len_e]; omega), bK_t, hx1, oK_s, and1]
      have hw : IntKind.wrap .i64 (1 + x1.getD (i + 1) 0 % 2) = ((sepOf x0.length x1 i : Nat) : Int) := by rw [i64_in (by omega) (by omega), hsp]; omega
      rw [hw, okSl_t (by omega) (by omega) (by omega), signs (by omega)]
      simp only [bK_t]
      rw [fits1 (by rw [List.length_append, List.length_replicate]; omega)]
      simp only [bK_t]
      unfold law3_PathsParts_j0
      rw [i64_succ (by omega)]
      exact ih
    · have hsp : sepOf x0.length x1 i = 0 := by unfold sepOf; rw [if_neg hl]
      simp only [d_f (show ¬ ((i + 1 : Nat) : Int) < len x0 by rw [len_e]; omega), bK_f]
      unfold law3_PathsParts_j0
      rw [i64_succ (by omega)]
      rw [hsp, List.replicate_zero, List.append_nil] at ih
      exact ih
end law
theorem pathsParts_pure (x0 : List (List UInt8)) (x1 : List Int) : law3_PathsParts (x0, x1, ()) = some (true, ()) := by
  unfold law3_PathsParts law3_PathsParts_k
  simp only [pp_alive, oK_s, Bool.not_true, bK_f]
  have out : ∀ r0 : Bool × Unit, r0.1 = true → law3_PathsParts_j3 (x0, x1, ()) r0 kBig (true, ()) = some (true, ()) := fun r0 h => by
    unfold law3_PathsParts_j3
    simp only [bK_t, h]
  by_cases h1 : x0.length < 1
  · simp only [d_t (show len x0 < 1 by rw [len_e]; omega), bK_t, join_e]
    exact out _ rfl
  simp only [d_f (show ¬ len x0 < 1 by rw [len_e]; omega), bK_f, join_e]
  by_cases h20 : 20 < x0.length
  · simp only [d_t (show 20 < len x0 by rw [len_e]; omega), bK_t, join_e]
    exact out _ rfl
  simp only [d_f (show ¬ 20 < len x0 by rw [len_e]; omega), bK_f, join_e]
  by_cases hl : x0.length < x1.length
  · simp only [d_t (show len x0 < len x1 by rw [len_e, len_e]; omega), Bool.not_true]
    unfold law3_PathsParts_j3
    have hx : x1[0]? = some (x1.getD 0 0) := by simp [List.getD, show 0 < x1.length by omega]
    simp only [bK_f, idx_z, hx, oK_s, and1]
    rw [okSl_t (by omega) (by omega) (by omega)]
    simp only [bK_t]
    have hsg : slc ([47, 47, 47] : List UInt8) 0 (x1.getD 0 0 % 2) = lead x1 ++ bld (Lf x0 x1 0 0) := by
      have := signs (m := (x1.getD 0 0 % 2).toNat) (by omega)
      rw [show (((x1.getD 0 0 % 2).toNat : Nat) : Int) = x1.getD 0 0 % 2 by omega] at this
      rw [this]; simp [lead, Lf, bld]
    rw [hsg]
    refine pp_loop (by omega) (by omega) hl x0.length 0 kBig (by omega) (kBig_gt (by omega)) (fun j hj => by omega) ?_
    simp [lead, Lf, bld]
    omega
  · simp only [d_f (show ¬ len x0 < len x1 by rw [len_e, len_e]; omega), Bool.not_false]
    exact out _ rfl
end Go.Proofs.YthngeddaeoeimaaDoorTE
