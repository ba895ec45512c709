/- The document's own glob, place by place: which places of the name the parts so far may have come to. -/
import Derived.Test.YtahfoeichmfloaaGlobR
namespace Go.Proofs.Ytahfoeichmfloaa.GlobT
set_option linter.unusedSimpArgs false
set_option linter.unusedVariables false
set_option linter.unusedSectionVars false
open Go.RowKit Go.Proofs.YtahfoeichmfloaaW.PrintWords Go.Proofs.YtahfoeichmfloaaW.PrintLast Go.Proofs.Ytahfoeichmfloaa.Gl Go.Proofs.Ytahfoeichmfloaa.GlobM Go.Proofs.Ytahfoeichmfloaa.GlobP Go.Proofs.Ytahfoeichmfloaa.GlobA Go.Proofs.Ytahfoeichmfloaa.GlobR

/-- a row told place by place -/
def row (N : Nat) (f : Nat → Bool) : List Bool := (List.range (N + 1)).map f
theorem row_len (N : Nat) (f : Nat → Bool) : (row N f).length = N + 1 := by simp [row]
theorem row_get (N : Nat) (f : Nat → Bool) (j : Nat) (h : j ≤ N) : rdOf false (row N f) (j : Int) = f j := by
  unfold rdOf row
  rw [Int.toNat_natCast, List.getD_eq_getElem?_getD, List.getElem?_map, List.getElem?_range (by omega)]
  rfl
theorem row_set (N : Nat) (f : Nat → Bool) (j : Nat) (v : Bool) : (row N f).set j v = row N (fun t => if t = j then v else f t) := by
  unfold row
  refine List.ext_getElem (by simp) ?_
  intro i h1 h2
  simp only [List.getElem_set, List.getElem_map, List.getElem_range]
  by_cases h : j = i
  · subst h; simp
  · rw [if_neg h, if_neg (fun e => h e.symm)]
theorem row_congr {N : Nat} {f g : Nat → Bool} (h : ∀ t, t ≤ N → f t = g t) : row N f = row N g := by
  unfold row
  refine List.map_congr_left ?_
  intro t ht
  rw [List.mem_range] at ht
  exact h t (by omega)
theorem row_false (N : Nat) : List.replicate (N + 1) false = row N (fun _ => false) := by
  unfold row
  refine List.ext_getElem (by simp) ?_
  intro i h1 h2
  simp

/-- behind a star -/
def starR (L : List Int) (h : Nat → Bool) : Nat → Bool
  | 0 => h 0
  | t + 1 => h (t + 1) || (starR L h t && (L[t]?).getD 0 != 47)
/-- behind one byte -/
def oneR (L : List Int) (ok : Int → Bool) (h : Nat → Bool) : Nat → Bool
  | 0 => false
  | t + 1 => h t && ok ((L[t]?).getD 0)

/-- the parts to come take what is left from some place -/
def Left (L : List Int) (h : Nat → Bool) (is : List Part) : Prop := ∃ j, j ≤ L.length ∧ h j = true ∧ M is (L.drop j) = true

theorem starR_iff (L : List Int) (h : Nat → Bool) (t : Nat) (ht : t ≤ L.length) : starR L h t = true ↔ ∃ s, s ≤ t ∧ h s = true ∧ ∀ j, s ≤ j → j < t → L[j]? ≠ some 47 := by
  induction t with
  | zero =>
    simp only [starR]
    constructor
    · intro h0; exact ⟨0, Nat.le_refl _, h0, fun j h1 h2 => by omega⟩
    · rintro ⟨s, hs, h0, _⟩
      obtain rfl : s = 0 := by omega
      exact h0
  | succ t ih =>
    simp only [starR, Bool.or_eq_true, Bool.and_eq_true, bne_iff_ne]
    rw [ih (by omega)]
    have hlt : t < L.length := by omega
    constructor
    · rintro (h0 | ⟨⟨s, hs, h0, hn⟩, h1⟩)
      · exact ⟨t + 1, Nat.le_refl _, h0, fun j h1 h2 => by omega⟩
      · refine ⟨s, by omega, h0, fun j hj1 hj2 => ?_⟩
        by_cases e : j = t
        · subst e
          intro e'
          rw [e'] at h1
          exact h1 rfl
        · exact hn j hj1 (by omega)
    · rintro ⟨s, hs, h0, hn⟩
      by_cases e : s = t + 1
      · subst e; exact .inl h0
      · refine .inr ⟨⟨s, by omega, h0, fun j hj1 hj2 => hn j hj1 (by omega)⟩, ?_⟩
        have := hn t (by omega) (by omega)
        rw [List.getElem?_eq_getElem hlt] at this ⊢
        intro e'
        exact this (congrArg some e')

theorem left_star (L : List Int) (h : Nat → Bool) (is : List Part) : Left L h (.star :: is) ↔ Left L (starR L h) is := by
  constructor
  · rintro ⟨j, hj, hh, hm⟩
    obtain ⟨t, ht, hn, hm⟩ := (starM_iff _ _).1 hm
    rw [List.length_drop] at ht
    refine ⟨j + t, by omega, (starR_iff L h (j + t) (by omega)).2 ⟨j, by omega, hh, ?_⟩, by rw [← List.drop_drop]; exact hm⟩
    intro i h1 h2
    have := hn (i - j) (by omega)
    rw [List.getElem?_drop, show j + (i - j) = i by omega] at this
    exact this
  · rintro ⟨t, ht, hs, hm⟩
    obtain ⟨s, hst, hh, hn⟩ := (starR_iff L h t ht).1 hs
    refine ⟨s, by omega, hh, (starM_iff _ _).2 ⟨t - s, by rw [List.length_drop]; omega, ?_, by rw [List.drop_drop, show s + (t - s) = t by omega]; exact hm⟩⟩
    intro j hj
    rw [List.getElem?_drop]
    exact hn (s + j) (by omega) (by omega)

theorem left_one (L : List Int) (ok : Int → Bool) (h : Nat → Bool) (is : List Part) : Left L h (.one ok :: is) ↔ Left L (oneR L ok h) is := by
  constructor
  · rintro ⟨j, hj, hh, hm⟩
    rcases Nat.lt_or_ge j L.length with hlt | hge
    · rw [List.drop_eq_getElem_cons hlt, M_one_cons, Bool.and_eq_true] at hm
      refine ⟨j + 1, hlt, ?_, hm.2⟩
      simp only [oneR]
      rw [hh, List.getElem?_eq_getElem hlt]
      simpa using hm.1
    · rw [List.drop_eq_nil_iff.2 hge, M_one_nil] at hm
      cases hm
  · rintro ⟨t, ht, hs, hm⟩
    cases t with
    | zero => simp only [oneR] at hs; cases hs
    | succ t =>
      simp only [oneR, Bool.and_eq_true] at hs
      have hlt : t < L.length := by omega
      refine ⟨t, by omega, hs.1, ?_⟩
      rw [List.drop_eq_getElem_cons hlt, M_one_cons, Bool.and_eq_true]
      rw [List.getElem?_eq_getElem hlt] at hs
      exact ⟨by simpa using hs.2, hm⟩

theorem left_nil (L : List Int) (h : Nat → Bool) : Left L h [] ↔ h L.length = true := by
  constructor
  · rintro ⟨j, hj, hh, hm⟩
    rw [M_nil, decide_eq_true_iff, List.drop_eq_nil_iff] at hm
    obtain rfl : j = L.length := by omega
    exact hh
  · intro hh
    exact ⟨L.length, Nat.le_refl _, hh, by rw [M_nil, List.drop_length]; rfl⟩

section
variable (p n : ByteArray) (hp : p.size ≤ 1000000) (hn : n.size ≤ 1000000)
include hp hn

/-- a star: the row is filled from the left -/
theorem star_l1 (i e : Nat) (hi : i < p.size) (h42 : bt p i = 42) (h : Nat → Bool) (x9 : List S63) (x10 x11 : Bool) (x12 : Int) (r : Bool)
    (K : Ev (fun k => patchworkref1_Glob.l0 k p n (row n.size (starR (lst n) h)) (e : Int)) r) :
    ∀ (d j : Nat), n.size + 1 - j = d → j ≤ n.size + 1 → Ev (fun k => patchworkref1_Glob.l1 k p n (row n.size h) i (row n.size (fun t => if t < j then starR (lst n) h t else false)) e x9 x10 x11 x12 j) r := by
  intro d
  induction d with
  | zero =>
    intro j hd hj
    have hj : j = n.size + 1 := by omega
    subst hj
    refine Ev.step (fun k => by simp only [patchworkref1_Glob.l1]; exact rfl) ?_
    simp only [if_neg (show ¬ ((n.size + 1 : Nat) : Int) ≤ (n.size : Int) by omega)]
    rw [row_congr (g := starR (lst n) h) (fun t ht => if_pos (by omega))]
    exact K
  | succ d ih =>
    intro j hd hj
    have hlt : j ≤ n.size := by omega
    have e1 : wrap64 ((j : Int) + 1) = ((j + 1 : Nat) : Int) := wn _ (by omega)
    refine Ev.step (fun k => by simp only [patchworkref1_Glob.l1]; exact rfl) ?_
    simp only [e1, if_pos (show (j : Int) ≤ (n.size : Int) by omega), if_pos (show (0 : Int) ≤ (i : Int) by omega), if_pos (show (i : Int) < (p.size : Int) by omega), if_pos h42, if_pos (show (0 : Int) ≤ (j : Int) by omega), row_len,
      if_pos (show (j : Int) < ((n.size + 1 : Nat) : Int) by omega), row_get _ _ _ hlt, Nat.lt_irrefl, if_false, Bool.false_eq_true, Int.toNat_natCast, row_set]
    have go : ∀ v : Bool, v = starR (lst n) h j → Ev (fun k => patchworkref1_Glob.l1 k p n (row n.size h) i (row n.size (fun t => if t = j then v else if t < j then starR (lst n) h t else false)) e x9 x10 x11 x12 ((j + 1 : Nat) : Int)) r := by
      intro v hv
      have := ih (j + 1) (by omega) (by omega)
      rw [row_congr (f := fun t => if t = j then v else if t < j then starR (lst n) h t else false) (g := fun t => if t < j + 1 then starR (lst n) h t else false) (fun t ht => ?_)]
      · exact this
      · by_cases e : t = j
        · subst e; rw [if_pos rfl, if_pos (by omega), hv]
        · rw [if_neg e]
          by_cases e' : t < j
          · rw [if_pos e', if_pos (by omega)]
          · rw [if_neg e', if_neg (by omega)]
    cases hh : h j with
    | true =>
      simp only [if_true]
      refine go true ?_
      cases j with
      | zero => simp only [starR, hh]
      | succ j => simp only [starR, hh, Bool.true_or]
    | false =>
      simp only [Bool.false_eq_true, if_false]
      cases j with
      | zero =>
        simp only [if_neg (show ¬ ((0 : Nat) : Int) > 0 by omega)]
        exact go false (by simp only [starR, hh])
      | succ j =>
        have e2 : wrap64 (((j + 1 : Nat) : Int) - 1) = (j : Int) := by rw [w64 (by omega) (by omega)]; omega
        simp only [if_pos (show ((j + 1 : Nat) : Int) > 0 by omega), e2, if_pos (show (0 : Int) ≤ (j : Int) by omega), if_pos (show (j : Int) < ((n.size + 1 : Nat) : Int) by omega), row_get n.size _ j (by omega), if_pos (show j < j + 1 by omega), if_pos (show (j : Int) < (n.size : Int) by omega)]
        have eL : ((lst n)[j]?).getD 0 = bt n j := by rw [lst_at n j (by omega)]; rfl
        cases hs : starR (lst n) h j with
        | true =>
          simp only [if_true]
          exact go _ (by simp only [starR, hh, hs, Bool.true_and, Bool.false_or, eL])
        | false =>
          simp only [Bool.false_eq_true, if_false]
          exact go false (by simp only [starR, hh, hs, Bool.false_and, Bool.false_or])

/-- one byte: each place a step on -/
theorem one_l1 (i e : Nat) (hi : i < p.size) (h42 : bt p i ≠ 42) (h : Nat → Bool) (x9 : List S63) (x10 x11 : Bool) (x12 : Int) (ok : Int → Bool) (r : Bool) (h9 : x9.length ≤ 1000000)
    (hq : bt p i = 63 → ∀ c, ok c = (c != 47)) (hs : bt p i ≠ 63 → x11 = true → ∀ c, ok c = ((x9.any (memOk · c) != x10) && c != 47)) (hb : bt p i ≠ 63 → x11 = false → ∀ c, ok c = (c == x12))
    (K : Ev (fun k => patchworkref1_Glob.l0 k p n (row n.size (oneR (lst n) ok h)) (e : Int)) r) :
    ∀ (d j : Nat), n.size + 1 - j = d → j ≤ n.size + 1 → Ev (fun k => patchworkref1_Glob.l1 k p n (row n.size h) i (row n.size (fun t => if t ≤ j then oneR (lst n) ok h t else false)) e x9 x10 x11 x12 j) r := by
  intro d
  induction d with
  | zero =>
    intro j hd hj
    have hj : j = n.size + 1 := by omega
    subst hj
    refine Ev.step (fun k => by simp only [patchworkref1_Glob.l1]; exact rfl) ?_
    simp only [if_neg (show ¬ ((n.size + 1 : Nat) : Int) ≤ (n.size : Int) by omega)]
    rw [row_congr (g := oneR (lst n) ok h) (fun t ht => if_pos (by omega))]
    exact K
  | succ d ih =>
    intro j hd hj
    have hlt : j ≤ n.size := by omega
    have e1 : wrap64 ((j : Int) + 1) = ((j + 1 : Nat) : Int) := wn _ (by omega)
    refine Ev.step (fun k => by simp only [patchworkref1_Glob.l1]; exact rfl) ?_
    simp only [if_pos (show (j : Int) ≤ (n.size : Int) by omega), if_pos (show (0 : Int) ≤ (i : Int) by omega), if_pos (show (i : Int) < (p.size : Int) by omega), if_neg h42, if_pos (show (0 : Int) ≤ (j : Int) by omega), row_len,
      if_pos (show (j : Int) < ((n.size + 1 : Nat) : Int) by omega), row_get _ _ _ hlt]
    have skip : (j < n.size → h j = false) → Ev (fun k => patchworkref1_Glob.j5 k p n (row n.size h) i (row n.size (fun t => if t ≤ j then oneR (lst n) ok h t else false)) e x9 x10 x11 x12 j true) r := by
      intro hskip
      refine Ev.step (fun k => by simp only [patchworkref1_Glob.j5]; exact rfl) ?_
      simp only [if_true, e1]
      have := ih (j + 1) (by omega) (by omega)
      rw [row_congr (f := fun t => if t ≤ j then oneR (lst n) ok h t else false) (g := fun t => if t ≤ j + 1 then oneR (lst n) ok h t else false) (fun t ht => ?_)]
      · exact this
      · by_cases e' : t ≤ j
        · rw [if_pos e', if_pos (by omega)]
        · rw [if_neg e']
          by_cases e'' : t = j + 1
          · subst e''
            rw [if_pos (Nat.le_refl _)]
            simp only [oneR]
            rw [hskip (by omega), Bool.false_and]
          · rw [if_neg (by omega)]
    by_cases hje : j = n.size
    · simp only [if_pos (show (j : Int) = (n.size : Int) by omega)]
      exact skip (fun h => by omega)
    · have hjn : j < n.size := by omega
      simp only [if_neg (show ¬ (j : Int) = (n.size : Int) by omega)]
      cases hh : h j with
      | false => simp only [Bool.not_false]; exact skip (fun _ => hh)
      | true =>
        simp only [Bool.not_true]
        refine Ev.step (fun k => by simp only [patchworkref1_Glob.j5]; exact rfl) ?_
        simp only [Bool.false_eq_true, if_false, e1, if_pos (show (0 : Int) ≤ (i : Int) by omega), if_pos (show (i : Int) < (p.size : Int) by omega), if_pos (show (0 : Int) ≤ (j : Int) by omega), if_pos (show (j : Int) < (n.size : Int) by omega), if_pos (show (0 : Int) ≤ ((j + 1 : Nat) : Int) by omega), row_len,
          if_pos (show ((j + 1 : Nat) : Int) < ((n.size + 1 : Nat) : Int) by omega), Int.toNat_natCast, row_set]
        have eL : ((lst n)[j]?).getD 0 = bt n j := by rw [lst_at n j (by omega)]; rfl
        have go : ∀ v : Bool, v = ok (bt n j) → Ev (fun k => patchworkref1_Glob.l1 k p n (row n.size h) i (row n.size (fun t => if t = j + 1 then v else if t ≤ j then oneR (lst n) ok h t else false)) e x9 x10 x11 x12 ((j + 1 : Nat) : Int)) r := by
          intro v hv
          have := ih (j + 1) (by omega) (by omega)
          rw [row_congr (f := fun t => if t = j + 1 then v else if t ≤ j then oneR (lst n) ok h t else false) (g := fun t => if t ≤ j + 1 then oneR (lst n) ok h t else false) (fun t ht => ?_)]
          · exact this
          · by_cases e' : t = j + 1
            · subst e'
              rw [if_pos rfl, if_pos (Nat.le_refl _), hv]
              simp only [oneR]
              rw [hh, eL, Bool.true_and]
            · rw [if_neg e']
              by_cases e'' : t ≤ j
              · rw [if_pos e'', if_pos (by omega)]
              · rw [if_neg e'', if_neg (by omega)]
        by_cases g1 : bt p i = 63
        · simp only [if_pos g1]
          exact go _ (hq g1 _).symm
        · simp only [if_neg g1]
          cases x11 with
          | true =>
            simp only [if_true]
            by_cases g2 : bt n j = 47
            · simp only [if_pos g2]
              exact go _ (by rw [hs g1 rfl, g2]; simp)
            · simp only [if_neg g2]
              have hin := inside_ev x9 (bt n j) (bt_pos n j) h9 _ 0 rfl (Nat.zero_le _)
              rw [List.drop_zero] at hin
              have hin' : Ev (fun k => patchworkref1_inside.f k x9 (bt n j)) (x9.any (memOk · (bt n j))) := by simp only [patchworkref1_inside.f]; exact hin
              refine Ev.bind hin' ?_
              refine go _ ?_
              rw [hs g1 rfl, bne_iff_ne.2 g2, Bool.and_true]
          | false =>
            simp only [Bool.false_eq_true, if_false]
            exact go _ (hb g1 rfl _).symm

theorem glob_l0 : ∀ {i : Nat} {is : List Part}, Parse p i is → ∀ (h : Nat → Bool) (r : Bool), (r = true ↔ Left (lst n) h is) → Ev (fun k => patchworkref1_Glob.l0 k p n (row n.size h) i) r := by
  intro i is hP
  have ez : wrap64 ((n.size : Int) + 1) = ((n.size + 1 : Nat) : Int) := wn _ (by omega)
  induction hP with
  | done =>
    intro h r hr
    refine Ev.step (fun k => by simp only [patchworkref1_Glob.l0]; exact rfl) ?_
    simp only [if_neg (show ¬ (p.size : Int) < (p.size : Int) by omega), if_pos (show (0 : Int) ≤ (n.size : Int) by omega), row_len, if_pos (show (n.size : Int) < ((n.size + 1 : Nat) : Int) by omega), row_get n.size h n.size (Nat.le_refl _)]
    rw [left_nil, lst_len] at hr
    have : h n.size = r := by rw [Bool.eq_iff_iff]; exact hr.symm
    rw [this]
    exact Ev.now _
  | @star i is hi h42 _ ih =>
    intro h r hr
    have e1 : wrap64 ((i : Int) + 1) = ((i + 1 : Nat) : Int) := wn _ (by omega)
    refine Ev.step (fun k => by simp only [patchworkref1_Glob.l0]; exact rfl) ?_
    simp only [if_pos (show (i : Int) < (p.size : Int) by omega), ez, e1, Int.toNat_natCast, if_pos (show (0 : Int) ≤ ((n.size + 1 : Nat) : Int) by omega), if_pos (show n.size + 1 ≤ 281474976710656 by omega), row_false, if_pos (show (0 : Int) ≤ (i : Int) by omega), if_neg (show ¬ bt p i = 91 by rw [h42]; decide)]
    refine Ev.bindS rfl ?_
    refine Ev.step (fun k => by simp only [patchworkref1_Glob.j1]; exact rfl) ?_
    simp only [if_pos (show (0 : Int) ≤ (i : Int) by omega), if_pos (show (i : Int) < (p.size : Int) by omega), if_neg (show ¬ bt p i = 92 by rw [h42]; decide)]
    refine Ev.step (fun k => by simp only [patchworkref1_Glob.j2]; exact rfl) ?_
    simp only [Bool.false_eq_true, if_false]
    refine Ev.step (fun k => by simp only [patchworkref1_Glob.j3]; exact rfl) ?_
    have := star_l1 p n hp hn i (i + 1) hi h42 h [] false false (bt p i) r (ih _ r (by rw [hr, left_star])) _ 0 rfl (by omega)
    rw [row_congr (f := fun t => if t < 0 then starR (lst n) h t else false) (g := fun _ => false) (fun t ht => if_neg (by omega))] at this
    exact this
  | @one i is hi h42 hP' ih =>
    intro h r hr
    have e1 : wrap64 ((i : Int) + 1) = ((i + 1 : Nat) : Int) := wn _ (by omega)
    have K := ih (oneR (lst n) (elemS p i).1 h) r (by rw [hr, left_one])
    refine Ev.step (fun k => by simp only [patchworkref1_Glob.l0]; exact rfl) ?_
    simp only [if_pos (show (i : Int) < (p.size : Int) by omega), ez, e1, Int.toNat_natCast, if_pos (show (0 : Int) ≤ ((n.size + 1 : Nat) : Int) by omega), if_pos (show n.size + 1 ≤ 281474976710656 by omega), row_false, if_pos (show (0 : Int) ≤ (i : Int) by omega)]
    refine Ev.bindS rfl ?_
    -- from the byte on, when the set has been read
    have last : ∀ (x9 : List S63) (x10 x11 : Bool) (x12 : Int), x9.length ≤ 1000000 → (bt p i = 63 → ∀ c, (elemS p i).1 c = (c != 47)) → (bt p i ≠ 63 → x11 = true → ∀ c, (elemS p i).1 c = ((x9.any (memOk · c) != x10) && c != 47)) → (bt p i ≠ 63 → x11 = false → ∀ c, (elemS p i).1 c = (c == x12)) →
        Ev (fun k => patchworkref1_Glob.j3 k p n (row n.size h) i (row n.size (fun _ => false)) ((elemS p i).2 : Nat) x9 x10 x11 x12) r := by
      intro x9 x10 x11 x12 h9 hq hs hb
      refine Ev.step (fun k => by simp only [patchworkref1_Glob.j3]; exact rfl) ?_
      have := one_l1 p n hp hn i (elemS p i).2 hi h42 h x9 x10 x11 x12 (elemS p i).1 r h9 hq hs hb K _ 0 rfl (by omega)
      rw [row_congr (f := fun t => if t ≤ 0 then oneR (lst n) (elemS p i).1 h t else false) (g := fun _ => false) (fun t ht => ?_)] at this
      · exact this
      · by_cases e : t ≤ 0
        · obtain rfl : t = 0 := by omega
          rw [if_pos e]; rfl
        · rw [if_neg e]
    have nob : bt p i ≠ 92 → ∀ (x9 : List S63) (x10 x11 : Bool), Ev (fun k => patchworkref1_Glob.j3 k p n (row n.size h) i (row n.size (fun _ => false)) ((elemS p i).2 : Nat) x9 x10 x11 (bt p i)) r →
        Ev (fun k => patchworkref1_Glob.j1 k p n (row n.size h) i (row n.size (fun _ => false)) ((elemS p i).2 : Nat) x9 x10 x11) r := by
      intro hnb x9 x10 x11 H
      refine Ev.step (fun k => by simp only [patchworkref1_Glob.j1]; exact rfl) ?_
      simp only [if_pos (show (0 : Int) ≤ (i : Int) by omega), if_pos (show (i : Int) < (p.size : Int) by omega), if_neg hnb]
      refine Ev.step (fun k => by simp only [patchworkref1_Glob.j2]; exact rfl) ?_
      simp only [Bool.false_eq_true, if_false]
      exact H
    by_cases g1 : bt p i = 91
    · simp only [if_pos g1]
      have hnb : bt p i ≠ 92 := by rw [g1]; decide
      have hn63 : bt p i ≠ 63 := by rw [g1]; decide
      have hse := set_ev p i hi hp
      cases hS : setS p i with
      | none =>
        have he : elemS p i = (fun c => c == 91, i + 1) := by unfold elemS; rw [if_neg hn63, if_pos g1, hS]
        refine Ev.bind (hse.1 hS) ?_
        simp only [Bool.false_eq_true, if_false]
        have := nob hnb [] false false (last [] false false (bt p i) (by simp) (fun h => absurd h hn63) (fun _ h => by cases h) (fun _ _ c => by rw [he, g1]))
        rw [he] at this
        exact this
      | some ge =>
        obtain ⟨g, e⟩ := ge
        have he : elemS p i = (fun c => (g c != setNot p i) && c != 47, e) := by unfold elemS; rw [if_neg hn63, if_pos g1, hS]
        have heb := elemS_bd p i hi
        rw [he] at heb
        obtain ⟨l', h1, h2, h3⟩ := hse.2 g e hS
        refine Ev.bind h2 ?_
        simp only [if_true]
        have := nob hnb l' (setNot p i) true (last l' (setNot p i) true (bt p i) (by simp only at heb; omega) (fun h => absurd h hn63) (fun _ _ c => by rw [he, ← h3 c]) (fun _ h => by cases h))
        rw [he] at this
        exact this
    · simp only [if_neg g1]
      by_cases g63 : bt p i = 63
      · have he : elemS p i = (fun c => c != 47, i + 1) := by unfold elemS; rw [if_pos g63]
        have := nob (by rw [g63]; decide) [] false false (last [] false false (bt p i) (by simp) (fun _ c => by rw [he]) (fun h => absurd g63 h) (fun h => absurd g63 h))
        rw [he] at this
        exact this
      · have he : elemS p i = (fun c => (sgn p i).1 == c, (sgn p i).2) := by unfold elemS; rw [if_neg g63, if_neg g1]
        by_cases g92 : bt p i = 92
        · refine Ev.step (fun k => by simp only [patchworkref1_Glob.j1]; exact rfl) ?_
          simp only [if_pos (show (0 : Int) ≤ (i : Int) by omega), if_pos (show (i : Int) < (p.size : Int) by omega), if_pos g92, e1]
          refine Ev.step (fun k => by simp only [patchworkref1_Glob.j2]; exact rfl) ?_
          by_cases g2 : i + 1 < p.size
          · rw [decide_eq_true (show ((i + 1 : Nat) : Int) < (p.size : Int) by omega)]
            have e2 : wrap64 ((i : Int) + 2) = ((i + 2 : Nat) : Int) := by rw [w64 (by omega) (by omega)]; omega
            simp only [if_true, e1, e2, if_pos (show (0 : Int) ≤ ((i + 1 : Nat) : Int) by omega), if_pos (show ((i + 1 : Nat) : Int) < (p.size : Int) by omega)]
            have hs : sgn p i = (bt p (i + 1 : Nat), i + 2) := by unfold sgn; rw [if_pos ⟨g92, g2⟩]
            have := last [] false false (bt p (i + 1 : Nat)) (by simp) (fun h => absurd h g63) (fun _ h => by cases h) (fun _ _ c => by rw [he, hs]; exact Bool.beq_comm)
            rw [he, hs] at this
            exact this
          · rw [decide_eq_false (show ¬ ((i + 1 : Nat) : Int) < (p.size : Int) by omega)]
            simp only [Bool.false_eq_true, if_false]
            have hs : sgn p i = (bt p i, i + 1) := by unfold sgn; rw [if_neg (fun h => g2 h.2)]
            have := last [] false false (bt p i) (by simp) (fun h => absurd h g63) (fun _ h => by cases h) (fun _ _ c => by rw [he, hs]; exact Bool.beq_comm)
            rw [he, hs] at this
            exact this
        · have hs : sgn p i = (bt p i, i + 1) := by unfold sgn; rw [if_neg (fun h => g92 h.1)]
          have := nob g92 [] false false (last [] false false (bt p i) (by simp) (fun h => absurd h g63) (fun _ h => by cases h) (fun _ _ c => by rw [he, hs]; exact Bool.beq_comm))
          rw [he, hs] at this
          exact this

/-- WHAT THE DOCUMENT's GLOB ANSWERS -/
theorem glob_ev (is : List Part) (h : Parse p 0 is) : Ev (fun k => patchworkref1_Glob.f k p n) (M is (lst n)) := by
  have ez : wrap64 ((n.size : Int) + 1) = ((n.size + 1 : Nat) : Int) := wn _ (by omega)
  simp only [patchworkref1_Glob.f, ez, Int.toNat_natCast, if_pos (show (0 : Int) ≤ ((n.size + 1 : Nat) : Int) by omega), if_pos (show n.size + 1 ≤ 281474976710656 by omega), row_false]
  refine Ev.bindS rfl ?_
  simp only [row_len, if_pos (show (0 : Int) < ((n.size + 1 : Nat) : Int) by omega)]
  rw [show (row n.size fun _ => false).set ((0 : Int)).toNat true = row n.size (fun t => if t = 0 then true else false) from row_set _ _ 0 _]
  refine glob_l0 p n hp hn h _ _ ?_
  constructor
  · intro hm
    exact ⟨0, Nat.zero_le _, rfl, by simpa using hm⟩
  · rintro ⟨j, hj, hh, hm⟩
    by_cases e : j = 0
    · subst e; simpa using hm
    · simp only [if_neg e] at hh; cases hh
end

end Go.Proofs.Ytahfoeichmfloaa.GlobT
