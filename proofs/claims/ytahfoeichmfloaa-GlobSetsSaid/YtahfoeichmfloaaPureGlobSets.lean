/- A set of bytes takes one byte, just if it is one of them, or none of them, but never a sign: the plain statement of GlobSets; no condition. -/
import Derived.Test.YtahfoeichmfloaaGlx10
import Derived.Test.YtahfoeichmfloaaGlobA
import Derived.OpenShut
namespace Go.Proofs.Ytahfoeichmfloaa.Pure
set_option linter.unusedSimpArgs false
set_option linter.unusedVariables false
open Go.RowKit Go.Proofs.YtahfoeichmfloaaW.PrintWords Go.Proofs.YtahfoeichmfloaaW.PrintLast Go.Proofs.Ytahfoeichmfloaa.Gl Go.Proofs.Ytahfoeichmfloaa.GlobM Go.Proofs.Ytahfoeichmfloaa.GlobP Go.Proofs.Ytahfoeichmfloaa.GlobA

def B (x : Int) : Prop := 0 ≤ x ∧ x ≤ 255
theorem wfB {x : Int} (h : (Lit.int .u8 x).wf = true) : B x := Go.bounds_u8 h
theorem lst_nums : ∀ {xs : List Int}, (∀ x ∈ xs, B x) → lst (strOfNums xs) = xs := by
  intro xs h
  unfold lst
  rw [strOfNums_data, List.map_map]
  refine (List.map_congr_left (fun x hx => ?_)).trans (List.map_id xs)
  have := h x hx
  simp only [Function.comp, id]
  unfold B at this
  rw [UInt8.toNat_ofNat']
  omega

theorem namedS_other {p : ByteArray} {i : Nat} {x : Int} {r : List Int} (h : (lst p).drop i = x :: r) (hx : x ≠ 91) : namedS (p.data.toList.drop i) = none := by
  unfold lst at h
  rw [← List.map_drop] at h
  cases hd : p.data.toList.drop i with
  | nil => rfl
  | cons b t =>
    rw [hd, List.map_cons, List.cons.injEq] at h
    have hb : b ≠ 91 := by
      intro e
      subst e
      exact hx h.1.symm
    unfold namedS
    rw [if_neg]
    unfold Lib.hasPrefix
    simp only [List.isPrefixOf, Bool.and_eq_true, beq_iff_eq]
    exact fun h => hb h.1.symm

theorem memb_esc {p : ByteArray} {i : Nat} {x y : Int} {r : List Int} (h : (lst p).drop i = 92 :: x :: y :: r) (hy : y ≠ 45) : memb p i = (fun c => decide (x ≤ c) && decide (c ≤ x), i + 2) := by
  have hd1 : (lst p).drop (i + 1) = x :: y :: r := by rw [← List.drop_drop, h]; rfl
  have hd2 : (lst p).drop (i + 2) = y :: r := by rw [← List.drop_drop, h]; rfl
  have h0 := bt_of (at_drop h)
  have h1 := bt_of (at_drop hd1)
  have h2 := bt_of (at_drop hd2)
  have hs : sgn p i = (x, i + 2) := by unfold sgn; rw [if_pos ⟨h0.2, h1.1⟩, h1.2]
  unfold memb
  rw [namedS_other h (by decide), hs]
  simp only
  rw [if_neg]
  rintro ⟨_, h, _⟩
  exact hy (h2.2.symm.trans h)

theorem run_esc {p : ByteArray} {first : Nat} : ∀ {l : List Int} {i f : Nat} {acc : Int → Bool}, (lst p).drop i = esc l ++ [93] → first < i → l.length < f →
    ∃ g, setRun p first f i acc = some (g, i + 2 * l.length + 1) ∧ ∀ c, g c = (acc c || l.any (· == c))
  | [], i, 0, acc, _, _, hf => by simp at hf
  | [], i, f + 1, acc, hd, hi, hf => by
    have h0 := bt_of (at_drop (by rw [hd]; rfl) : (lst p)[i]? = some 93)
    exact ⟨acc, by simp only [setRun]; rw [if_pos h0.1, if_pos ⟨h0.2, hi⟩]; simp, fun c => by simp⟩
  | x :: l, i, 0, acc, _, _, hf => by simp at hf
  | x :: l, i, f + 1, acc, hd, hi, hf => by
    have hd0 : (lst p).drop i = 92 :: x :: (esc l ++ [93]) := by rw [hd]; simp [esc]
    have h0 := bt_of (at_drop hd0)
    have hd2 : (lst p).drop (i + 2) = esc l ++ [93] := by rw [← List.drop_drop, hd0]; rfl
    have hm : memb p i = (fun c => decide (x ≤ c) && decide (c ≤ x), i + 2) := by
      cases l with
      | nil => exact memb_esc (y := 93) (r := []) (by rw [hd0]; rfl) (by decide)
      | cons z l => exact memb_esc (y := 92) (r := z :: (esc l ++ [93])) (by rw [hd0]; simp [esc]) (by decide)
    obtain ⟨g, hg, hc⟩ := run_esc (first := first) (f := f) (acc := fun c => acc c || (memb p i).1 c) hd2 (by omega) (by simpa using hf)
    refine ⟨g, ?_, ?_⟩
    · simp only [setRun]
      rw [if_pos h0.1, if_neg (by rw [h0.2]; omega), show (memb p i).2 = i + 2 by rw [hm], hg]
      simp only [List.length_cons]
      congr 2; omega
    · intro c
      rw [hc c, hm, List.any_cons]
      have : (decide (x ≤ c) && decide (c ≤ x)) = (x == c) := by
        rw [Bool.eq_iff_iff]; simp; omega
      simp only [this, Bool.or_assoc]

/-- the pattern of a set: its one part -/
theorem set_parse {p : ByteArray} {others : Bool} {a b : Int} {l : List Int} (h : lst p = (if others = true then [91, 33] else [91]) ++ a :: 45 :: b :: (esc l ++ [93]))
    (ha : a ≠ 93 ∧ a ≠ 91 ∧ a ≠ 92 ∧ a ≠ 33 ∧ a ≠ 94) (hb : b ≠ 93 ∧ b ≠ 92 ∧ b ≠ 91) :
    ∃ ok, Parse p 0 [.one ok] ∧ ∀ c, ok c = (((decide (a ≤ c) && decide (c ≤ b)) || l.any (· == c)) != others && c != 47) := by
  have hlen : p.size = (if others = true then 2 else 1) + 3 + 2 * l.length + 1 := by
    rw [size_lst, h]
    simp only [List.length_append, List.length_cons, List.length_nil, esc_len]
    cases others <;> simp <;> omega
  have hd0 : (lst p).drop 0 = 91 :: (if others = true then [33] else []) ++ a :: 45 :: b :: (esc l ++ [93]) := by rw [h]; cases others <;> rfl
  have h0 := bt_of (at_drop hd0)
  obtain ⟨s, hs⟩ : ∃ s, s = (if others = true then 2 else 1) := ⟨_, rfl⟩
  have hds : (lst p).drop s = a :: 45 :: b :: (esc l ++ [93]) := by rw [h, hs]; cases others <;> rfl
  have hn : setNot p 0 = others := by
    unfold setNot
    cases others with
    | true =>
      have h1 := bt_of (s := p) (i := 0 + 1) (x := 33) (by rw [h]; rfl)
      exact decide_eq_true ⟨h1.1, .inl h1.2⟩
    | false =>
      have h1 := bt_of (s := p) (i := 0 + 1) (x := a) (by rw [h]; rfl)
      refine decide_eq_false ?_
      rintro ⟨_, e | e⟩
      · exact ha.2.2.2.1 (h1.2.symm.trans e)
      · exact ha.2.2.2.2 (h1.2.symm.trans e)
  have hat : setAt p 0 = s := by unfold setAt; rw [hn, hs]
  have hd1 : (lst p).drop (s + 1) = 45 :: b :: (esc l ++ [93]) := by rw [← List.drop_drop, hds]; rfl
  have hd2 : (lst p).drop (s + 2) = b :: (esc l ++ [93]) := by rw [← List.drop_drop, hds]; rfl
  have hd3 : (lst p).drop (s + 3) = esc l ++ [93] := by rw [← List.drop_drop, hds]; rfl
  have g0 := bt_of (at_drop hds)
  have g1 := bt_of (at_drop hd1)
  have g2 := bt_of (at_drop hd2)
  have s0 : sgn p s = (a, s + 1) := by unfold sgn; rw [if_neg (by rw [g0.2]; exact fun h => ha.2.2.1 h.1), g0.2]
  have s2 : sgn p (s + 2) = (b, s + 3) := by unfold sgn; rw [if_neg (by rw [g2.2]; exact fun h => hb.2.1 h.1), g2.2]
  have hm : memb p s = (fun c => decide (a ≤ c) && decide (c ≤ b), s + 3) := by
    unfold memb
    rw [namedS_other hds ha.2.1, s0]
    simp only
    rw [if_pos ⟨g2.1, g1.2, by rw [show s + 1 + 1 = s + 2 from rfl, g2.2]; exact hb.1, namedS_other hd2 hb.2.2⟩, show s + 1 + 1 = s + 2 from rfl, s2]
  obtain ⟨g, hg, hc⟩ := run_esc (p := p) (first := s) (l := l) (i := s + 3) (f := p.size) (acc := fun c => false || (memb p s).1 c) hd3 (by omega) (by rw [hlen]; omega)
  have hS : setS p 0 = some (g, p.size) := by
    unfold setS
    rw [hat]
    simp only [setRun]
    rw [if_pos g0.1, if_neg (by omega), show (memb p s).2 = s + 3 by rw [hm], hg, hlen, hs]
  have he : elemS p 0 = (fun c => (g c != others) && c != 47, p.size) := by
    unfold elemS
    rw [if_neg (by rw [show ((0 : Nat) : Int) = ((0 : Nat) : Int) from rfl, h0.2]; decide), if_pos h0.2, hS, hn]
  refine ⟨(elemS p 0).1, .one h0.1 (by rw [h0.2]; decide) (by rw [he]; exact .done), ?_⟩
  · intro c
    rw [he]
    simp only [hc c, hm, Bool.false_or]

theorem M_single (ok : Int → Bool) : M [.one ok] [] = false ∧ (∀ c, M [.one ok] [c] = ok c) ∧ ∀ c d, M [.one ok] [c, d] = false :=
  ⟨M_one_nil _ _, fun c => by rw [M_one_cons, M_nil_nil, Bool.and_true], fun c d => by rw [M_one_cons, M_nil_cons, Bool.and_false]⟩

theorem sets_l0 (a0 : ByteArray) (a b c : Int) (others : Bool) (h0 : a0.size ≤ 10) (ha : a ≠ 93 ∧ a ≠ 91 ∧ a ≠ 92 ∧ a ≠ 45 ∧ a ≠ 33 ∧ a ≠ 94) (hb : b ≠ 93 ∧ b ≠ 92 ∧ b ≠ 91) (wa : B a) (wb : B b) (wc : B c) : ∀ (d i : Nat) (x12 : ByteArray) (x13 : Bool),
    a0.size - i = d → i ≤ a0.size → lst x12 = esc ((lst a0).take i) → x13 = ((decide (a ≤ c) && decide (c ≤ b)) || ((lst a0).take i).any (· == c)) →
    Ev (fun k => patchworklaw5_GlobSets.l0 k a0 a b others c x12 x13 i) true := by
  intro d
  induction d with
  | zero =>
    intro i x12 x13 hd hi hx he
    have hi : i = a0.size := by omega
    subst hi
    rw [List.take_of_length_le (by rw [lst_len]; exact Nat.le_refl _)] at hx he
    have h12 : x12.size = 2 * a0.size := by rw [size_lst, hx, esc_len, lst_len]
    have wl : ∀ x ∈ ([a, 45, b] : List Int), B x := by
      intro x hx'
      simp only [List.mem_cons, List.not_mem_nil, or_false] at hx'
      rcases hx' with rfl | rfl | rfl
      · exact wa
      · unfold B; omega
      · exact wb
    have n1 := lst_nums wl
    have n2 : lst (strOfNums [c]) = [c] := lst_nums (by intro x hx'; simp only [List.mem_singleton] at hx'; subst hx'; exact wc)
    have z1 : (strOfNums [a, 45, b]).size = 3 := by rw [size_lst, n1]; rfl
    have z2 : (strOfNums [c]).size = 1 := by rw [size_lst, n2]; rfl
    have key : ∀ h : ByteArray, h.size ≤ 2 → lst h = (if others = true then [91, 33] else [91]) →
        ∃ ok, (∀ n : ByteArray, n.size ≤ 2 → Ev (fun k => glob_Match.f k (((h ++ strOfNums [a, 45, b]) ++ x12) ++ (⟨#[93]⟩ : ByteArray)) n) (M [.one ok] (lst n))) ∧ ok c = ((x13 != others) && c != 47) := by
      intro h hh hl
      obtain ⟨ok, hp, hok⟩ := set_parse (p := (((h ++ strOfNums [a, 45, b]) ++ x12) ++ (⟨#[93]⟩ : ByteArray))) (others := others) (a := a) (b := b) (l := lst a0)
        (by rw [lst_append, lst_append, lst_append, hl, n1, hx, lst1]; simp) ⟨ha.1, ha.2.1, ha.2.2.1, ha.2.2.2.2.1, ha.2.2.2.2.2⟩ hb
      refine ⟨ok, fun n hn => match_ev _ n _ (by rw [size_append, size_append, size_append, size1, z1]; omega) (by omega) hp, ?_⟩
      rw [hok c, he]
    have mm : ∀ (P : ByteArray) (ok : Int → Bool), (∀ n : ByteArray, n.size ≤ 2 → Ev (fun k => glob_Match.f k P n) (M [.one ok] (lst n))) → ok c = ((x13 != others) && c != 47) →
        Ev (fun k => (glob_Match.f k P (strOfNums [c])).bind fun t => (if (x13 != others) = true then (if (t == (c != 47)) = true then ((glob_Match.f k P (⟨#[]⟩ : ByteArray)).bind fun t' => (if t' = true then (some false) else (if (strOfNums [c]).size + (strOfNums [c]).size ≤ 9223372036854775807 then ((glob_Match.f k P ((strOfNums [c]) ++ (strOfNums [c]))).bind fun t'' => (some (!t''))) else (none)))) else (some false))
          else (if (t == false) = true then ((glob_Match.f k P (⟨#[]⟩ : ByteArray)).bind fun t' => (if t' = true then (some false) else (if (strOfNums [c]).size + (strOfNums [c]).size ≤ 9223372036854775807 then ((glob_Match.f k P ((strOfNums [c]) ++ (strOfNums [c]))).bind fun t'' => (some (!t''))) else (none)))) else (some false)))) true := by
      intro P ok hm hok
      have m1 := hm (strOfNums [c]) (by omega)
      have m2 := hm (⟨#[]⟩ : ByteArray) (by decide)
      have m3 := hm (strOfNums [c] ++ strOfNums [c]) (by rw [size_append]; omega)
      rw [n2, (M_single ok).2.1, hok] at m1
      rw [show lst (⟨#[]⟩ : ByteArray) = [] from rfl, (M_single ok).1] at m2
      rw [lst_append, n2, show [c] ++ [c] = [c, c] from rfl, (M_single ok).2.2] at m3
      refine Ev.bind m1 ?_
      have tail : Ev (fun k => (glob_Match.f k P (⟨#[]⟩ : ByteArray)).bind fun t' => (if t' = true then (some false) else (if (strOfNums [c]).size + (strOfNums [c]).size ≤ 9223372036854775807 then ((glob_Match.f k P ((strOfNums [c]) ++ (strOfNums [c]))).bind fun t'' => (some (!t''))) else (none)))) true := by
        refine Ev.bind m2 ?_
        simp only [Bool.false_eq_true, if_false, if_pos (show (strOfNums [c]).size + (strOfNums [c]).size ≤ 9223372036854775807 by omega)]
        refine Ev.bind m3 ?_
        exact Ev.now _
      cases hxo : (x13 != others) with
      | true => simp only [Bool.true_and, beq_self_eq_true, if_true]; exact tail
      | false => simp only [Bool.false_and, beq_self_eq_true, if_true, Bool.false_eq_true, if_false]; exact tail
    refine Ev.step (fun k => by simp only [patchworklaw5_GlobSets.l0]; exact rfl) ?_
    simp only [if_neg (show ¬ (a0.size : Int) < (a0.size : Int) by omega)]
    cases others with
    | true =>
      obtain ⟨ok, hm, hok⟩ := key (⟨#[91, 33]⟩ : ByteArray) (by decide) rfl
      simp only [if_true]
      refine Ev.bindS rfl ?_
      simp only [if_pos (show 2 + (strOfNums [a, 45, b]).size ≤ 9223372036854775807 by omega), if_pos (show ((⟨#[91, 33]⟩ : ByteArray) ++ (strOfNums [a, 45, b])).size + x12.size ≤ 9223372036854775807 by rw [size_append, z1]; have : (⟨#[91, 33]⟩ : ByteArray).size = 2 := rfl; omega),
        if_pos (show (((⟨#[91, 33]⟩ : ByteArray) ++ (strOfNums [a, 45, b])) ++ x12).size + 1 ≤ 9223372036854775807 by rw [size_append, size_append, z1]; have : (⟨#[91, 33]⟩ : ByteArray).size = 2 := rfl; omega)]
      refine Ev.bindS rfl ?_
      exact mm _ ok hm hok
    | false =>
      obtain ⟨ok, hm, hok⟩ := key (⟨#[91]⟩ : ByteArray) (by decide) rfl
      simp only [Bool.false_eq_true, if_false]
      refine Ev.bindS rfl ?_
      simp only [if_pos (show 1 + (strOfNums [a, 45, b]).size ≤ 9223372036854775807 by omega), if_pos (show ((⟨#[91]⟩ : ByteArray) ++ (strOfNums [a, 45, b])).size + x12.size ≤ 9223372036854775807 by rw [size_append, z1, size1]; omega),
        if_pos (show (((⟨#[91]⟩ : ByteArray) ++ (strOfNums [a, 45, b])) ++ x12).size + 1 ≤ 9223372036854775807 by rw [size_append, size_append, z1, size1]; omega)]
      refine Ev.bindS rfl ?_
      exact mm _ ok hm hok
  | succ d ih =>
    intro i x12 x13 hd hi hx he
    have hlt : i < a0.size := by omega
    have e1 : wrap64 ((i : Int) + 1) = ((i + 1 : Nat) : Int) := wn i (by omega)
    have hone := lst_one a0 i hlt
    have ht : (lst a0).take (i + 1) = (lst a0).take i ++ [bt a0 i] := by rw [List.take_add_one, lst_at a0 i hlt]; rfl
    have h12 : x12.size = 2 * i := by rw [size_lst, hx, esc_len, List.length_take, lst_len]; omega
    have hs1 : (a0.extract ((i : Int)).toNat (((i + 1 : Nat) : Int)).toNat).size = 1 := by rw [size_lst, Int.toNat_natCast, Int.toNat_natCast, hone]; rfl
    have hs2 : (x12 ++ (⟨#[92]⟩ : ByteArray)).size + (a0.extract ((i : Int)).toNat (((i + 1 : Nat) : Int)).toNat).size ≤ 9223372036854775807 := by rw [size_append, size1, hs1]; omega
    have hnx : lst ((x12 ++ (⟨#[92]⟩ : ByteArray)) ++ (a0.extract ((i : Int)).toNat (((i + 1 : Nat) : Int)).toNat)) = esc ((lst a0).take (i + 1)) := by
      rw [lst_append, lst_append, hx, Int.toNat_natCast, Int.toNat_natCast, hone, lst92, ht]
      simp [esc]
    refine Ev.step (fun k => by simp only [patchworklaw5_GlobSets.l0]; exact rfl) ?_
    simp only [e1, if_pos (show (i : Int) < (a0.size : Int) by omega), if_pos (show x12.size + 1 ≤ 9223372036854775807 by omega), if_pos (show (0 : Int) ≤ (i : Int) by omega), if_pos (show (i : Int) ≤ ((i + 1 : Nat) : Int) by omega),
      if_pos (show ((i + 1 : Nat) : Int) ≤ (a0.size : Int) by omega), if_pos hs2]
    cases x13 with
    | true =>
      simp only [if_true]
      refine ih (i + 1) _ _ (by omega) (by omega) hnx ?_
      rw [ht, List.any_append, ← Bool.or_assoc, ← he, Bool.true_or]
    | false =>
      simp only [Bool.false_eq_true, if_false]
      refine ih (i + 1) _ _ (by omega) (by omega) hnx ?_
      rw [ht, List.any_append, ← Bool.or_assoc, ← he, Bool.false_or]
      simp

theorem GlobSets : patchworklaw5_GlobSets.Pure := by
  intro a0 a1 a2 a3 a4 w0 w1 w2 w4
  refine Ev.rounds (g := fun k => patchworklaw5_GlobSets.f k a0 a1 a2 a3 a4) ?_
  simp only [patchworklaw5_GlobSets.f]
  refine Ev.bind alive_ev ?_
  simp only [if_true]
  have yes : Ev (fun k => patchworklaw5_GlobSets.j0 k a0 a1 a2 a3 a4 true true) true := by
    refine Ev.step (fun k => by simp only [patchworklaw5_GlobSets.j0]; exact rfl) ?_
    simp only [if_true]; exact Ev.now _
  by_cases g0 : (a0.size : Int) > 10
  · simp only [if_pos g0]; exact yes
  by_cases g1 : a1 = 93
  · simp only [if_neg g0, if_pos g1]; exact yes
  by_cases g2 : a1 = 91
  · simp only [if_neg g0, if_neg g1, if_pos g2]; exact yes
  by_cases g3 : a1 = 92
  · simp only [if_neg g0, if_neg g1, if_neg g2, if_pos g3]; exact yes
  by_cases g4 : a1 = 45
  · simp only [if_neg g0, if_neg g1, if_neg g2, if_neg g3, if_pos g4]; exact yes
  by_cases g5 : a1 = 33
  · simp only [if_neg g0, if_neg g1, if_neg g2, if_neg g3, if_neg g4, if_pos g5]; exact yes
  by_cases g6 : a1 = 94
  · simp only [if_neg g0, if_neg g1, if_neg g2, if_neg g3, if_neg g4, if_neg g5, if_pos g6]; exact yes
  by_cases g7 : a2 = 93
  · simp only [if_neg g0, if_neg g1, if_neg g2, if_neg g3, if_neg g4, if_neg g5, if_neg g6, if_pos g7]; exact yes
  by_cases g8 : a2 = 92
  · simp only [if_neg g0, if_neg g1, if_neg g2, if_neg g3, if_neg g4, if_neg g5, if_neg g6, if_neg g7, if_pos g8]; exact yes
  simp only [if_neg g0, if_neg g1, if_neg g2, if_neg g3, if_neg g4, if_neg g5, if_neg g6, if_neg g7, if_neg g8]
  by_cases g9 : a2 = 91
  · rw [beq_iff_eq.2 g9]; exact yes
  rw [beq_eq_false_iff_ne.2 g9]
  refine Ev.step (fun k => by simp only [patchworklaw5_GlobSets.j0]; exact rfl) ?_
  simp only [Bool.false_eq_true, if_false]
  have go : ∀ b : Bool, b = (decide (a1 ≤ a4) && decide (a4 ≤ a2)) → Ev (fun k => patchworklaw5_GlobSets.j1 k a0 a1 a2 a3 a4 (⟨#[]⟩ : ByteArray) b) true := by
    intro b hb
    refine Ev.step (fun k => by simp only [patchworklaw5_GlobSets.j1]; exact rfl) ?_
    exact sets_l0 a0 a1 a2 a4 a3 (by omega) ⟨g1, g2, g3, g4, g5, g6⟩ ⟨g7, g8, g9⟩ (wfB w1) (wfB w2) (wfB w4) _ 0 _ b rfl (by omega) rfl (by rw [hb]; simp)
  by_cases g10 : a4 ≥ a1
  · simp only [if_pos g10]
    exact go _ (by simp; omega)
  · simp only [if_neg g10]
    exact go _ (by simp; omega)

end Go.Proofs.Ytahfoeichmfloaa.Pure
