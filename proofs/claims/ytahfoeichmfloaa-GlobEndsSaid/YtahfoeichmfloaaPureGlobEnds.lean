/- A star and an ending match what ends so, without a sign, and a beginning and a star what begins so: the plain statement of GlobEnds; no condition. -/
import Derived.Test.YtahfoeichmfloaaGlx12
import Derived.Test.YtahfoeichmfloaaGlobA
namespace Go.Proofs.Ytahfoeichmfloaa.Pure
set_option linter.unusedSimpArgs false
set_option linter.unusedVariables false
open Go.RowKit Go.Proofs.YtahfoeichmfloaaW.PrintWords Go.Proofs.YtahfoeichmfloaaW.PrintLast Go.Proofs.Ytahfoeichmfloaa.Gl Go.Proofs.Ytahfoeichmfloaa.GlobM Go.Proofs.Ytahfoeichmfloaa.GlobP Go.Proofs.Ytahfoeichmfloaa.GlobA

theorem free_cons (c : Int) (l : List Int) : free (c :: l) = (c != 47 && free l) := by simp [free]

theorem ends_l1 (a0 a1 x6 : ByteArray) (n : Int) (A B : Bool) (h0 : a0.size ≤ 20) (h1 : a1.size ≤ 40) (h6 : x6.size ≤ 40)
    (hA : Ev (fun k => glob_Match.f k ((⟨#[42]⟩ : ByteArray) ++ x6) a1) A) (hB : Ev (fun k => glob_Match.f k (x6 ++ (⟨#[42]⟩ : ByteArray)) a1) B) :
    ∀ (d i : Nat) (x9 x10 : Bool), (n - i).toNat = d → (n ≤ i ∨ (n = ((a1.size - a0.size : Nat) : Int) ∧ a0.size ≤ a1.size)) → A = (x9 && free (((lst a1).take n.toNat).drop i)) → B = (x10 && free (((lst a1).drop a0.size).drop i)) →
    (n ≤ i → x9 = A ∧ x10 = B) → Ev (fun k => patchworklaw5_GlobEnds.l1 k a0 a1 x6 n x9 x10 i) true := by
  intro d
  induction d with
  | zero =>
    intro i x9 x10 hd hn eA eB he
    obtain ⟨rfl, rfl⟩ := he (by omega)
    refine Ev.step (fun k => by simp only [patchworklaw5_GlobEnds.l1]; exact rfl) ?_
    simp only [if_neg (show ¬ (i : Int) < n by omega), if_pos (show 1 + x6.size ≤ 9223372036854775807 by omega)]
    refine Ev.bind hA ?_
    simp only [beq_self_eq_true, if_true, if_pos (show x6.size + 1 ≤ 9223372036854775807 by omega)]
    refine Ev.bind hB ?_
    simp only [beq_self_eq_true]
    exact Ev.now _
  | succ d ih =>
    intro i x9 x10 hd hn eA eB he
    have hlt : (i : Int) < n := by omega
    obtain ⟨rfl, hs⟩ := hn.resolve_left (by omega)
    have hi1 : i < a1.size := by omega
    have hi2 : a0.size + i < a1.size := by omega
    refine Ev.step (fun k => by simp only [patchworklaw5_GlobEnds.l1]; exact rfl) ?_
    have e1 : wrap64 ((i : Int) + 1) = ((i + 1 : Nat) : Int) := wn i (by omega)
    have e2 : wrap64 ((a0.size : Int) + (i : Int)) = ((a0.size + i : Nat) : Int) := by rw [w64 (by omega) (by omega)]; omega
    simp only [if_pos hlt, e1, e2, if_pos (show (0 : Int) ≤ (i : Int) by omega), if_pos (show (i : Int) < (a1.size : Int) by omega), if_pos (show (0 : Int) ≤ ((a0.size + i : Nat) : Int) by omega), if_pos (show ((a0.size + i : Nat) : Int) < (a1.size : Int) by omega)]
    have fA : ((lst a1).take (((a1.size - a0.size : Nat) : Int)).toNat).drop i = bt a1 i :: ((lst a1).take (((a1.size - a0.size : Nat) : Int)).toNat).drop (i + 1) := by
      rw [List.drop_take, List.drop_take, lst_drop a1 i hi1, Int.toNat_natCast, show a1.size - a0.size - i = (a1.size - a0.size - (i + 1)) + 1 by omega, List.take_succ_cons]
    have fB : ((lst a1).drop a0.size).drop i = bt a1 (a0.size + i : Nat) :: ((lst a1).drop a0.size).drop (i + 1) := by
      rw [List.drop_drop, List.drop_drop, lst_drop a1 (a0.size + i) hi2]; rfl
    rw [fA, free_cons] at eA
    rw [fB, free_cons] at eB
    have go := fun (y9 y10 : Bool) (g9 : A = (y9 && free (((lst a1).take (((a1.size - a0.size : Nat) : Int)).toNat).drop (i + 1)))) (g10 : B = (y10 && free (((lst a1).drop a0.size).drop (i + 1)))) =>
      ih (i + 1) y9 y10 (by omega) (by omega) g9 g10 (fun hle => by
        have z1 : ((lst a1).take (((a1.size - a0.size : Nat) : Int)).toNat).drop (i + 1) = [] := by
          rw [List.drop_eq_nil_iff, List.length_take, lst_len]; omega
        have z2 : ((lst a1).drop a0.size).drop (i + 1) = [] := by
          rw [List.drop_eq_nil_iff, List.length_drop, lst_len]; omega
        rw [z1] at g9; rw [z2] at g10
        simp only [free, List.all_nil, Bool.and_true] at g9 g10
        exact ⟨g9.symm, g10.symm⟩)
    cases x9 with
    | true =>
      cases x10 with
      | true => simp only [if_true]; exact go _ _ (by simpa using eA) (by simpa using eB)
      | false => simp only [if_true, Bool.false_eq_true, if_false]; exact go _ _ (by simpa using eA) (by simpa using eB)
    | false =>
      cases x10 with
      | true => simp only [if_true, Bool.false_eq_true, if_false]; exact go _ _ (by simpa using eA) (by simpa using eB)
      | false => simp only [Bool.false_eq_true, if_false]; exact go _ _ (by simpa using eA) (by simpa using eB)

theorem ends_l0 (a0 a1 : ByteArray) (h0 : a0.size ≤ 20) (h1 : a1.size ≤ 40) : ∀ (d i : Nat) (x6 : ByteArray), a0.size - i = d → i ≤ a0.size → lst x6 = esc ((lst a0).take i) →
    Ev (fun k => patchworklaw5_GlobEnds.l0 k a0 a1 x6 i) true := by
  intro d
  induction d with
  | zero =>
    intro i x6 hd hi hx
    have hi : i = a0.size := by omega
    subst hi
    rw [List.take_of_length_le (by rw [lst_len]; exact Nat.le_refl _)] at hx
    have h6 : x6.size = 2 * a0.size := by rw [size_lst, hx, esc_len, lst_len]
    have hA := match_ev ((⟨#[42]⟩ : ByteArray) ++ x6) a1 (.star :: (lst a0).map eqp) (by rw [size_append, size1]; omega) (by omega) (by
      refine parse_star (rest := esc (lst a0)) (by rw [lst_append, lst42, hx]; rfl) ?_
      have := parse_esc (p := (⟨#[42]⟩ : ByteArray) ++ x6) (is := []) (rest := []) (l := lst a0) (i := 1) (by rw [lst_append, lst42, hx]; simp) (parse_end (by rw [size_append, size1, lst_len, h6]))
      simpa using this)
    have hB := match_ev (x6 ++ (⟨#[42]⟩ : ByteArray)) a1 ((lst a0).map eqp ++ [.star]) (by rw [size_append, size1]; omega) (by omega) (by
      refine parse_esc (rest := [42]) (by rw [lst_append, lst42, hx]; rfl) ?_
      have hlen : (esc (lst a0)).length = 2 * (lst a0).length := esc_len _
      refine parse_star (rest := []) (by rw [lst_append, lst42, hx, Nat.zero_add, List.drop_left' hlen]) (parse_end ?_)
      rw [size_append, size1, lst_len, h6]; omega)
    rw [M_star_eqp] at hA
    rw [M_eqp_star] at hB
    refine Ev.step (fun k => by simp only [patchworklaw5_GlobEnds.l0]; exact rfl) ?_
    simp only [if_neg (show ¬ (a0.size : Int) < (a0.size : Int) by omega)]
    by_cases hs : a0.size ≤ a1.size
    · have e0 : wrap64 ((a1.size : Int) - (a0.size : Int)) = ((a1.size - a0.size : Nat) : Int) := by rw [w64 (by omega) (by omega)]; omega
      simp only [e0, if_pos (show ((a1.size - a0.size : Nat) : Int) ≥ 0 by omega), if_pos (show (0 : Int) ≤ ((a1.size - a0.size : Nat) : Int) by omega), if_pos (show ((a1.size - a0.size : Nat) : Int) ≤ (a1.size : Int) by omega)]
      refine Ev.step (fun k => by simp only [patchworklaw5_GlobEnds.j2]; exact rfl) ?_
      simp only [if_pos (show ((a1.size - a0.size : Nat) : Int) ≥ 0 by omega), if_pos (show (0 : Int) ≤ (a0.size : Int) by omega), if_pos (show (a0.size : Int) ≤ (a1.size : Int) by omega)]
      refine Ev.step (fun k => by simp only [patchworklaw5_GlobEnds.j3]; exact rfl) ?_
      simp only [same_iff, lst_extract, Int.toNat_natCast]
      have eA : (decide ((lst a0).length ≤ (lst a1).length) && decide ((lst a1).drop ((lst a1).length - (lst a0).length) = lst a0) && free ((lst a1).take ((lst a1).length - (lst a0).length))) =
          (decide (((lst a1).drop (a1.size - a0.size)).take (a1.size - (a1.size - a0.size)) = lst a0) && free (((lst a1).take (((a1.size - a0.size : Nat) : Int)).toNat).drop 0)) := by
        rw [lst_len, lst_len, decide_eq_true hs, Bool.true_and, Int.toNat_natCast, List.drop_zero, List.take_of_length_le (l := (lst a1).drop (a1.size - a0.size)) (by rw [List.length_drop, lst_len]; exact Nat.le_refl _)]
      have eB : (decide ((lst a1).take (lst a0).length = lst a0) && free ((lst a1).drop (lst a0).length)) = (decide (((lst a1).drop 0).take (a0.size - 0) = lst a0) && free (((lst a1).drop a0.size).drop 0)) := by
        rw [lst_len]; rfl
      refine ends_l1 a0 a1 x6 _ _ _ h0 h1 (by omega) hA hB _ 0 _ _ rfl (.inr ⟨rfl, hs⟩) eA eB ?_
      intro hle
      have z1 : ((lst a1).take (((a1.size - a0.size : Nat) : Int)).toNat).drop 0 = [] := by
        rw [List.drop_eq_nil_iff, List.length_take, lst_len]; omega
      have z2 : ((lst a1).drop a0.size).drop 0 = [] := by
        rw [List.drop_eq_nil_iff, List.length_drop, lst_len]; omega
      rw [z1] at eA; rw [z2] at eB
      rw [eA, eB]
      simp [free]
    · have e0 : ¬ wrap64 ((a1.size : Int) - (a0.size : Int)) ≥ 0 := by rw [w64 (by omega) (by omega)]; omega
      simp only [if_neg e0]
      refine Ev.step (fun k => by simp only [patchworklaw5_GlobEnds.j2]; exact rfl) ?_
      simp only [if_neg e0]
      refine Ev.step (fun k => by simp only [patchworklaw5_GlobEnds.j3]; exact rfl) ?_
      have eA : (decide ((lst a0).length ≤ (lst a1).length) && decide ((lst a1).drop ((lst a1).length - (lst a0).length) = lst a0) && free ((lst a1).take ((lst a1).length - (lst a0).length))) = false := by
        rw [lst_len, lst_len, decide_eq_false hs, Bool.false_and, Bool.false_and]
      have eB : (decide ((lst a1).take (lst a0).length = lst a0) && free ((lst a1).drop (lst a0).length)) = false := by
        have : (lst a1).take (lst a0).length ≠ lst a0 := by
          intro h
          have := congrArg List.length h
          rw [List.length_take, lst_len, lst_len] at this
          omega
        rw [decide_eq_false this, Bool.false_and]
      rw [eA] at hA
      rw [eB] at hB
      exact ends_l1 a0 a1 x6 _ _ _ h0 h1 (by omega) hA hB _ 0 _ _ rfl (.inl (by omega)) rfl rfl (fun _ => ⟨rfl, rfl⟩)
  | succ d ih =>
    intro i x6 hd hi hx
    have hlt : i < a0.size := by omega
    have h6 : x6.size = 2 * i := by rw [size_lst, hx, esc_len, List.length_take, lst_len]; omega
    refine Ev.step (fun k => by simp only [patchworklaw5_GlobEnds.l0]; exact rfl) ?_
    have e1 : wrap64 ((i : Int) + 1) = ((i + 1 : Nat) : Int) := wn i (by omega)
    have hone := lst_one a0 i hlt
    have hs1 : (a0.extract ((i : Int)).toNat (((i + 1 : Nat) : Int)).toNat).size = 1 := by rw [size_lst, Int.toNat_natCast, Int.toNat_natCast, hone]; rfl
    have hs2 : (x6 ++ (⟨#[92]⟩ : ByteArray)).size = 2 * i + 1 := by rw [size_append, size1, h6]
    simp only [e1, if_pos (show (i : Int) < (a0.size : Int) by omega), if_pos (show x6.size + 1 ≤ 9223372036854775807 by omega), if_pos (show (0 : Int) ≤ (i : Int) by omega), if_pos (show (i : Int) ≤ ((i + 1 : Nat) : Int) by omega),
      if_pos (show ((i + 1 : Nat) : Int) ≤ (a0.size : Int) by omega), if_pos (show (x6 ++ (⟨#[92]⟩ : ByteArray)).size + (a0.extract ((i : Int)).toNat (((i + 1 : Nat) : Int)).toNat).size ≤ 9223372036854775807 by omega)]
    refine ih (i + 1) _ (by omega) (by omega) ?_
    rw [lst_append, lst_append, hx, Int.toNat_natCast, Int.toNat_natCast, hone, lst92]
    have : (lst a0).take (i + 1) = (lst a0).take i ++ [bt a0 i] := by
      rw [List.take_add_one, lst_at a0 i hlt]; rfl
    rw [this]
    simp [esc]

theorem GlobEnds : patchworklaw5_GlobEnds.Pure := by
  intro a0 a1 w0 w1
  refine Ev.rounds (g := fun k => patchworklaw5_GlobEnds.f k a0 a1) ?_
  simp only [patchworklaw5_GlobEnds.f]
  refine Ev.bind alive_ev ?_
  simp only [if_true]
  have out : ∀ (b : Bool), (b = false → a0.size ≤ 20 ∧ a1.size ≤ 40) → Ev (fun k => patchworklaw5_GlobEnds.j0 k a0 a1 true b) true := by
    intro b hb
    refine Ev.step (fun k => by simp only [patchworklaw5_GlobEnds.j0]; exact rfl) ?_
    cases b with
    | true => simp only [if_true]; exact Ev.now _
    | false =>
      simp only [Bool.false_eq_true, if_false]
      obtain ⟨h0, h1⟩ := hb rfl
      exact ends_l0 a0 a1 h0 h1 _ 0 _ rfl (by omega) rfl
  by_cases h : (a0.size : Int) > 20
  · simp only [if_pos h]
    exact out _ (fun h => by cases h)
  · simp only [if_neg h]
    exact out _ (fun hb => ⟨by omega, by have := of_decide_eq_false hb; omega⟩)

end Go.Proofs.Ytahfoeichmfloaa.Pure
