/- A pattern of escaped bytes matches just its bytes, and one with stars between and around, what has them in order, without a sign between: the plain statement of GlobSelf; no condition. -/
import Derived.Test.YtahfoeichmfloaaGlx9
import Derived.Test.YtahfoeichmfloaaGlobA
namespace Go.Proofs.Ytahfoeichmfloaa.Pure
set_option linter.unusedSimpArgs false
set_option linter.unusedVariables false
open Go.RowKit Go.Proofs.YtahfoeichmfloaaW.PrintWords Go.Proofs.YtahfoeichmfloaaW.PrintLast Go.Proofs.Ytahfoeichmfloaa.Gl Go.Proofs.Ytahfoeichmfloaa.GlobM Go.Proofs.Ytahfoeichmfloaa.GlobP Go.Proofs.Ytahfoeichmfloaa.GlobA

theorem free_cons' (c : Int) (l : List Int) : free (c :: l) = (c != 47 && free l) := by simp [free]

/-- the first row's bytes stand in the second one in order -/
def sub : List Int → List Int → Bool
  | [], _ => true
  | _ :: _, [] => false
  | x :: l, y :: m => if y = x then sub l m else sub (x :: l) m
theorem sub_nil (m : List Int) : sub [] m = true := by unfold sub; rfl
theorem sub_cons_nil (x : Int) (l : List Int) : sub (x :: l) [] = false := by unfold sub; rfl
theorem sub_cons_cons (x y : Int) (l m : List Int) : sub (x :: l) (y :: m) = if y = x then sub l m else sub (x :: l) m := by rw [sub]

theorem sub_both : ∀ m : List Int, (∀ l x, sub (x :: l) m = true → sub l m = true) ∧ (∀ l y, sub l m = true → sub l (y :: m) = true) := by
  intro m
  induction m with
  | nil =>
    refine ⟨fun l x h => absurd h (by rw [sub_cons_nil]; decide), fun l y h => ?_⟩
    cases l with
    | nil => exact sub_nil _
    | cons z l => rw [sub_cons_nil] at h; cases h
  | cons y' m ih =>
    have first : ∀ l x, sub (x :: l) (y' :: m) = true → sub l (y' :: m) = true := by
      intro l x h
      rw [sub_cons_cons] at h
      split at h
      · exact ih.2 l y' h
      · exact ih.2 l y' (ih.1 l x h)
    refine ⟨first, fun l y h => ?_⟩
    cases l with
    | nil => exact sub_nil _
    | cons z l =>
      rw [sub_cons_cons]
      split
      · exact first l z h
      · exact h

/-- stars between and around -/
def sp (l : List Int) : List Part := (l.flatMap fun x => [.star, eqp x]) ++ [.star]
theorem sp_nil : sp [] = [.star] := rfl
theorem sp_cons (x : Int) (l : List Int) : sp (x :: l) = .star :: eqp x :: sp l := by simp [sp]
theorem M_sp_self : ∀ l : List Int, M (sp l) l = true
  | [] => by rw [sp_nil, M_star_end]; rfl
  | x :: l => by rw [sp_cons, M_star_cons, eqp, M_one_cons, M_sp_self l]; simp
theorem M_sp : ∀ (m l : List Int), free l = true → M (sp l) m = (free m && sub l m)
  | m, [], _ => by rw [sp_nil, M_star_end, sub_nil, Bool.and_true]
  | [], x :: l, _ => by rw [sp_cons, M_star_nil, eqp, M_one_nil, sub_cons_nil, Bool.and_false]
  | y :: m, x :: l, h => by
    have h' := h
    rw [free_cons', Bool.and_eq_true, bne_iff_ne] at h'
    have i1 := M_sp m (x :: l) h
    have i2 := M_sp m l h'.2
    rw [sp_cons, M_star_cons, ← sp_cons, i1, eqp, M_one_cons, i2, sub_cons_cons, free_cons']
    by_cases e : y = x
    · subst e
      rw [if_pos rfl, bne_iff_ne.2 h'.1]
      simp only [beq_self_eq_true, Bool.true_and]
      cases hf : free m with
      | false => simp
      | true =>
        simp only [Bool.true_and]
        cases hs : sub (y :: l) m with
        | false => simp
        | true => rw [(sub_both m).1 l y hs]; rfl
    · rw [if_neg e, beq_eq_false_iff_ne.2 (fun h => e h.symm), Bool.false_and, Bool.false_or, Bool.and_assoc]
termination_by m l _ => (m.length, l.length)

/-- stars and escaped bytes, as they are written -/
def escS (l : List Int) : List Int := l.flatMap fun x => [42, 92, x]
theorem escS_len (l : List Int) : (escS l).length = 3 * l.length := by
  induction l with
  | nil => rfl
  | cons x l ih => simp only [escS, List.flatMap_cons, List.length_append, List.length_cons, List.length_nil] at *; omega
theorem parse_escS {p : ByteArray} {is : List Part} {rest : List Int} : ∀ {l : List Int} {i : Nat}, (lst p).drop i = escS l ++ rest → Parse p (i + 3 * l.length) is → Parse p i ((l.flatMap fun x => [.star, eqp x]) ++ is)
  | [], i, _, h => by simpa using h
  | x :: l, i, hd, h => by
    have hd0 : (lst p).drop i = 42 :: 92 :: x :: (escS l ++ rest) := by rw [hd]; simp [escS]
    have hd1 : (lst p).drop (i + 1) = esc [x] ++ (escS l ++ rest) := by rw [← List.drop_drop, hd0]; rfl
    have hd3 : (lst p).drop (i + 3) = escS l ++ rest := by rw [← List.drop_drop, hd0]; rfl
    have hr := parse_escS hd3 (by rw [show i + 3 + 3 * l.length = i + 3 * (x :: l).length by simp; omega]; exact h)
    have h2 := parse_esc (l := [x]) hd1 (by rw [show i + 1 + 2 * [x].length = i + 3 by simp]; exact hr)
    have := parse_star hd0 h2
    simpa using this

theorem self_l2 (a0 a1 x8 : ByteArray) (h0 : a0.size ≤ 40) (h1 : a1.size ≤ 60) (V : Bool) (hV : Ev (fun k => glob_Match.f k x8 a1) V) :
    ∀ (d i j : Nat) (x12 : Bool), a1.size - i = d → i ≤ a1.size → j ≤ a0.size → V = (x12 && (free ((lst a1).drop i) && sub ((lst a0).drop j) ((lst a1).drop i))) →
    Ev (fun k => patchworklaw5_GlobSelf.l2 k a0 a1 x8 j x12 i) true := by
  intro d
  induction d with
  | zero =>
    intro i j x12 hd hi hj he
    have hi : i = a1.size := by omega
    subst hi
    refine Ev.step (fun k => by simp only [patchworklaw5_GlobSelf.l2]; exact rfl) ?_
    simp only [if_neg (show ¬ (a1.size : Int) < (a1.size : Int) by omega)]
    refine Ev.bind hV ?_
    rw [lst_end] at he
    cases x12 with
    | false =>
      simp only [Bool.false_and] at he
      subst he
      simp only [Bool.false_eq_true, if_false, beq_self_eq_true]
      exact Ev.now _
    | true =>
      simp only [if_true]
      have : V = ((j : Int) == (a0.size : Int)) := by
        rw [he]
        by_cases e : j = a0.size
        · subst e; rw [lst_end, sub_nil]; simp [free]
        · rw [lst_drop a0 j (by omega), sub_cons_nil]
          simp only [Bool.and_false]
          exact (beq_eq_false_iff_ne.2 (by omega)).symm
      rw [this]
      simp only [beq_self_eq_true]
      exact Ev.now _
  | succ d ih =>
    intro i j x12 hd hi hj he
    have hlt : i < a1.size := by omega
    have hd' : a1.size - (i + 1) = d := by clear he; omega
    have e1 : wrap64 ((i : Int) + 1) = ((i + 1 : Nat) : Int) := wn i (by omega)
    have e2 : wrap64 ((j : Int) + 1) = ((j + 1 : Nat) : Int) := wn j (by omega)
    refine Ev.step (fun k => by simp only [patchworklaw5_GlobSelf.l2]; exact rfl) ?_
    rw [lst_drop a1 i hlt, free_cons'] at he
    simp only [e1, e2, if_pos (show (i : Int) < (a1.size : Int) by omega), if_pos (show (0 : Int) ≤ (i : Int) by omega), if_pos (show (0 : Int) ≤ (j : Int) by omega)]
    by_cases hj' : j < a0.size
    · simp only [if_pos (show (j : Int) < (a0.size : Int) by omega)]
      rw [lst_drop a0 j hj', sub_cons_cons] at he
      by_cases hb : bt a1 i = bt a0 j
      · simp only [if_pos hb]
        rw [if_pos hb] at he
        cases x12 with
        | true => simp only [if_true]; exact ih (i + 1) (j + 1) _ hd' hlt hj' (by rw [he]; simp [Bool.and_assoc])
        | false => simp only [Bool.false_eq_true, if_false]; exact ih (i + 1) (j + 1) _ hd' hlt hj' (by rw [he]; simp)
      · simp only [if_neg hb]
        rw [if_neg hb, ← lst_drop a0 j hj'] at he
        cases x12 with
        | true => simp only [if_true]; exact ih (i + 1) j _ hd' hlt hj (by rw [he]; simp [Bool.and_assoc])
        | false => simp only [Bool.false_eq_true, if_false]; exact ih (i + 1) j _ hd' hlt hj (by rw [he]; simp)
    · simp only [if_neg (show ¬ (j : Int) < (a0.size : Int) by omega)]
      have hje : j = a0.size := by omega
      rw [hje, lst_end, sub_nil] at he
      cases x12 with
      | true => simp only [if_true]; exact ih (i + 1) j _ hd' hlt hj (by rw [he, hje, lst_end, sub_nil]; simp [Bool.and_assoc])
      | false => simp only [Bool.false_eq_true, if_false]; exact ih (i + 1) j _ hd' hlt hj (by rw [he]; simp)

theorem self_l1 (a0 a1 x8 : ByteArray) (h0 : a0.size ≤ 40) (h1 : a1.size ≤ 60) (hV : Ev (fun k => glob_Match.f k x8 a1) (M (sp (lst a0)) (lst a1))) :
    ∀ (d i : Nat), a0.size - i = d → i ≤ a0.size → free ((lst a0).take i) = true → Ev (fun k => patchworklaw5_GlobSelf.l1 k a0 a1 x8 i) true := by
  intro d
  induction d with
  | zero =>
    intro i hd hi hf
    have hi : i = a0.size := by omega
    subst hi
    rw [List.take_of_length_le (by rw [lst_len]; exact Nat.le_refl _)] at hf
    rw [M_sp _ _ hf] at hV
    refine Ev.step (fun k => by simp only [patchworklaw5_GlobSelf.l1]; exact rfl) ?_
    simp only [if_neg (show ¬ (a0.size : Int) < (a0.size : Int) by omega)]
    exact self_l2 a0 a1 x8 h0 h1 _ hV _ 0 0 true rfl (by omega) (by omega) (by simp)
  | succ d ih =>
    intro i hd hi hf
    have hlt : i < a0.size := by omega
    have e1 : wrap64 ((i : Int) + 1) = ((i + 1 : Nat) : Int) := wn i (by omega)
    refine Ev.step (fun k => by simp only [patchworklaw5_GlobSelf.l1]; exact rfl) ?_
    simp only [e1, if_pos (show (i : Int) < (a0.size : Int) by omega), if_pos (show (0 : Int) ≤ (i : Int) by omega)]
    by_cases hb : bt a0 i = 47
    · simp only [if_pos hb]; exact Ev.now _
    · simp only [if_neg hb]
      refine ih (i + 1) (by omega) (by omega) ?_
      rw [List.take_add_one, lst_at a0 i hlt]
      simp only [free] at hf ⊢
      simp [hf, hb]

theorem self_l0 (a0 a1 : ByteArray) (st : Bool) (h0 : a0.size ≤ 40) (h1 : a1.size ≤ 60) : ∀ (d i : Nat) (x8 : ByteArray), a0.size - i = d → i ≤ a0.size → lst x8 = (if st = true then escS ((lst a0).take i) else esc ((lst a0).take i)) →
    Ev (fun k => patchworklaw5_GlobSelf.l0 k a0 a1 st x8 i) true := by
  intro d
  induction d with
  | zero =>
    intro i x8 hd hi hx
    have hi : i = a0.size := by omega
    subst hi
    rw [List.take_of_length_le (by rw [lst_len]; exact Nat.le_refl _)] at hx
    refine Ev.step (fun k => by simp only [patchworklaw5_GlobSelf.l0]; exact rfl) ?_
    simp only [if_neg (show ¬ (a0.size : Int) < (a0.size : Int) by omega)]
    cases st with
    | true =>
      rw [if_pos rfl] at hx
      have h8 : x8.size = 3 * a0.size := by rw [size_lst, hx, escS_len, lst_len]
      have hP : Parse (x8 ++ (⟨#[42]⟩ : ByteArray)) 0 (sp (lst a0)) := by
        have hlen := escS_len (lst a0)
        refine parse_escS (rest := [42]) (by rw [lst_append, lst42, hx]; rfl) ?_
        refine parse_star (rest := []) (by rw [lst_append, lst42, hx, Nat.zero_add, List.drop_left' hlen]) (parse_end ?_)
        rw [size_append, size1, lst_len, h8]; omega
      have m0 := match_ev (x8 ++ (⟨#[42]⟩ : ByteArray)) a0 _ (by rw [size_append, size1]; omega) (by omega) hP
      have m1 := match_ev (x8 ++ (⟨#[42]⟩ : ByteArray)) a1 _ (by rw [size_append, size1]; omega) (by omega) hP
      rw [M_sp_self] at m0
      simp only [if_true, if_pos (show x8.size + 1 ≤ 9223372036854775807 by omega)]
      refine Ev.bind m0 ?_
      simp only [if_true]
      exact self_l1 a0 a1 _ h0 h1 m1 _ 0 rfl (by omega) (by simp [free])
    | false =>
      rw [if_neg (by decide)] at hx
      have h8 : x8.size = 2 * a0.size := by rw [size_lst, hx, esc_len, lst_len]
      have hP : Parse x8 0 ((lst a0).map eqp) := by
        have := parse_esc (p := x8) (is := []) (rest := []) (l := lst a0) (i := 0) (by rw [hx]; simp) (parse_end (by rw [lst_len, h8]; omega))
        simpa using this
      have m0 := match_ev x8 a0 _ (by omega) (by omega) hP
      have m1 := match_ev x8 a1 _ (by omega) (by omega) hP
      rw [M_eqp] at m0 m1
      rw [decide_eq_true rfl] at m0
      simp only [Bool.false_eq_true, if_false]
      refine Ev.bind m0 ?_
      simp only [if_true]
      refine Ev.bind m1 ?_
      simp only [same_iff, beq_self_eq_true]
      exact Ev.now _
  | succ d ih =>
    intro i x8 hd hi hx
    have hlt : i < a0.size := by omega
    have e1 : wrap64 ((i : Int) + 1) = ((i + 1 : Nat) : Int) := wn i (by omega)
    have hone := lst_one a0 i hlt
    have ht : (lst a0).take (i + 1) = (lst a0).take i ++ [bt a0 i] := by rw [List.take_add_one, lst_at a0 i hlt]; rfl
    have hs1 : (a0.extract ((i : Int)).toNat (((i + 1 : Nat) : Int)).toNat).size = 1 := by rw [size_lst, Int.toNat_natCast, Int.toNat_natCast, hone]; rfl
    refine Ev.step (fun k => by simp only [patchworklaw5_GlobSelf.l0]; exact rfl) ?_
    have h8 : x8.size ≤ 3 * i := by
      rw [size_lst, hx]
      split
      · rw [escS_len, List.length_take]; omega
      · rw [esc_len, List.length_take]; omega
    have hs2 : (x8 ++ (⟨#[42]⟩ : ByteArray)).size + 1 ≤ 9223372036854775807 := by rw [size_append, size1]; omega
    have hs3 : ((x8 ++ (⟨#[42]⟩ : ByteArray)) ++ (⟨#[92]⟩ : ByteArray)).size + (a0.extract ((i : Int)).toNat (((i + 1 : Nat) : Int)).toNat).size ≤ 9223372036854775807 := by rw [size_append, size_append, size1, size1, hs1]; omega
    have hs4 : (x8 ++ (⟨#[92]⟩ : ByteArray)).size + (a0.extract ((i : Int)).toNat (((i + 1 : Nat) : Int)).toNat).size ≤ 9223372036854775807 := by rw [size_append, size1, hs1]; omega
    simp only [e1, if_pos (show (i : Int) < (a0.size : Int) by omega), if_pos (show x8.size + 1 ≤ 9223372036854775807 by omega), if_pos (show (0 : Int) ≤ (i : Int) by omega), if_pos (show (i : Int) ≤ ((i + 1 : Nat) : Int) by omega),
      if_pos (show ((i + 1 : Nat) : Int) ≤ (a0.size : Int) by omega), if_pos hs2, if_pos hs3, if_pos hs4]
    cases st with
    | true =>
      simp only [if_true] at hx ⊢
      refine ih (i + 1) _ (by omega) (by omega) ?_
      rw [lst_append, lst_append, lst_append, hx, Int.toNat_natCast, Int.toNat_natCast, hone, lst92, lst42, ht]
      simp [escS]
    | false =>
      simp only [Bool.false_eq_true, if_false] at hx ⊢
      refine ih (i + 1) _ (by omega) (by omega) ?_
      rw [lst_append, lst_append, hx, Int.toNat_natCast, Int.toNat_natCast, hone, lst92, ht]
      simp [esc]

theorem GlobSelf : patchworklaw5_GlobSelf.Pure := by
  intro a0 a1 a2 w0 w1
  refine Ev.rounds (g := fun k => patchworklaw5_GlobSelf.f k a0 a1 a2) ?_
  simp only [patchworklaw5_GlobSelf.f]
  refine Ev.bind alive_ev ?_
  simp only [if_true]
  have out : ∀ (b : Bool), (b = false → a0.size ≤ 40 ∧ a1.size ≤ 60) → Ev (fun k => patchworklaw5_GlobSelf.j0 k a0 a1 a2 true b) true := by
    intro b hb
    refine Ev.step (fun k => by simp only [patchworklaw5_GlobSelf.j0]; exact rfl) ?_
    cases b with
    | true => simp only [if_true]; exact Ev.now _
    | false =>
      simp only [Bool.false_eq_true, if_false]
      obtain ⟨h0, h1⟩ := hb rfl
      exact self_l0 a0 a1 a2 h0 h1 _ 0 _ rfl (by omega) (by cases a2 <;> rfl)
  by_cases h : (a0.size : Int) > 40
  · simp only [if_pos h]
    exact out _ (fun h => by cases h)
  · simp only [if_neg h]
    exact out _ (fun hb => ⟨by omega, by have := of_decide_eq_false hb; omega⟩)

end Go.Proofs.Ytahfoeichmfloaa.Pure
