/- A pattern and another one with a sign between match a name just if it is two, with a sign between, that they match: the plain statement of GlobPaths; no condition. -/
import Derived.Test.YtahfoeichmfloaaGlx11
import Derived.Test.YtahfoeichmfloaaGlobA
namespace Go.Proofs.Ytahfoeichmfloaa.Pure
set_option linter.unusedSimpArgs false
set_option linter.unusedVariables false
open Go.RowKit Go.Proofs.YtahfoeichmfloaaW.PrintWords Go.Proofs.YtahfoeichmfloaaW.PrintLast Go.Proofs.Ytahfoeichmfloaa.Gl Go.Proofs.Ytahfoeichmfloaa.GlobM Go.Proofs.Ytahfoeichmfloaa.GlobP Go.Proofs.Ytahfoeichmfloaa.GlobA

def PlainT (s : ByteArray) : Prop := ∀ x ∈ lst s, x ≠ 91 ∧ x ≠ 92
theorem plain_ev (p n : ByteArray) (hp : p.size ≤ 1000000) (hn : n.size ≤ 1000000) (h : PlainT p) : Ev (fun k => glob_Match.f k p n) (M ((lst p).map plainPart) (lst n)) := by
  refine match_ev p n _ hp hn ?_
  have := parse_plain (p := p) (is := []) (rest := []) (l := lst p) (i := 0) (by simp) h (parse_end (by rw [lst_len]; omega))
  simpa using this

theorem paths_iff (a b : List Part) (l : List Int) : M (a ++ eqp 47 :: b) l = true ↔ ∃ t, t < l.length ∧ l[t]? = some 47 ∧ M a (l.take t) = true ∧ M b (l.drop (t + 1)) = true := by
  rw [M_append]
  constructor
  · rintro ⟨t, ht, h1, h2⟩
    cases hd : l.drop t with
    | nil => rw [hd, eqp, M_one_nil] at h2; cases h2
    | cons c cs =>
      rw [hd, eqp, M_one_cons, Bool.and_eq_true, beq_iff_eq] at h2
      have hlt : t < l.length := by
        rcases Nat.lt_or_ge t l.length with h | h
        · exact h
        · rw [List.drop_eq_nil_iff.2 h] at hd; cases hd
      refine ⟨t, hlt, by rw [at_drop hd, ← h2.1], h1, ?_⟩
      rw [← List.drop_drop, hd]; exact h2.2
  · rintro ⟨t, ht, h0, h1, h2⟩
    refine ⟨t, by omega, h1, ?_⟩
    rw [List.drop_eq_getElem_cons ht, eqp, M_one_cons, Bool.and_eq_true, beq_iff_eq]
    rw [List.getElem?_eq_getElem ht] at h0
    exact ⟨(Option.some.inj h0).symm, h2⟩

theorem paths_l1 (a0 a1 a2 : ByteArray) (h0 : a0.size ≤ 20) (h1 : a1.size ≤ 20) (h2 : a2.size ≤ 40) (p0 : PlainT a0) (p1 : PlainT a1) (V : Bool)
    (hV : Ev (fun k => glob_Match.f k ((a0 ++ (⟨#[47]⟩ : ByteArray)) ++ a1) a2) V) : ∀ (d i : Nat) (x10 : Bool), a2.size - i = d → i ≤ a2.size →
    (V = true ↔ x10 = true ∨ ∃ t, i ≤ t ∧ t < (lst a2).length ∧ (lst a2)[t]? = some 47 ∧ M ((lst a0).map plainPart) ((lst a2).take t) = true ∧ M ((lst a1).map plainPart) ((lst a2).drop (t + 1)) = true) →
    Ev (fun k => patchworklaw5_GlobPaths.l1 k a0 a1 a2 x10 i) true := by
  intro d
  induction d with
  | zero =>
    intro i x10 hd hi he
    have hi : i = a2.size := by omega
    subst hi
    refine Ev.step (fun k => by simp only [patchworklaw5_GlobPaths.l1]; exact rfl) ?_
    simp only [if_neg (show ¬ (a2.size : Int) < (a2.size : Int) by omega), if_pos (show a0.size + 1 ≤ 9223372036854775807 by omega),
      if_pos (show (a0 ++ (⟨#[47]⟩ : ByteArray)).size + a1.size ≤ 9223372036854775807 by rw [size_append, size1]; omega)]
    refine Ev.bind hV ?_
    have : V = x10 := by
      rw [Bool.eq_iff_iff, he]
      refine ⟨fun h => h.elim id ?_, .inl⟩
      rintro ⟨t, ht, ht', _⟩
      rw [lst_len] at ht'
      omega
    subst this
    simp only [beq_self_eq_true]
    exact Ev.now _
  | succ d ih =>
    intro i x10 hd hi he
    have hlt : i < a2.size := by omega
    have hd' : a2.size - (i + 1) = d := by clear he; omega
    have e1 : wrap64 ((i : Int) + 1) = ((i + 1 : Nat) : Int) := wn i (by omega)
    refine Ev.step (fun k => by simp only [patchworklaw5_GlobPaths.l1]; exact rfl) ?_
    simp only [e1, if_pos (show (i : Int) < (a2.size : Int) by omega), if_pos (show (0 : Int) ≤ (i : Int) by omega), if_pos (show (i : Int) ≤ (a2.size : Int) by omega), if_pos (show (0 : Int) ≤ ((i + 1 : Nat) : Int) by omega),
      if_pos (show ((i + 1 : Nat) : Int) ≤ (a2.size : Int) by omega)]
    cases x10 with
    | true =>
      simp only [if_true]
      exact ih (i + 1) true hd' hlt (by rw [he]; simp)
    | false =>
      simp only [Bool.false_eq_true, if_false]
      simp only [Bool.false_eq_true, false_or] at he
      have next : ∀ y : Bool, (y = true ↔ (lst a2)[i]? = some 47 ∧ M ((lst a0).map plainPart) ((lst a2).take i) = true ∧ M ((lst a1).map plainPart) ((lst a2).drop (i + 1)) = true) → Ev (fun k => patchworklaw5_GlobPaths.l1 k a0 a1 a2 y ((i + 1 : Nat) : Int)) true := by
        intro y hy
        refine ih (i + 1) y hd' hlt ?_
        rw [he, hy]
        constructor
        · rintro ⟨t, ht, ht', h⟩
          by_cases e : t = i
          · subst e; exact .inl h
          · exact .inr ⟨t, by omega, ht', h⟩
        · rintro (h | ⟨t, ht, ht', h⟩)
          · exact ⟨i, Nat.le_refl _, by rw [lst_len]; exact hlt, h⟩
          · exact ⟨t, by omega, ht', h⟩
      rw [lst_at a2 i hlt] at next
      by_cases h47 : bt a2 i = 47
      · simp only [if_pos h47]
        have hm0 := plain_ev a0 (a2.extract 0 ((i : Int)).toNat) (by omega) (by rw [size_lst, lst_extract, List.length_take, List.length_drop, lst_len]; omega) p0
        rw [lst_extract, Int.toNat_natCast, Nat.sub_zero, List.drop_zero] at hm0
        have hm1 := plain_ev a1 (a2.extract (((i + 1 : Nat) : Int)).toNat a2.size) (by omega) (by rw [size_lst, lst_extract, List.length_take, List.length_drop, lst_len]; omega) p1
        rw [lst_extract, Int.toNat_natCast, List.take_of_length_le (by rw [List.length_drop, lst_len]; exact Nat.le_refl _)] at hm1
        refine Ev.bind hm0 ?_
        cases hv : M ((lst a0).map plainPart) ((lst a2).take i) with
        | true =>
          simp only [if_true]
          refine Ev.bind hm1 ?_
          refine next _ ?_
          rw [h47, hv]
          simp
        | false =>
          simp only [Bool.false_eq_true, if_false]
          refine next _ ?_
          rw [hv]
          simp
      · simp only [if_neg h47]
        refine next _ ?_
        simp [h47]

theorem paths_l0 (a0 a1 a2 : ByteArray) (h0 : a0.size ≤ 20) (h1 : a1.size ≤ 20) (h2 : a2.size ≤ 40) : ∀ (d i : Nat), (a0 ++ a1).size - i = d → i ≤ (a0 ++ a1).size → (∀ x ∈ (lst (a0 ++ a1)).take i, x ≠ 91 ∧ x ≠ 92 ∧ x ≠ 47) →
    Ev (fun k => patchworklaw5_GlobPaths.l0 k a0 a1 a2 i) true := by
  have hsz : (a0 ++ a1).size = a0.size + a1.size := size_append _ _
  intro d
  induction d with
  | zero =>
    intro i hd hi hx
    have hi : i = (a0 ++ a1).size := by omega
    subst hi
    rw [List.take_of_length_le (by rw [lst_len]; exact Nat.le_refl _), lst_append] at hx
    have p0 : PlainT a0 := fun x h => ⟨(hx x (by simp [h])).1, (hx x (by simp [h])).2.1⟩
    have p1 : PlainT a1 := fun x h => ⟨(hx x (by simp [h])).1, (hx x (by simp [h])).2.1⟩
    refine Ev.step (fun k => by simp only [patchworklaw5_GlobPaths.l0]; exact rfl) ?_
    simp only [if_pos (show a0.size + a1.size ≤ 9223372036854775807 by omega), if_neg (show ¬ ((a0 ++ a1).size : Int) < ((a0 ++ a1).size : Int) by omega)]
    have hV := plain_ev ((a0 ++ (⟨#[47]⟩ : ByteArray)) ++ a1) a2 (by rw [size_append, size_append, size1]; omega) (by omega) (by
      intro x h
      rw [lst_append, lst_append, lst47] at h
      simp only [List.mem_append, List.mem_singleton] at h
      rcases h with (h | h) | h
      · exact p0 x h
      · subst h; decide
      · exact p1 x h)
    refine paths_l1 a0 a1 a2 h0 h1 h2 p0 p1 _ hV _ 0 false rfl (by omega) ?_
    rw [lst_append, lst_append, lst47]
    have : ((lst a0 ++ [47] ++ lst a1).map plainPart) = (lst a0).map plainPart ++ eqp 47 :: (lst a1).map plainPart := by simp [plainPart, eqp]
    rw [this, paths_iff]
    simp
  | succ d ih =>
    intro i hd hi hx
    have hlt : i < (a0 ++ a1).size := by omega
    have e1 : wrap64 ((i : Int) + 1) = ((i + 1 : Nat) : Int) := wn i (by omega)
    refine Ev.step (fun k => by simp only [patchworklaw5_GlobPaths.l0]; exact rfl) ?_
    simp only [e1, if_pos (show a0.size + a1.size ≤ 9223372036854775807 by omega), if_pos (show (i : Int) < ((a0 ++ a1).size : Int) by omega), if_pos (show (0 : Int) ≤ (i : Int) by omega)]
    by_cases g1 : bt (a0 ++ a1) i = 91
    · simp only [if_pos g1]; exact Ev.now _
    by_cases g2 : bt (a0 ++ a1) i = 92
    · simp only [if_neg g1, if_pos g2]; exact Ev.now _
    by_cases g3 : bt (a0 ++ a1) i = 47
    · simp only [if_neg g1, if_neg g2, if_pos g3]; exact Ev.now _
    simp only [if_neg g1, if_neg g2, if_neg g3]
    refine ih (i + 1) (by omega) (by omega) ?_
    rw [List.take_add_one, lst_at _ i hlt]
    intro x h
    rcases List.mem_append.1 h with h | h
    · exact hx x h
    · simp at h; subst h; exact ⟨g1, g2, g3⟩

theorem GlobPaths : patchworklaw5_GlobPaths.Pure := by
  intro a0 a1 a2 w0 w1 w2
  refine Ev.rounds (g := fun k => patchworklaw5_GlobPaths.f k a0 a1 a2) ?_
  simp only [patchworklaw5_GlobPaths.f]
  refine Ev.bind alive_ev ?_
  simp only [if_true]
  have out : ∀ (b : Bool), (b = false → a0.size ≤ 20 ∧ a1.size ≤ 20 ∧ a2.size ≤ 40) → Ev (fun k => patchworklaw5_GlobPaths.j0 k a0 a1 a2 true b) true := by
    intro b hb
    refine Ev.step (fun k => by simp only [patchworklaw5_GlobPaths.j0]; exact rfl) ?_
    cases b with
    | true => simp only [if_true]; exact Ev.now _
    | false =>
      simp only [Bool.false_eq_true, if_false]
      obtain ⟨h0, h1, h2⟩ := hb rfl
      exact paths_l0 a0 a1 a2 h0 h1 h2 _ 0 rfl (by omega) (by simp)
  by_cases h : (a0.size : Int) > 20
  · simp only [if_pos h]
    exact out _ (fun h => by cases h)
  · simp only [if_neg h]
    by_cases h' : (a1.size : Int) > 20
    · simp only [if_pos h']
      exact out _ (fun h => by cases h)
    · simp only [if_neg h']
      exact out _ (fun hb => ⟨by omega, by omega, by have := of_decide_eq_false hb; omega⟩)

end Go.Proofs.Ytahfoeichmfloaa.Pure
