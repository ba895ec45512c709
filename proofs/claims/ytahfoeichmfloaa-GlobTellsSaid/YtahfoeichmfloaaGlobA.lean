/- Texts as rows of bytes; patterns of escaped bytes, and of plain ones, part by part. -/
import Derived.Test.YtahfoeichmfloaaGlobP
namespace Go.Proofs.Ytahfoeichmfloaa.GlobA
set_option linter.unusedSimpArgs false
set_option linter.unusedVariables false
open Go.RowKit Go.Proofs.YtahfoeichmfloaaW.PrintWords Go.Proofs.YtahfoeichmfloaaW.PrintLast Go.Proofs.Ytahfoeichmfloaa.Gl Go.Proofs.Ytahfoeichmfloaa.GlobM Go.Proofs.Ytahfoeichmfloaa.GlobP

theorem alive_ev : Ev (fun k => patchworklaw5_alive.f k) true := Ev.of patchworklaw5_alive.mono (k := 60) (by decide +kernel)

theorem wn (i : Nat) (h : i ≤ 1000000000) : wrap64 ((i : Int) + 1) = ((i + 1 : Nat) : Int) := by rw [w64 (by omega) (by omega)]; omega

theorem lst_append (a b : ByteArray) : lst (a ++ b) = lst a ++ lst b := by unfold lst; rw [show (a ++ b).data.toList = a.data.toList ++ b.data.toList by simp [ByteArray.data_append], List.map_append]
theorem lst_extract (s : ByteArray) (a b : Nat) : lst (s.extract a b) = ((lst s).drop a).take (b - a) := by
  unfold lst
  rw [Lib.extract_data, ← List.map_drop, ← List.map_take]
theorem lst_lit (l : List UInt8) : lst ⟨l.toArray⟩ = l.map fun b => (b.toNat : Int) := rfl
theorem lst1 (b : UInt8) : lst ⟨#[b]⟩ = [(b.toNat : Int)] := rfl
theorem lst42 : lst ⟨#[42]⟩ = [42] := rfl
theorem lst92 : lst ⟨#[92]⟩ = [92] := rfl
theorem lst47 : lst ⟨#[47]⟩ = [47] := rfl
theorem size1 (b : UInt8) : (⟨#[b]⟩ : ByteArray).size = 1 := rfl
theorem size_append (a b : ByteArray) : (a ++ b).size = a.size + b.size := by rw [← lst_len, lst_append, List.length_append, lst_len, lst_len]
theorem lst_one (s : ByteArray) (i : Nat) (h : i < s.size) : lst (s.extract i (i + 1)) = [bt s i] := by
  rw [lst_extract, lst_drop s i h, show i + 1 - i = 1 by omega]; rfl
theorem byte_inj {a b : UInt8} (h : (a.toNat : Int) = (b.toNat : Int)) : a = b := UInt8.toNat_inj.1 (by omega)
theorem map_inj : ∀ {l m : List UInt8}, (l.map fun b => (b.toNat : Int)) = m.map (fun b => (b.toNat : Int)) → l = m
  | [], [], _ => rfl
  | [], _ :: _, h => by simp at h
  | _ :: _, [], h => by simp at h
  | a :: l, b :: m, h => by
    simp only [List.map_cons, List.cons.injEq] at h
    rw [byte_inj h.1, map_inj h.2]
theorem same_iff (a b : ByteArray) : (a.toList == b.toList) = decide (lst a = lst b) := by
  rw [Bool.eq_iff_iff, beq_iff_eq, decide_eq_true_iff, Lib.toList_data, Lib.toList_data]
  exact ⟨fun h => by unfold lst; rw [h], fun h => map_inj h⟩
theorem size_lst (s : ByteArray) : s.size = (lst s).length := (lst_len s).symm
theorem bt_of {s : ByteArray} {i : Nat} {x : Int} (h : (lst s)[i]? = some x) : i < s.size ∧ bt s i = x := by
  have h' : i < s.size := by
    rcases Nat.lt_or_ge i s.size with h1 | h1
    · exact h1
    · rw [List.getElem?_eq_none (by rw [lst_len]; exact h1)] at h; cases h
  refine ⟨h', ?_⟩
  rw [lst_at s i h'] at h
  exact Option.some.inj h
theorem at_drop {l r : List Int} {i : Nat} {x : Int} (h : l.drop i = x :: r) : l[i]? = some x := by
  have := congrArg List.head? h
  simpa using this
theorem bt_pos (s : ByteArray) (i : Int) : 0 ≤ bt s i ∧ bt s i ≤ 255 := bt_range s i

/-- a byte that stands for itself -/
def eqp (x : Int) : Part := .one (fun c => x == c)
/-- each byte behind a backslash -/
def esc (l : List Int) : List Int := l.flatMap fun x => [92, x]
theorem esc_len (l : List Int) : (esc l).length = 2 * l.length := by
  induction l with
  | nil => rfl
  | cons x l ih => simp only [esc, List.flatMap_cons, List.length_append, List.length_cons, List.length_nil] at *; omega

theorem parse_esc {p : ByteArray} {is : List Part} {rest : List Int} : ∀ {l : List Int} {i : Nat}, (lst p).drop i = esc l ++ rest → Parse p (i + 2 * l.length) is → Parse p i (l.map eqp ++ is)
  | [], i, _, h => by simpa using h
  | x :: l, i, hd, h => by
    have hd' : (lst p).drop i = 92 :: x :: (esc l ++ rest) := by rw [hd]; simp [esc]
    have h0 := bt_of (at_drop hd')
    have hd1 : (lst p).drop (i + 1) = x :: (esc l ++ rest) := by rw [← List.drop_drop, hd']; rfl
    have h1 := bt_of (at_drop hd1)
    have hd2 : (lst p).drop (i + 2) = esc l ++ rest := by rw [← List.drop_drop, hd']; rfl
    have e : elemS p i = (fun c => x == c, i + 2) := by
      unfold elemS sgn
      rw [if_neg (by rw [h0.2]; decide), if_neg (by rw [h0.2]; decide), if_pos ⟨h0.2, h1.1⟩, h1.2]
    have hr := parse_esc hd2 (by rw [show i + 2 + 2 * l.length = i + 2 * (x :: l).length by simp; omega]; exact h)
    have := Parse.one (i := i) (is := l.map eqp ++ is) h0.1 (by rw [h0.2]; decide) (by rw [e]; exact hr)
    rw [e] at this
    exact this

theorem parse_star {p : ByteArray} {is : List Part} {rest : List Int} {i : Nat} (hd : (lst p).drop i = 42 :: rest) (h : Parse p (i + 1) is) : Parse p i (.star :: is) := by
  have h0 := bt_of (at_drop hd)
  exact .star h0.1 h0.2 h
theorem parse_end {p : ByteArray} {i : Nat} (h : i = p.size) : Parse p i [] := by subst h; exact .done

theorem eqp_ones (l : List Int) : Ones (l.map eqp) := by
  intro x hx
  obtain ⟨y, _, rfl⟩ := List.mem_map.1 hx
  refine ⟨_, rfl, ?_⟩
  intro h c hc
  rw [beq_iff_eq] at h hc
  omega
theorem takes_eqp : ∀ (l m : List Int), takes (l.map eqp) m = decide (m.take l.length = l)
  | [], m => by simp [takes]
  | x :: l, [] => by simp [takes, eqp]
  | x :: l, y :: m => by
    have := takes_eqp l m
    simp only [List.map_cons, eqp] at this ⊢
    simp only [takes, List.length_cons, List.take_succ_cons, List.cons.injEq] at this ⊢
    rw [this, Bool.eq_iff_iff]
    simp only [Bool.and_eq_true, beq_iff_eq, decide_eq_true_iff]
    exact ⟨fun h => ⟨h.1.symm, h.2⟩, fun h => ⟨h.1.symm, h.2⟩⟩
theorem M_nil (l : List Int) : M [] l = decide (l = []) := by cases l <;> simp [M]
theorem M_eqp (l m : List Int) : M (l.map eqp) m = decide (l = m) := by
  have := M_seg (eqp_ones l) [] m
  rw [List.append_nil] at this
  rw [this, takes_eqp, M_nil, Bool.eq_iff_iff]
  simp only [Bool.and_eq_true, decide_eq_true_iff, List.length_map, List.drop_eq_nil_iff]
  constructor
  · rintro ⟨h1, h2⟩
    rw [← h1]; exact (List.take_of_length_le h2)
  · rintro rfl
    exact ⟨List.take_of_length_le (Nat.le_refl _), Nat.le_refl _⟩
/-- no sign -/
def free (l : List Int) : Bool := l.all (· != 47)
theorem M_star_end (l : List Int) : M [.star] l = free l := by
  induction l with
  | nil => simp [M_star_nil, M_nil, free]
  | cons c l ih => rw [M_star_cons, ih, M_nil]; simp [free]
theorem free_iff (l : List Int) : free l = true ↔ ∀ j : Nat, l[j]? ≠ some 47 := by
  unfold free
  rw [List.all_eq_true]
  constructor
  · intro h j e
    have := h 47 (List.mem_of_getElem? e)
    simp at this
  · intro h x hx
    obtain ⟨j, hj, rfl⟩ := List.getElem_of_mem hx
    rw [bne_iff_ne]
    intro e
    exact h j (by rw [List.getElem?_eq_getElem hj, e])
/-- any bytes but a sign, then these -/
theorem M_star_eqp (l m : List Int) : M (.star :: l.map eqp) m = (decide (l.length ≤ m.length) && decide (m.drop (m.length - l.length) = l) && free (m.take (m.length - l.length))) := by
  rw [Bool.eq_iff_iff, starM_iff]
  simp only [M_eqp, Bool.and_eq_true, decide_eq_true_iff, free_iff]
  constructor
  · rintro ⟨t, ht, hn, hm⟩
    have hl := congrArg List.length hm
    rw [List.length_drop] at hl
    have : m.length - l.length = t := by omega
    rw [this]
    refine ⟨⟨by omega, hm.symm⟩, ?_⟩
    intro j e
    rw [List.getElem?_take] at e
    split at e
    · rename_i h; exact hn j h e
    · cases e
  · rintro ⟨⟨h1, h2⟩, h3⟩
    refine ⟨m.length - l.length, by omega, ?_, h2.symm⟩
    intro j hj e
    exact h3 j (by rw [List.getElem?_take, if_pos hj]; exact e)
theorem M_eqp_star (l m : List Int) : M (l.map eqp ++ [.star]) m = (decide (m.take l.length = l) && free (m.drop l.length)) := by
  rw [M_seg (eqp_ones l), takes_eqp, M_star_end, List.length_map]

/-- two rows of parts, one behind the other -/
theorem M_append (a b : List Part) (l : List Int) : M (a ++ b) l = true ↔ ∃ t, t ≤ l.length ∧ M a (l.take t) = true ∧ M b (l.drop t) = true := by
  induction a generalizing l with
  | nil =>
    simp only [List.nil_append, M_nil]
    constructor
    · intro h; exact ⟨0, by omega, by simp, by simpa using h⟩
    · rintro ⟨t, ht, h1, h2⟩
      simp only [decide_eq_true_iff, List.take_eq_nil_iff] at h1
      rcases h1 with rfl | rfl
      · simpa using h2
      · simpa using h2
  | cons x a ih =>
    cases x with
    | one ok =>
      cases l with
      | nil =>
        simp only [List.cons_append, M_one_nil, List.take_nil]
        simp
      | cons c cs =>
        simp only [List.cons_append, M_one_cons, Bool.and_eq_true, ih]
        constructor
        · rintro ⟨hc, t, ht, h1, h2⟩
          exact ⟨t + 1, by simp; omega, by simp [M_one_cons, hc, h1], by simpa using h2⟩
        · rintro ⟨t, ht, h1, h2⟩
          cases t with
          | zero => simp [M_one_nil] at h1
          | succ t =>
            simp only [List.take_succ_cons, M_one_cons, Bool.and_eq_true] at h1
            exact ⟨h1.1, t, by simpa using ht, h1.2, by simpa using h2⟩
    | star =>
      simp only [List.cons_append, starM_iff, ih]
      constructor
      · rintro ⟨s, hs, hn, t, ht, h1, h2⟩
        simp only [List.length_drop] at ht
        refine ⟨s + t, by omega, ⟨s, by simp; omega, ?_, ?_⟩, by simpa [List.drop_drop] using h2⟩
        · intro j hj e
          rw [List.getElem?_take] at e
          split at e
          · exact hn j hj e
          · cases e
        · rw [List.drop_take, show s + t - s = t by omega]; exact h1
      · rintro ⟨t, ht, ⟨s, hs, hn, h1⟩, h2⟩
        simp only [List.length_take] at hs
        refine ⟨s, by omega, ?_, t - s, by simp; omega, ?_, ?_⟩
        · intro j hj e
          exact hn j hj (by rw [List.getElem?_take, if_pos (by omega)]; exact e)
        · rw [List.drop_take] at h1; exact h1
        · rw [List.drop_drop, show s + (t - s) = t by omega]; exact h2

/-- a byte of a pattern without brackets and backslashes -/
def plainPart (c : Int) : Part := if c = 42 then .star else if c = 63 then .one (fun d => d != 47) else .one (fun d => c == d)
theorem parse_plain {p : ByteArray} {is : List Part} {rest : List Int} : ∀ {l : List Int} {i : Nat}, (lst p).drop i = l ++ rest → (∀ x ∈ l, x ≠ 91 ∧ x ≠ 92) → Parse p (i + l.length) is → Parse p i (l.map plainPart ++ is)
  | [], i, _, _, h => by simpa using h
  | x :: l, i, hd, hx, h => by
    have h0 := bt_of (at_drop (by rw [hd]; rfl) : (lst p)[i]? = some x)
    have hd1 : (lst p).drop (i + 1) = l ++ rest := by rw [← List.drop_drop, hd]; rfl
    have hr := parse_plain hd1 (fun y hy => hx y (by simp [hy])) (by rw [show i + 1 + l.length = i + (x :: l).length by simp; omega]; exact h)
    have hxx := hx x (by simp)
    by_cases h42 : x = 42
    · have := Parse.star (i := i) h0.1 (by rw [h0.2, h42]) hr
      simpa [plainPart, h42] using this
    · by_cases h63 : x = 63
      · have e : elemS p i = (fun c => c != 47, i + 1) := by
          unfold elemS
          rw [if_pos (by rw [h0.2, h63])]
        have := Parse.one (i := i) (is := l.map plainPart ++ is) h0.1 (by rw [h0.2]; exact h42) (by rw [e]; exact hr)
        rw [e] at this
        simpa [plainPart, h63] using this
      · have e : elemS p i = (fun c => x == c, i + 1) := by
          unfold elemS sgn
          rw [if_neg (by rw [h0.2]; exact h63), if_neg (by rw [h0.2]; exact hxx.1), if_neg (by rw [h0.2]; exact fun h => hxx.2 h.1), h0.2]
        have := Parse.one (i := i) (is := l.map plainPart ++ is) h0.1 (by rw [h0.2]; exact h42) (by rw [e]; exact hr)
        rw [e] at this
        simpa [plainPart, h42, h63] using this

end Go.Proofs.Ytahfoeichmfloaa.GlobA
