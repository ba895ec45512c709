/- What a pattern takes, in plain words: a row of items (a star, or one byte that is let in), over a row of bytes; and why it is enough to go back to the last star. -/
namespace Go.Proofs.Ytahfoeichmfloaa.GlobM

/-- A part of a pattern: any bytes but a sign, or one byte that is let in. -/
inductive Part where
  | star
  | one (ok : Int → Bool)

/-- Does a row of items take all of a text? -/
def M : List Part → List Int → Bool
  | [], [] => true
  | [], _ :: _ => false
  | .star :: is, l => starM (M is) l
  | .one _ :: _, [] => false
  | .one ok :: is, c :: cs => ok c && M is cs
where
  starM (m : List Int → Bool) : List Int → Bool
    | [] => m []
    | c :: cs => m (c :: cs) || (c != 47 && starM m cs)

theorem M_nil_nil : M [] [] = true := by simp [M]
theorem M_nil_cons (c : Int) (cs : List Int) : M [] (c :: cs) = false := by simp [M]
theorem M_one_nil (ok : Int → Bool) (is : List Part) : M (.one ok :: is) [] = false := by simp [M]
theorem M_one_cons (ok : Int → Bool) (is : List Part) (c : Int) (cs : List Int) : M (.one ok :: is) (c :: cs) = (ok c && M is cs) := by simp [M]
theorem M_star_nil (is : List Part) : M (.star :: is) [] = M is [] := by simp [M, M.starM]
theorem M_star_cons (is : List Part) (c : Int) (cs : List Int) : M (.star :: is) (c :: cs) = (M is (c :: cs) || (c != 47 && M (.star :: is) cs)) := by simp [M, M.starM]

/-- What can be had by letting the last star take one byte more. -/
def retry (is : List Part) : List Int → Bool
  | [] => false
  | c :: cs => c != 47 && M (.star :: is) cs

theorem M_star (is : List Part) (l : List Int) : M (.star :: is) l = (M is l || retry is l) := by
  cases l with
  | nil => simp [M_star_nil, retry]
  | cons c cs => simp [M_star_cons, retry]

/-- Whoever lets a sign in lets nothing else in. -/
def Keeps (ok : Int → Bool) : Prop := ok 47 = true → ∀ c, ok c = true → c = 47

/-- All parts are single bytes, and keep to that. -/
def Ones (is : List Part) : Prop := ∀ x ∈ is, ∃ ok, x = .one ok ∧ Keeps ok

/-- A row of single bytes takes a text's beginning. -/
def takes : List Part → List Int → Bool
  | [], _ => true
  | .one ok :: is, c :: cs => ok c && takes is cs
  | _, _ => false

theorem M_seg {seg : List Part} (h : Ones seg) (is : List Part) (l : List Int) : M (seg ++ is) l = (takes seg l && M is (l.drop seg.length)) := by
  induction seg generalizing l with
  | nil => simp [takes]
  | cons x seg ih =>
    obtain ⟨ok, rfl, _⟩ := h x (by simp)
    cases l with
    | nil => simp [M, takes]
    | cons c cs =>
      have := ih (fun y hy => h y (by simp [hy])) cs
      simp [M, takes, this, Bool.and_assoc]

theorem takes_snoc {seg : List Part} (h : Ones seg) (ok : Int → Bool) (l : List Int) :
    takes (seg ++ [.one ok]) l = (takes seg l && (match l.drop seg.length with | [] => false | c :: _ => ok c)) := by
  induction seg generalizing l with
  | nil => cases l <;> simp [takes]
  | cons x seg ih =>
    obtain ⟨ok', rfl, _⟩ := h x (by simp)
    cases l with
    | nil => simp [takes]
    | cons c cs =>
      have := ih (fun y hy => h y (by simp [hy])) cs
      simp [takes, this, Bool.and_assoc]

theorem takes_length {seg : List Part} {l : List Int} (ht : takes seg l = true) : seg.length ≤ l.length := by
  induction seg generalizing l with
  | nil => simp
  | cons x seg ih =>
    cases x with
    | star => simp [takes] at ht
    | one ok =>
      cases l with
      | nil => simp [takes] at ht
      | cons c cs => simp [takes] at ht; have := ih ht.2; simp; omega

/-- the byte that a part of the row takes -/
theorem takes_at {seg : List Part} (h : Ones seg) {l : List Int} (ht : takes seg l = true) (j : Nat) (hj : j < seg.length) :
    ∃ ok, seg[j]? = some (.one ok) ∧ Keeps ok ∧ ∃ c, l[j]? = some c ∧ ok c = true := by
  induction seg generalizing l j with
  | nil => simp at hj
  | cons x seg ih =>
    obtain ⟨ok, rfl, hl⟩ := h x (by simp)
    cases l with
    | nil => simp [takes] at ht
    | cons c cs =>
      simp [takes] at ht
      cases j with
      | zero => exact ⟨ok, rfl, hl, c, rfl, ht.1⟩
      | succ j =>
        obtain ⟨ok', h1, h2, c', h3, h4⟩ := ih (fun y hy => h y (by simp [hy])) ht.2 j (by simpa using hj)
        exact ⟨ok', by simpa using h1, h2, c', by simpa using h3, h4⟩

/-- a star in terms of how far it goes -/
theorem starM_iff (is : List Part) (l : List Int) : M (.star :: is) l = true ↔ ∃ t, t ≤ l.length ∧ (∀ j, j < t → l[j]? ≠ some 47) ∧ M is (l.drop t) = true := by
  induction l with
  | nil =>
    simp only [M_star_nil]
    constructor
    · intro h; exact ⟨0, by simp, by intro j hj; omega, by simpa using h⟩
    · rintro ⟨t, ht, _, h⟩
      simp at ht
      subst ht
      simpa using h
  | cons c cs ih =>
    rw [M_star_cons]
    constructor
    · intro h
      rcases Bool.or_eq_true_iff.1 h with h | h
      · exact ⟨0, by simp, by intro j hj; omega, by simpa using h⟩
      · obtain ⟨hc, h⟩ := Bool.and_eq_true_iff.1 h
        obtain ⟨t, ht, hn, hm⟩ := ih.1 h
        refine ⟨t + 1, by simp; omega, ?_, by simpa using hm⟩
        intro j hj
        cases j with
        | zero => simp; simpa using hc
        | succ j => simpa using hn j (by omega)
    · rintro ⟨t, ht, hn, hm⟩
      cases t with
      | zero => simp at hm; simp [hm]
      | succ t =>
        have hc := hn 0 (by omega)
        have : M (.star :: is) cs = true := ih.2 ⟨t, by simpa using ht, fun j hj => by simpa using hn (j + 1) (by omega), by simpa using hm⟩
        simp at hc
        simp [hc, this]

/-- No sign stands between the two ends of a row that is met twice. -/
theorem no_sign {seg : List Part} (h : Ones seg) {l : List Int} {d : Nat} (h1 : takes seg l = true) (h2 : takes seg (l.drop d) = true) (hd : 0 < d)
    (hn : ∀ j, j < d → l[j]? ≠ some 47) : ∀ (j : Nat), j < seg.length → l[d + j]? = some 47 → False := by
  intro j
  induction j using Nat.strongRecOn with
  | _ j ih =>
    intro hj e
    obtain ⟨ok, ha, hl, c, hc, ho⟩ := takes_at h h1 j hj
    obtain ⟨ok', ha', _, c', hc', ho'⟩ := takes_at h h2 j hj
    rw [ha] at ha'
    cases ha'
    rw [List.getElem?_drop] at hc'
    rw [e] at hc'
    cases hc'
    have : c = 47 := hl ho' c ho
    subst this
    by_cases hjd : j < d
    · exact hn j hjd hc
    · exact ih (j - d) (by omega) (by omega) (by rw [show d + (j - d) = j by omega]; exact hc)

/-- THE LAST STAR IS ENOUGH: what an elder star could still take, the new one takes too. -/
theorem last_star {seg is : List Part} (h : Ones seg) {l : List Int} (h1 : takes seg l = true) (hr : retry (seg ++ .star :: is) l = true) : M (.star :: is) (l.drop seg.length) = true := by
  cases l with
  | nil => simp [retry] at hr
  | cons c cs =>
    simp only [retry, Bool.and_eq_true_iff] at hr
    obtain ⟨hc, hm⟩ := hr
    obtain ⟨t, ht, hn, hm⟩ := (starM_iff _ _).1 hm
    rw [M_seg h, Bool.and_eq_true_iff] at hm
    obtain ⟨h2, hm⟩ := hm
    have hn' : ∀ j, j < t + 1 → (c :: cs)[j]? ≠ some 47 := by
      intro j hj
      cases j with
      | zero => simp; simpa using hc
      | succ j => simpa using hn j (by omega)
    have h2' : takes seg ((c :: cs).drop (t + 1)) = true := by simpa using h2
    have key := no_sign h h1 h2' (by omega) hn'
    obtain ⟨u, hu, hv, hw⟩ := (starM_iff _ _).1 hm
    have hlen := takes_length h1
    have hlen2 := takes_length h2'
    simp only [List.length_drop, List.length_cons] at hlen2 hu hlen
    refine (starM_iff _ _).2 ⟨t + 1 + u, by simp; omega, ?_, ?_⟩
    · intro j hj e
      rw [List.getElem?_drop] at e
      by_cases hjt : j < t + 1
      · by_cases hz : seg.length + j < t + 1
        · exact hn' _ hz e
        · exact key (seg.length + j - (t + 1)) (by omega) (by rw [show t + 1 + (seg.length + j - (t + 1)) = seg.length + j by omega]; exact e)
      · refine hv (j - (t + 1)) (by omega) ?_
        rw [List.getElem?_drop, List.getElem?_drop]
        rw [show seg.length + j = (t + (seg.length + (j - (t + 1)))) + 1 by omega] at e
        simpa using e
    · simp only [List.drop_drop] at hw ⊢
      rw [show seg.length + (t + 1 + u) = (t + seg.length + u) + 1 by omega]
      simpa using hw

end Go.Proofs.Ytahfoeichmfloaa.GlobM
