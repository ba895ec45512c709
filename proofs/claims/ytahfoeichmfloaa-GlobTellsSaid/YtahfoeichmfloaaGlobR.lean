/- What the document's own glob answers, with rounds enough: whether the pattern's parts take the name's bytes. -/
import Derived.Test.YtahfoeichmfloaaGlx7
import Derived.Test.YtahfoeichmfloaaGlobA
namespace Go.Proofs.Ytahfoeichmfloaa.GlobR
set_option linter.unusedSimpArgs false
set_option linter.unusedVariables false
open Go.RowKit Go.Proofs.YtahfoeichmfloaaW.PrintWords Go.Proofs.YtahfoeichmfloaaW.PrintLast Go.Proofs.Ytahfoeichmfloaa.Gl Go.Proofs.Ytahfoeichmfloaa.GlobM Go.Proofs.Ytahfoeichmfloaa.GlobP Go.Proofs.Ytahfoeichmfloaa.GlobA

theorem digit_eq (c : Int) : patchworkref1_digit.f c = some (decide (48 ≤ c) && decide (c ≤ 57)) := by
  simp only [patchworkref1_digit.f]
  by_cases h : (48 : Int) ≤ c
  · simp [h]
  · simp [h]

theorem class_j1 (s : ByteArray) (c : Int) (k : Nat) :
    patchworkref1_class.j1 (k + 1) s c (decide (65 ≤ c) && decide (c ≤ 90)) (decide (97 ≤ c) && decide (c ≤ 122)) = some (clsB s.data.toList c, isCls s.data.toList) := by
  simp only [patchworkref1_class.j1, Lib.toList_data, isCls, clsB, digit_eq]
  generalize s.data.toList = l
  generalize hu : (decide ((65 : Int) ≤ c) && decide (c ≤ 90)) = u
  generalize hw : (decide ((97 : Int) ≤ c) && decide (c ≤ 122)) = w
  generalize hd : (decide ((48 : Int) ≤ c) && decide (c ≤ 57)) = d
  by_cases h1 : l = [97, 108, 112, 104, 97]
  · subst h1; cases u <;> cases w <;> simp
  by_cases h2 : l = [100, 105, 103, 105, 116]
  · subst h2; simp
  by_cases h3 : l = [117, 112, 112, 101, 114]
  · subst h3; simp
  by_cases h4 : l = [108, 111, 119, 101, 114]
  · subst h4; simp
  by_cases h5 : l = [97, 108, 110, 117, 109]
  · subst h5; cases u <;> cases w <;> simp
  by_cases h6 : l = [115, 112, 97, 99, 101]
  · subst h6
    by_cases g1 : 9 ≤ c
    · by_cases g2 : c ≤ 13
      · simp [g1, g2]
      · simp [g1, g2]
    · simp [g1]
  · simp [h1, h2, h3, h4, h5, h6]

theorem class_ev (s : ByteArray) (c : Int) : Ev (fun k => patchworkref1_class.f k s c) (clsB s.data.toList c, isCls s.data.toList) := by
  have j0 : Ev (fun k => patchworkref1_class.j0 k s c (decide (65 ≤ c) && decide (c ≤ 90))) (clsB s.data.toList c, isCls s.data.toList) := by
    refine ⟨2, fun k hk => ?_⟩
    obtain ⟨k, rfl⟩ : ∃ m, k = m + 1 + 1 := ⟨k - 2, by omega⟩
    have := class_j1 s c k
    simp only [patchworkref1_class.j0]
    by_cases h : (97 : Int) ≤ c
    · rw [if_pos h]
      rw [decide_eq_true h, Bool.true_and] at this
      exact this
    · rw [if_neg h]
      rw [decide_eq_false h, Bool.false_and] at this
      exact this
  simp only [patchworkref1_class.f]
  by_cases h : (65 : Int) ≤ c
  · simp only [if_pos (show c ≥ 65 from h)]
    rw [decide_eq_true h, Bool.true_and] at j0
    exact j0
  · simp only [if_neg (show ¬ c ≥ 65 from h)]
    rw [decide_eq_false h, Bool.false_and] at j0
    exact j0

/-! ### a class's name -/
theorem nocolon {l : List UInt8} (h : isCls l = true) : (58 : UInt8) ∉ l := by
  unfold isCls at h
  simp only [Bool.or_eq_true, beq_iff_eq] at h
  rcases h with ((((rfl | rfl) | rfl) | rfl) | rfl) | rfl <;> decide

theorem dat_len (p : ByteArray) : p.data.toList.length = p.size := by rw [Array.length_toList]; rfl
theorem dat_drop (p : ByteArray) (i : Nat) (h : i < p.size) : ∃ b : UInt8, p.data.toList.drop i = b :: p.data.toList.drop (i + 1) ∧ bt p i = (b.toNat : Int) := by
  have h' : i < p.data.toList.length := by rw [dat_len]; exact h
  refine ⟨p.data.toList[i], List.drop_eq_getElem_cons h', ?_⟩
  have := lst_at p i h
  unfold lst at this
  rw [List.getElem?_map, List.getElem?_eq_getElem h'] at this
  exact (Option.some.inj this).symm
theorem pair_iff {p : ByteArray} {i : Nat} (h : i + 1 < p.size) (x y : UInt8) : [x, y].isPrefixOf (p.data.toList.drop i) = true ↔ bt p i = (x.toNat : Int) ∧ bt p (i + 1 : Nat) = (y.toNat : Int) := by
  obtain ⟨b, hb, e⟩ := dat_drop p i (by omega)
  obtain ⟨b', hb', e'⟩ := dat_drop p (i + 1) h
  rw [hb, hb', e, e']
  simp only [List.isPrefixOf, Bool.and_true, Bool.and_eq_true, beq_iff_eq]
  constructor
  · rintro ⟨rfl, rfl⟩; exact ⟨rfl, rfl⟩
  · rintro ⟨h1, h2⟩; exact ⟨byte_inj h1.symm, byte_inj h2.symm⟩
theorem pair_short {l : List UInt8} (h : l.length < 2) (x y : UInt8) : [x, y].isPrefixOf l = false := by
  match l, h with
  | [], _ => rfl
  | [_], _ => simp [List.isPrefixOf]

/-- does a class's name end so far behind the place -/
def hit (s : List UInt8) (u : Nat) : Bool := Lib.occAt s [58, 93] u && isCls (s.take u)

theorem hit_first {s : List UInt8} {t : Nat} (h : hit s t = true) : Lib.index s [58, 93] = (t : Int) ∧ t + 2 ≤ s.length := by
  unfold hit at h
  rw [Bool.and_eq_true] at h
  have hroom : t + 2 ≤ s.length := by
    rcases Lib.occAt_room h.1 with h' | h'
    · simpa using h'
    · cases h'
  refine ⟨Lib.index_first (by omega) h.1 ?_, hroom⟩
  intro j hj
  cases ho : Lib.occAt s [58, 93] j with
  | false => rfl
  | true =>
    have hc := Lib.occAt_head (c := 58) (t := [93]) rfl ho
    have : (58 : UInt8) ∈ s.take t := List.mem_of_getElem? (i := j) (by rw [List.getElem?_take, if_pos hj]; exact hc)
    exact absurd this (nocolon h.2)

theorem namedS_hit {s : List UInt8} (hp : Lib.hasPrefix s [91, 58] = true) {t : Nat} (h : hit (s.drop 2) t = true) : namedS s = some ((s.drop 2).take t, t + 4) := by
  obtain ⟨hi, hr⟩ := hit_first h
  unfold hit at h
  rw [Bool.and_eq_true] at h
  have hc : Lib.cut (s.drop 2) [58, 93] = ((s.drop 2).take t, (s.drop 2).drop (t + 2), true) := by
    unfold Lib.cut
    rw [hi, if_pos (by omega)]
    rfl
  unfold namedS
  rw [if_pos hp, hc]
  simp only [h.2, and_self, if_true]
  rw [List.length_take, Nat.min_eq_left (by omega)]
theorem namedS_nohit {s : List UInt8} (h : ∀ t, hit (s.drop 2) t = false) : namedS s = none := by
  unfold namedS
  split
  · split
    · rename_i h1
      unfold Lib.cut at h1
      split at h1
      · rename_i h0
        rcases Lib.index_spec (s.drop 2) [58, 93] with ⟨h2, _⟩ | ⟨i, h2, h3, h4, _⟩
        · omega
        · rw [h2, Int.toNat_natCast] at h1
          have := h i
          unfold hit at this
          rw [h4, h1.2] at this
          cases this
      · exact absurd h1.1 (by simp)
    · rfl
  · rfl

def refAt (i : Int) (s : List UInt8) : ByteArray × Int := match namedS s with
  | some (nm, d) => (⟨nm.toArray⟩, i + d)
  | none => (⟨#[]⟩, 0)

theorem at_loop (p : ByteArray) (i : Nat) (hi : i + 2 ≤ p.size) (hp : p.size ≤ 1000000) (r : ByteArray × Int)
    (hyes : ∀ t, hit (p.data.toList.drop (i + 2)) t = true → r = (p.extract (i + 2) (i + 2 + t), ((i + 2 + t + 2 : Nat) : Int))) (hno : (∀ t, hit (p.data.toList.drop (i + 2)) t = false) → r = (⟨#[]⟩, 0)) :
    ∀ (d u : Nat), p.size - (i + 2 + u) = d → i + 2 + u ≤ p.size → (∀ t, t < u → hit (p.data.toList.drop (i + 2)) t = false) → Ev (fun k => patchworkref1_classAt.l0 k p i ((i + 2 + u : Nat) : Int)) r := by
  intro d
  induction d with
  | zero =>
    intro u hd hu hb
    refine Ev.step (fun k => by simp only [patchworkref1_classAt.l0]; exact rfl) ?_
    rw [wn _ (by omega)]
    simp only [if_neg (show ¬ ((i + 2 + u + 1 : Nat) : Int) < (p.size : Int) by omega)]
    rw [hno (fun t => ?_)]
    · exact Ev.now _
    · by_cases h : t < u
      · exact hb t h
      · unfold hit Lib.occAt
        rw [pair_short (by rw [List.length_drop, List.length_drop, dat_len]; omega), Bool.false_and]
  | succ d ih =>
    intro u hd hu hb
    refine Ev.step (fun k => by simp only [patchworkref1_classAt.l0]; exact rfl) ?_
    have e1 : wrap64 (((i + 2 + u : Nat) : Int) + 1) = ((i + 2 + u + 1 : Nat) : Int) := wn _ (by omega)
    rw [e1]
    by_cases h1 : i + 2 + u + 1 < p.size
    · simp only [if_pos (show ((i + 2 + u + 1 : Nat) : Int) < (p.size : Int) by omega), if_pos (show (0 : Int) ≤ ((i + 2 + u : Nat) : Int) by omega), if_pos (show ((i + 2 + u : Nat) : Int) < (p.size : Int) by omega), if_pos (show (0 : Int) ≤ ((i + 2 + u + 1 : Nat) : Int) by omega)]
      have hocc : Lib.occAt (p.data.toList.drop (i + 2)) [58, 93] u = true ↔ bt p (i + 2 + u : Nat) = 58 ∧ bt p (i + 2 + u + 1 : Nat) = 93 := by
        unfold Lib.occAt
        rw [List.drop_drop]
        exact pair_iff h1 58 93
      have next : hit (p.data.toList.drop (i + 2)) u = false → Ev (fun k => patchworkref1_classAt.l0 k p i ((i + 2 + u + 1 : Nat) : Int)) r := by
        intro hu'
        refine ih (u + 1) (by omega) (by omega) ?_
        intro t ht
        by_cases e : t = u
        · subst e; exact hu'
        · exact hb t (by omega)
      have go : ∀ b : Bool, b = Lib.occAt (p.data.toList.drop (i + 2)) [58, 93] u → Ev (fun k => patchworkref1_classAt.j2 k p i ((i + 2 + u : Nat) : Int) b) r := by
        intro b hb'
        refine Ev.step (fun k => by simp only [patchworkref1_classAt.j2]; exact rfl) ?_
        cases b with
        | false =>
          simp only [Bool.false_eq_true, if_false]
          rw [e1]
          refine next ?_
          unfold hit
          rw [← hb', Bool.false_and]
        | true =>
          have e2 : wrap64 ((i : Int) + 2) = ((i + 2 : Nat) : Int) := by rw [w64 (by omega) (by omega)]; omega
          have e3 : wrap64 (((i + 2 + u : Nat) : Int) + 2) = ((i + 2 + u + 2 : Nat) : Int) := by rw [w64 (by omega) (by omega)]; omega
          simp only [if_true, e1, e2, e3, if_pos (show (0 : Int) ≤ ((i + 2 : Nat) : Int) by omega), if_pos (show ((i + 2 : Nat) : Int) ≤ ((i + 2 + u : Nat) : Int) by omega), if_pos (show ((i + 2 + u : Nat) : Int) ≤ (p.size : Int) by omega), Int.toNat_natCast]
          have hcl := class_ev (p.extract (i + 2) (i + 2 + u)) 0
          rw [Lib.extract_data, show i + 2 + u - (i + 2) = u by omega] at hcl
          refine Ev.bind hcl ?_
          cases hx : isCls ((p.data.toList.drop (i + 2)).take u) with
          | true =>
            simp only [if_true]
            rw [hyes u (by unfold hit; rw [← hb', hx]; rfl)]
            exact Ev.now _
          | false =>
            simp only [Bool.false_eq_true, if_false]
            refine next ?_
            unfold hit
            rw [hx, Bool.and_false]
      by_cases g1 : bt p (i + 2 + u : Nat) = 58
      · simp only [if_pos g1]
        refine go _ ?_
        rw [Bool.eq_iff_iff, hocc, beq_iff_eq]
        exact ⟨fun h => ⟨g1, h⟩, fun h => h.2⟩
      · simp only [if_neg g1]
        refine go _ ?_
        cases ho : Lib.occAt (p.data.toList.drop (i + 2)) [58, 93] u with
        | false => rfl
        | true => exact absurd (hocc.1 ho).1 g1
    · simp only [if_neg (show ¬ ((i + 2 + u + 1 : Nat) : Int) < (p.size : Int) by omega)]
      rw [hno (fun t => ?_)]
      · exact Ev.now _
      · by_cases h : t < u
        · exact hb t h
        · unfold hit Lib.occAt
          rw [pair_short (by rw [List.length_drop, List.length_drop, dat_len]; omega), Bool.false_and]

theorem at_ev (p : ByteArray) (i : Nat) (hi : i ≤ p.size) (hp : p.size ≤ 1000000) : Ev (fun k => patchworkref1_classAt.f k p i) (refAt i (p.data.toList.drop i)) := by
  simp only [patchworkref1_classAt.f]
  have e1 : wrap64 ((i : Int) + 1) = ((i + 1 : Nat) : Int) := wn _ (by omega)
  simp only [e1]
  have no : Lib.hasPrefix (p.data.toList.drop i) [91, 58] = false → Ev (fun k => patchworkref1_classAt.j0 k p i false) (refAt i (p.data.toList.drop i)) := by
    intro h
    refine Ev.step (fun k => by simp only [patchworkref1_classAt.j0]; exact rfl) ?_
    simp only [Bool.false_eq_true, if_false]
    have : namedS (p.data.toList.drop i) = none := by unfold namedS; rw [if_neg (by rw [h]; decide)]
    unfold refAt
    rw [this]
    exact Ev.now _
  by_cases h1 : i + 1 < p.size
  · simp only [if_pos (show ((i + 1 : Nat) : Int) < (p.size : Int) by omega), if_pos (show (0 : Int) ≤ (i : Int) by omega), if_pos (show (i : Int) < (p.size : Int) by omega), if_pos (show (0 : Int) ≤ ((i + 1 : Nat) : Int) by omega)]
    have hpre : Lib.hasPrefix (p.data.toList.drop i) [91, 58] = true ↔ bt p i = 91 ∧ bt p (i + 1 : Nat) = 58 := pair_iff h1 91 58
    by_cases g1 : bt p i = 91
    · simp only [if_pos g1]
      by_cases g2 : bt p (i + 1 : Nat) = 58
      · rw [beq_iff_eq.2 g2]
        have hP := hpre.2 ⟨g1, g2⟩
        refine Ev.step (fun k => by simp only [patchworkref1_classAt.j0]; exact rfl) ?_
        simp only [if_true]
        rw [show wrap64 ((i : Int) + 2) = ((i + 2 + 0 : Nat) : Int) by rw [w64 (by omega) (by omega)]; omega]
        refine at_loop p i (by omega) hp _ ?_ ?_ _ 0 rfl (by omega) (fun t ht => by omega)
        · intro t ht
          have hr := (hit_first ht).2
          rw [List.length_drop, dat_len] at hr
          unfold refAt
          rw [namedS_hit hP (by rw [List.drop_drop]; exact ht), List.drop_drop]
          simp only [Prod.mk.injEq]
          refine ⟨?_, by omega⟩
          have : (p.extract (i + 2) (i + 2 + t)).data.toList = (p.data.toList.drop (i + 2)).take t := by rw [Lib.extract_data, show i + 2 + t - (i + 2) = t by omega]
          rw [← this]
        · intro h
          unfold refAt
          rw [namedS_nohit (fun t => by rw [List.drop_drop]; exact h t)]
      · rw [beq_eq_false_iff_ne.2 g2]
        exact no (by rw [Bool.eq_false_iff]; exact fun h => g2 (hpre.1 h).2)
    · simp only [if_neg g1]
      exact no (by rw [Bool.eq_false_iff]; exact fun h => g1 (hpre.1 h).1)
  · simp only [if_neg (show ¬ ((i + 1 : Nat) : Int) < (p.size : Int) by omega)]
    exact no (pair_short (by rw [List.length_drop, dat_len]; omega) 91 58)

/-! ### a member -/
theorem one_eq (p : ByteArray) (i : Nat) (hi : i < p.size) (hp : p.size ≤ 1000000) : patchworkref1_one.f p i true = some ((sgn p i).1, ((sgn p i).2 : Int)) := by
  have b1 := bt_pos p i
  have b2 := bt_pos p (i + 1 : Nat)
  simp only [patchworkref1_one.f, sgn, if_true]
  rw [if_pos (by omega), if_pos (by omega), wn i (by omega), w64 (x := (i : Int) + 2) (by omega) (by omega), w64 (x := bt p i) (by omega) (by omega), w64 (x := bt p (i + 1 : Nat)) (by omega) (by omega)]
  by_cases h1 : bt p i = 92
  · by_cases h2 : i + 1 < p.size
    · rw [if_pos h1, if_pos (by omega), if_pos (by omega), if_pos ⟨h1, h2⟩]; rfl
    · rw [if_pos h1, if_neg (by omega), if_neg (fun h => h2 h.2)]
  · rw [if_neg h1, if_neg (fun h => h1 h.1)]

/-- what a member takes -/
def memOk (m : S63) (c : Int) : Bool := if m.f3.data.toList = [] then decide (m.f1 ≤ c) && decide (c ≤ m.f2) else clsB m.f3.data.toList c

theorem next_ev (p : ByteArray) (i : Nat) (hi : i < p.size) (hp : p.size ≤ 1000000) : ∃ m : S63, Ev (fun k => patchworkref1_next.f k p i true) (m.f0, m.f1, m.f2, m.f3) ∧ m.f0 = ((memb p i).2 : Int) ∧ ∀ c, memOk m c = (memb p i).1 c := by
  have hA := at_ev p i (by omega) hp
  unfold refAt at hA
  by_cases hn : namedS (p.data.toList.drop i) = none
  · rw [hn] at hA
    have hs := sgn_bd p i hi
    have hm : memb p i = (if (sgn p i).2 + 1 < p.size ∧ bt p (sgn p i).2 = 45 ∧ bt p ((sgn p i).2 + 1 : Nat) ≠ 93 ∧ namedS (p.data.toList.drop ((sgn p i).2 + 1)) = none then
        (fun c => decide ((sgn p i).1 ≤ c) && decide (c ≤ (sgn p ((sgn p i).2 + 1)).1), (sgn p ((sgn p i).2 + 1)).2)
      else (fun c => decide ((sgn p i).1 ≤ c) && decide (c ≤ (sgn p i).1), (sgn p i).2)) := by unfold memb; rw [hn]
    have start : ∀ r, Ev (fun k => if wrap64 (((sgn p i).2 : Int) + 1) < (p.size : Int) then ((patchworkref1_classAt.f k p (wrap64 (((sgn p i).2 : Int) + 1))).bind fun bt135 => (if 0 ≤ ((sgn p i).2 : Int) then (if ((sgn p i).2 : Int) < (p.size : Int) then (if (bt p ((sgn p i).2 : Int)) = 45 then (if 0 ≤ (wrap64 (((sgn p i).2 : Int) + 1)) then (if (bt p (wrap64 (((sgn p i).2 : Int) + 1))) = 93 then (some (((sgn p i).2 : Int), (sgn p i).1, (sgn p i).1, (⟨#[]⟩ : ByteArray))) else (if bt135.1.toList = ([] : List UInt8) then ((patchworkref1_one.f p (wrap64 (((sgn p i).2 : Int) + 1)) true).bind fun bt137 => (some (bt137.2, (sgn p i).1, bt137.1, (⟨#[]⟩ : ByteArray)))) else (some (((sgn p i).2 : Int), (sgn p i).1, (sgn p i).1, (⟨#[]⟩ : ByteArray))))) else (none)) else (some (((sgn p i).2 : Int), (sgn p i).1, (sgn p i).1, (⟨#[]⟩ : ByteArray)))) else (none)) else (none))) else (some (((sgn p i).2 : Int), (sgn p i).1, (sgn p i).1, (⟨#[]⟩ : ByteArray)))) r →
        Ev (fun k => patchworkref1_next.f k p i true) r := by
      intro r h
      simp only [patchworkref1_next.f]
      refine Ev.bind hA ?_
      simp only [Lib.toList_data, if_pos (show (⟨#[]⟩ : ByteArray).data.toList = [] from rfl)]
      refine Ev.bindS (one_eq p i hi hp) ?_
      simp only [Lib.toList_data] at h
      exact h
    have plain : ¬ ((sgn p i).2 + 1 < p.size ∧ bt p (sgn p i).2 = 45 ∧ bt p ((sgn p i).2 + 1 : Nat) ≠ 93 ∧ namedS (p.data.toList.drop ((sgn p i).2 + 1)) = none) → Ev (fun k => patchworkref1_next.f k p i true) (((sgn p i).2 : Int), (sgn p i).1, (sgn p i).1, (⟨#[]⟩ : ByteArray)) →
        ∃ m : S63, Ev (fun k => patchworkref1_next.f k p i true) (m.f0, m.f1, m.f2, m.f3) ∧ m.f0 = ((memb p i).2 : Int) ∧ ∀ c, memOk m c = (memb p i).1 c := by
      intro hc h
      rw [hm, if_neg hc]
      exact ⟨⟨((sgn p i).2 : Int), (sgn p i).1, (sgn p i).1, ⟨#[]⟩⟩, h, rfl, fun c => by unfold memOk; rw [if_pos rfl]⟩
    by_cases g1 : (sgn p i).2 + 1 < p.size
    · have e1 : wrap64 (((sgn p i).2 : Int) + 1) = (((sgn p i).2 + 1 : Nat) : Int) := wn _ (by omega)
      simp only [e1, if_pos (show (((sgn p i).2 + 1 : Nat) : Int) < (p.size : Int) by omega), if_pos (show (0 : Int) ≤ ((sgn p i).2 : Int) by omega), if_pos (show ((sgn p i).2 : Int) < (p.size : Int) by omega), if_pos (show (0 : Int) ≤ (((sgn p i).2 + 1 : Nat) : Int) by omega)] at start
      have hB := at_ev p ((sgn p i).2 + 1) (by omega) hp
      by_cases g2 : bt p (sgn p i).2 = 45
      · simp only [if_pos g2] at start
        by_cases g3 : bt p ((sgn p i).2 + 1 : Nat) = 93
        · simp only [if_pos g3] at start
          exact plain (fun h => h.2.2.1 g3) (start _ (Ev.bind hB (Ev.now _)))
        · simp only [if_neg g3] at start
          unfold refAt at hB
          by_cases hn2 : namedS (p.data.toList.drop ((sgn p i).2 + 1)) = none
          · rw [hn2] at hB
            rw [hm, if_pos ⟨g1, g2, g3, hn2⟩]
            refine ⟨⟨((sgn p ((sgn p i).2 + 1)).2 : Int), (sgn p i).1, (sgn p ((sgn p i).2 + 1)).1, ⟨#[]⟩⟩, start _ (Ev.bind hB ?_), rfl, fun c => by unfold memOk; rw [if_pos rfl]⟩
            simp only [Lib.toList_data, if_pos (show (⟨#[]⟩ : ByteArray).data.toList = [] from rfl)]
            refine Ev.bindS (one_eq p _ g1 hp) ?_
            exact Ev.now _
          · obtain ⟨nd, hnd⟩ := Option.ne_none_iff_exists'.1 hn2
            rw [hnd] at hB
            refine plain (fun h => hn2 h.2.2.2) (start _ (Ev.bind hB ?_))
            have hne := isCls_ne (namedS_room (nm := nd.1) (d := nd.2) hnd).2.2.1
            simp only [Lib.toList_data, if_neg (show ¬ (⟨nd.1.toArray⟩ : ByteArray).data.toList = [] from hne)]
            exact Ev.now _
      · simp only [if_neg g2] at start
        exact plain (fun h => g2 h.2.1) (start _ (Ev.bind hB (Ev.now _)))
    · simp only [if_neg (show ¬ wrap64 (((sgn p i).2 : Int) + 1) < (p.size : Int) by rw [wn _ (by omega)]; omega)] at start
      exact plain (fun h => g1 h.1) (start _ (Ev.now _))
  · obtain ⟨⟨nm, d⟩, hnd⟩ := Option.ne_none_iff_exists'.1 hn
    rw [hnd] at hA
    have hne := isCls_ne (namedS_room hnd).2.2.1
    have hm : memb p i = (clsB nm, i + d) := by unfold memb; rw [hnd]
    rw [hm]
    refine ⟨⟨(i : Int) + d, 0, 0, ⟨nm.toArray⟩⟩, ?_, by simp, fun c => by unfold memOk; rw [if_neg (show ¬ (⟨nm.toArray⟩ : ByteArray).data.toList = [] from hne)]⟩
    simp only [patchworkref1_next.f]
    refine Ev.bind hA ?_
    simp only [Lib.toList_data, if_neg (show ¬ (⟨nm.toArray⟩ : ByteArray).data.toList = [] from hne)]
    exact Ev.now _

theorem inside_ev (l : List S63) (c : Int) (hc : 0 ≤ c ∧ c ≤ 255) (hl : l.length ≤ 1000000) : ∀ (d i : Nat), l.length - i = d → i ≤ l.length → Ev (fun k => patchworkref1_inside.l0 k l c i) ((l.drop i).any (memOk · c)) := by
  intro d
  induction d with
  | zero =>
    intro i hd hi
    have hi : i = l.length := by omega
    subst hi
    refine Ev.step (fun k => by simp only [patchworkref1_inside.l0]; exact rfl) ?_
    simp only [if_neg (show ¬ (l.length : Int) < (l.length : Int) by omega), List.drop_length, List.any_nil]
    exact Ev.now _
  | succ d ih =>
    intro i hd hi
    have hlt : i < l.length := by omega
    have e1 : wrap64 ((i : Int) + 1) = ((i + 1 : Nat) : Int) := wn _ (by omega)
    have hrd : rd_T63 l (i : Int) = l[i] := by unfold rd_T63; rw [Int.toNat_natCast, List.getD_eq_getElem?_getD, List.getElem?_eq_getElem hlt]; rfl
    refine Ev.step (fun k => by simp only [patchworkref1_inside.l0]; exact rfl) ?_
    simp only [if_pos (show (i : Int) < (l.length : Int) by omega), if_pos (show (0 : Int) ≤ (i : Int) by omega), hrd, e1, w64 (x := c) (by omega) (by omega), Lib.toList_data]
    have h' := ih (i + 1) (by omega) (by omega)
    rw [List.drop_eq_getElem_cons hlt, List.any_cons]
    unfold memOk
    by_cases g : (l[i]).f3.data.toList = []
    · simp only [if_pos g]
      by_cases g1 : (l[i]).f1 ≤ c
      · simp only [if_pos (show c ≥ (l[i]).f1 from g1)]
        by_cases g2 : c ≤ (l[i]).f2
        · simp only [if_pos g2, decide_eq_true g1, decide_eq_true g2, Bool.true_and, Bool.true_or]
          exact Ev.now _
        · simp only [if_neg g2, decide_eq_false g2, Bool.and_false, Bool.false_or]
          exact h'
      · simp only [if_neg (show ¬ c ≥ (l[i]).f1 from g1), decide_eq_false g1, Bool.false_and, Bool.false_or]
        exact h'
    · simp only [if_neg g]
      refine Ev.bind (class_ev _ _) ?_
      cases hx : clsB (l[i]).f3.data.toList c with
      | true => simp only [if_true, Bool.true_or]; exact Ev.now _
      | false => simp only [Bool.false_eq_true, if_false, Bool.false_or]; exact h'

/-! ### a set -/
theorem set_l1 (p : ByteArray) (others : Bool) (first : Nat) (hp : p.size ≤ 1000000) : ∀ (f i : Nat) (acc : Int → Bool) (l : List S63) (b : Bool), p.size < i + f → i ≤ p.size → first ≤ i → b = decide (i = first) → l.length ≤ i → (∀ c, acc c = l.any (memOk · c)) →
    (setRun p first f i acc = none → Ev (fun k => patchworkref1_set.l1 k p true l i others b) ([], false, 0, false)) ∧
    (∀ g e, setRun p first f i acc = some (g, e) → ∃ l', l'.length ≤ e ∧ Ev (fun k => patchworkref1_set.l1 k p true l i others b) (l', others, (e : Int), true) ∧ ∀ c, g c = l'.any (memOk · c)) := by
  intro f
  induction f with
  | zero => intro i acc l b h h'; omega
  | succ f ih =>
    intro i acc l b h h' hfi hb hl hacc
    have e1 : wrap64 ((i : Int) + 1) = ((i + 1 : Nat) : Int) := wn _ (by omega)
    simp only [setRun]
    by_cases hi : i < p.size
    · rw [if_pos hi]
      by_cases hc : bt p i = 93 ∧ first < i
      · rw [if_pos hc]
        have hb' : b = false := by rw [hb]; exact decide_eq_false (by omega)
        subst hb'
        refine ⟨fun h => (by cases h), fun g e h => ?_⟩
        simp only [Option.some.injEq, Prod.mk.injEq] at h
        obtain ⟨rfl, rfl⟩ := h
        refine ⟨l, by omega, ?_, hacc⟩
        refine Ev.step (fun k => by simp only [patchworkref1_set.l1]; exact rfl) ?_
        simp only [if_pos (show (i : Int) < (p.size : Int) by omega), if_pos (show (0 : Int) ≤ (i : Int) by omega), if_pos hc.1, Bool.false_eq_true, if_false, e1]
        exact Ev.now _
      · rw [if_neg hc]
        obtain ⟨m, hm, hm0, hmok⟩ := next_ev p i hi hp
        have hmb := memb_bd p i hi
        have hh := ih (memb p i).2 (fun c => acc c || (memb p i).1 c) (l ++ [m]) false (by omega) hmb.2 (by omega) (by rw [eq_comm]; exact decide_eq_false (by omega)) (by simp; omega) (fun c => by
          simp only [List.any_append, List.any_cons, List.any_nil, Bool.or_false, hacc c, hmok c])
        have step : ∀ r, Ev (fun k => patchworkref1_set.l1 k p true (l ++ [m]) ((memb p i).2 : Nat) others false) r → Ev (fun k => patchworkref1_set.l1 k p true l i others b) r := by
          intro r hr
          refine Ev.step (fun k => by simp only [patchworkref1_set.l1]; exact rfl) ?_
          simp only [if_pos (show (i : Int) < (p.size : Int) by omega), if_pos (show (0 : Int) ≤ (i : Int) by omega)]
          have go : Ev (fun k => (patchworkref1_next.f k p i true).bind fun bt139 => (if l.length < 3518437208883 then (patchworkref1_set.l1 k p true (l ++ [(⟨bt139.1, bt139.2.1, bt139.2.2.1, bt139.2.2.2⟩ : S63)]) bt139.1 others false) else (none))) r := by
            refine Ev.bind hm ?_
            simp only [if_pos (show l.length < 3518437208883 by omega), hm0]
            rw [show (⟨((memb p i).2 : Int), m.f1, m.f2, m.f3⟩ : S63) = m by rw [← hm0]]
            exact hr
          by_cases h93 : bt p i = 93
          · have : b = true := by rw [hb]; exact decide_eq_true (by omega)
            subst this
            simp only [if_pos h93, if_true]
            exact go
          · simp only [if_neg h93]
            exact go
        exact ⟨fun h => step _ (hh.1 h), fun g e h => by
          obtain ⟨l', h1, h2, h3⟩ := hh.2 g e h
          exact ⟨l', h1, step _ h2, h3⟩⟩
    · rw [if_neg hi]
      refine ⟨fun _ => ?_, fun g e h => by cases h⟩
      refine Ev.step (fun k => by simp only [patchworkref1_set.l1]; exact rfl) ?_
      simp only [if_neg (show ¬ (i : Int) < (p.size : Int) by omega)]
      exact Ev.now _

theorem set_ev (p : ByteArray) (i : Nat) (hi : i < p.size) (hp : p.size ≤ 1000000) :
    (setS p i = none → Ev (fun k => patchworkref1_set.f k p ((i + 1 : Nat) : Int) (⟨#[33, 94]⟩ : ByteArray) true) ([], false, 0, false)) ∧
    (∀ g e, setS p i = some (g, e) → ∃ l', l'.length ≤ e ∧ Ev (fun k => patchworkref1_set.f k p ((i + 1 : Nat) : Int) (⟨#[33, 94]⟩ : ByteArray) true) (l', setNot p i, (e : Int), true) ∧ ∀ c, g c = l'.any (memOk · c)) := by
  have hb := setAt_bd p i hi
  have hh := set_l1 p (setNot p i) (setAt p i) hp (p.size + 1) (setAt p i) (fun _ => false) [] true (by omega) hb.2 (Nat.le_refl _) (by simp) (by simp) (by simp)
  have step : ∀ r, Ev (fun k => patchworkref1_set.l1 k p true [] ((setAt p i : Nat) : Int) (setNot p i) true) r → Ev (fun k => patchworkref1_set.f k p ((i + 1 : Nat) : Int) (⟨#[33, 94]⟩ : ByteArray) true) r := by
    intro r hr
    simp only [patchworkref1_set.f]
    have z2 : (⟨#[33, 94]⟩ : ByteArray).size = 2 := rfl
    have b0 : bt (⟨#[33, 94]⟩ : ByteArray) 0 = 33 := rfl
    have b1 : bt (⟨#[33, 94]⟩ : ByteArray) 1 = 94 := rfl
    have e0 : wrap64 ((0 : Int) + 1) = 1 := w64 (by omega) (by omega)
    have e1 : wrap64 ((1 : Int) + 1) = 2 := w64 (by omega) (by omega)
    have e2 : wrap64 (((i + 1 : Nat) : Int) + 1) = ((i + 2 : Nat) : Int) := by rw [w64 (by omega) (by omega)]; omega
    -- the two signs have been looked at
    have fin : ∀ (x : Nat) (o : Bool), x = setAt p i → o = setNot p i → Ev (fun k => patchworkref1_set.l0 k p (⟨#[33, 94]⟩ : ByteArray) true (x : Int) o 2) r := by
      intro x o hx ho
      subst hx; subst ho
      refine Ev.step (fun k => by simp only [patchworkref1_set.l0]; exact rfl) ?_
      simp only [z2, if_neg (show ¬ (2 : Int) < ((2 : Nat) : Int) by decide)]
      refine Ev.step (fun k => by simp only [patchworkref1_set.j1]; exact rfl) ?_
      simp only [Bool.false_eq_true, if_false]
      exact hr
    have short : ∀ (x : Nat) (o : Bool) (q : Int), x = setAt p i → o = setNot p i → ¬ x < p.size → q < 2 → Ev (fun k => patchworkref1_set.l0 k p (⟨#[33, 94]⟩ : ByteArray) true (x : Int) o q) r := by
      intro x o q hx ho hlt hq
      subst hx; subst ho
      refine Ev.step (fun k => by simp only [patchworkref1_set.l0]; exact rfl) ?_
      simp only [z2, if_pos (show q < ((2 : Nat) : Int) from hq), decide_eq_false (show ¬ ((setAt p i : Nat) : Int) < (p.size : Int) by omega)]
      refine Ev.step (fun k => by simp only [patchworkref1_set.j1]; exact rfl) ?_
      simp only [Bool.false_eq_true, if_false]
      exact hr
    have first : ∀ (x : Nat) (o : Bool) (q : Int), x < p.size → q < 2 → Ev (fun k => patchworkref1_set.j1 k p (⟨#[33, 94]⟩ : ByteArray) true [] (x : Int) o q true) r → Ev (fun k => patchworkref1_set.l0 k p (⟨#[33, 94]⟩ : ByteArray) true (x : Int) o q) r := by
      intro x o q hx hq h
      refine Ev.step (fun k => by simp only [patchworkref1_set.l0]; exact rfl) ?_
      simp only [z2, if_pos (show q < ((2 : Nat) : Int) from hq), decide_eq_true (show (x : Int) < (p.size : Int) by omega)]
      exact h
    by_cases h1 : i + 1 < p.size
    · refine first _ _ _ h1 (by decide) ?_
      refine Ev.step (fun k => by simp only [patchworkref1_set.j1]; exact rfl) ?_
      simp only [z2, b0, e0, e2, if_true, if_pos (show (0 : Int) ≤ ((i + 1 : Nat) : Int) by omega), if_pos (show ((i + 1 : Nat) : Int) < (p.size : Int) by omega), if_pos (show (0 : Int) ≤ 0 by decide), if_pos (show (0 : Int) < ((2 : Nat) : Int) by decide), Bool.false_eq_true, if_false]
      by_cases g1 : bt p (i + 1 : Nat) = 33
      · have hnot : setNot p i = true := decide_eq_true ⟨h1, .inl g1⟩
        have hat : setAt p i = i + 2 := by unfold setAt; rw [if_pos hnot]
        simp only [if_pos g1]
        by_cases h2 : i + 2 < p.size
        · refine first _ _ _ h2 (by decide) ?_
          refine Ev.step (fun k => by simp only [patchworkref1_set.j1]; exact rfl) ?_
          simp only [z2, b1, e1, if_true, if_pos (show (0 : Int) ≤ ((i + 2 : Nat) : Int) by omega), if_pos (show ((i + 2 : Nat) : Int) < (p.size : Int) by omega), if_pos (show (0 : Int) ≤ 1 by decide), if_pos (show (1 : Int) < ((2 : Nat) : Int) by decide)]
          by_cases g2 : bt p (i + 2 : Nat) = 94
          · simp only [if_pos g2]; exact fin _ _ hat.symm hnot.symm
          · simp only [if_neg g2]; exact fin _ _ hat.symm hnot.symm
        · exact short _ _ _ hat.symm hnot.symm h2 (by decide)
      · simp only [if_neg g1]
        refine first _ _ _ h1 (by decide) ?_
        refine Ev.step (fun k => by simp only [patchworkref1_set.j1]; exact rfl) ?_
        simp only [z2, b1, e1, e2, if_true, if_pos (show (0 : Int) ≤ ((i + 1 : Nat) : Int) by omega), if_pos (show ((i + 1 : Nat) : Int) < (p.size : Int) by omega), if_pos (show (0 : Int) ≤ 1 by decide), if_pos (show (1 : Int) < ((2 : Nat) : Int) by decide), Bool.false_eq_true, if_false]
        by_cases g2 : bt p (i + 1 : Nat) = 94
        · have hnot : setNot p i = true := decide_eq_true ⟨h1, .inr g2⟩
          have hat : setAt p i = i + 2 := by unfold setAt; rw [if_pos hnot]
          simp only [if_pos g2]
          exact fin _ _ hat.symm hnot.symm
        · have hnot : setNot p i = false := decide_eq_false (by omega)
          have hat : setAt p i = i + 1 := by unfold setAt; rw [if_neg (by rw [hnot]; decide)]
          simp only [if_neg g2]
          exact fin _ _ hat.symm hnot.symm
    · have hnot : setNot p i = false := decide_eq_false (by omega)
      have hat : setAt p i = i + 1 := by unfold setAt; rw [if_neg (by rw [hnot]; decide)]
      exact short _ _ _ hat.symm hnot.symm h1 (by decide)
  exact ⟨fun h => step _ (hh.1 h), fun g e h => by
    obtain ⟨l', h1, h2, h3⟩ := hh.2 g e h
    exact ⟨l', h1, step _ h2, h3⟩⟩

end Go.Proofs.Ytahfoeichmfloaa.GlobR
