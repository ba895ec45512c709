/- EreSets, the plain law itself; no program in sight. -/
import Derived.Test.YtlkaoiceehlkmaaPureES2
namespace Go.Proofs.YtlkaoiceehlkmaaTE
open Go Go.Proofs.YtlkaoiceehlkmaaVE
set_option linter.unusedVariables false
set_option linter.unusedSectionVars false
set_option linter.unusedSimpArgs false
abbrev VT := Int × Int × Int × Int × Unit
noncomputable def chE (J : Bool × Unit → Option (Bool × Unit)) (c : Int) : Option (Bool × Unit) :=
  bK (!(decide (c < 97)))
             (bK (!(decide (122 < c)))
              (joinB (box J) (true, ()))
              (bK (!(decide (c < 65)))
               (bK (!(decide (90 < c)))
                (joinB (box J) (true, ()))
                (bK (!(decide (c < 48)))
                 (joinB (box J) (!(decide (57 < c)), ()))
                 (joinB (box J) (false, ()))))
               (bK (!(decide (c < 48)))
                (joinB (box J) (!(decide (57 < c)), ()))
                (joinB (box J) (false, ())))))
             (bK (!(decide (c < 65)))
              (bK (!(decide (90 < c)))
               (joinB (box J) (true, ()))
               (bK (!(decide (c < 48)))
                (joinB (box J) (!(decide (57 < c)), ()))
                (joinB (box J) (false, ()))))
              (bK (!(decide (c < 48)))
               (joinB (box J) (!(decide (57 < c)), ()))
               (joinB (box J) (false, ()))))
theorem chE_eq (J : Bool × Unit → Option (Bool × Unit)) (c : Nat) : chE J ((c : Nat) : Int) = J (alnum c, ()) := by
  unfold chE alnum
  by_cases h1 : c < 97
  · rw [d_t (show ((c : Nat) : Int) < 97 by omega), d_f (show ¬ 97 ≤ c by omega), Bool.not_true, bK_f]
    by_cases h2 : c < 65
    · rw [d_t (show ((c : Nat) : Int) < 65 by omega), d_f (show ¬ 65 ≤ c by omega), Bool.not_true, bK_f]
      by_cases h3 : c < 48
      · rw [d_t (show ((c : Nat) : Int) < 48 by omega), d_f (show ¬ 48 ≤ c by omega)]
        rfl
      · rw [d_f (show ¬ ((c : Nat) : Int) < 48 by omega), d_t (show 48 ≤ c by omega)]
        by_cases h4 : c ≤ 57
        · rw [d_f (show ¬ 57 < ((c : Nat) : Int) by omega), d_t h4]; rfl
        · rw [d_t (show 57 < ((c : Nat) : Int) by omega), d_f h4]; rfl
    · rw [d_f (show ¬ ((c : Nat) : Int) < 65 by omega), d_t (show 65 ≤ c by omega), Bool.not_false, bK_t]
      by_cases h3 : c ≤ 90
      · rw [d_f (show ¬ 90 < ((c : Nat) : Int) by omega), d_t h3]; rfl
      · rw [d_t (show 90 < ((c : Nat) : Int) by omega), d_f h3, d_f (show ¬ ((c : Nat) : Int) < 48 by omega), d_t (show 48 ≤ c by omega), d_t (show 57 < ((c : Nat) : Int) by omega), d_f (show ¬ c ≤ 57 by omega)]; rfl
  · rw [d_f (show ¬ ((c : Nat) : Int) < 97 by omega), d_t (show 97 ≤ c by omega), Bool.not_false, bK_t]
    by_cases h2 : c ≤ 122
    · rw [d_f (show ¬ 122 < ((c : Nat) : Int) by omega), d_t h2]; rfl
    · rw [d_t (show 122 < ((c : Nat) : Int) by omega), d_f h2, d_f (show ¬ ((c : Nat) : Int) < 65 by omega), d_t (show 90 < ((c : Nat) : Int) by omega), d_f (show ¬ ((c : Nat) : Int) < 48 by omega), d_t (show 57 < ((c : Nat) : Int) by omega), d_t (show 65 ≤ c by omega), d_f (show ¬ c ≤ 90 by omega), d_t (show 48 ≤ c by omega), d_f (show ¬ c ≤ 57 by omega)]; rfl
theorem j2_eq (a b w : Int) (c : Nat) (x4 : List UInt8) (L : Bool) : law6_EreSets_j2 (a, b, ((c : Nat) : Int), w, ()) x4 (L, ()) = law6_EreSets_j1 (a, b, ((c : Nat) : Int), w, ()) x4 (L, ()) (space c, ()) := by
  unfold law6_EreSets_j2 space
  dsimp only
  rw [show decide (((c : Nat) : Int) = 32) = decide (c = 32) from decide_eq_decide.2 (by omega)]
  by_cases h1 : c < 9
  · rw [d_t (show ((c : Nat) : Int) < 9 by omega), d_f (show ¬ 9 ≤ c by omega), Bool.not_true, bK_f, Bool.false_and, Bool.false_or, joinB_e]
  · rw [d_f (show ¬ ((c : Nat) : Int) < 9 by omega), d_t (show 9 ≤ c by omega), Bool.not_false, bK_t]
    by_cases h2 : c ≤ 13
    · rw [d_f (show ¬ 13 < ((c : Nat) : Int) by omega), d_t h2]; rfl
    · rw [d_t (show 13 < ((c : Nat) : Int) by omega), d_f h2, Bool.not_true, bK_f, Bool.and_false, Bool.false_or, joinB_e]
/-- What the law asks for. -/
def wantE (a b c w : Nat) : Bool := match w with
  | 0 => !(decide (c = 10))
  | 1 | 2 => decide (c = a)
  | 3 => !(decide (c = a)) && !(decide (c = 10))
  | 4 => !(decide (c < a)) && !(decide (b < c))
  | 5 => alnum c || decide (c = a)
  | _ => !space c
theorem j1_eq (a b c w : Nat) (hw : w ≤ 6) (x4 : List UInt8) : law6_EreSets_j1 (((a : Nat) : Int), ((b : Nat) : Int), ((c : Nat) : Int), ((w : Nat) : Int), ()) x4 (alnum c, ()) (space c, ()) = law6_EreSets_j0 (((a : Nat) : Int), ((b : Nat) : Int), ((c : Nat) : Int), ((w : Nat) : Int), ()) x4 (wantE a b c w, ()) := by
  unfold law6_EreSets_j1
  dsimp only
  have e1 : decide (((c : Nat) : Int) = 10) = decide (c = 10) := decide_eq_decide.2 (by omega)
  have e2 : decide (((c : Nat) : Int) = ((a : Nat) : Int)) = decide (c = a) := decide_eq_decide.2 (by omega)
  have e3 : decide (((c : Nat) : Int) < ((a : Nat) : Int)) = decide (c < a) := decide_eq_decide.2 (by omega)
  have e4 : decide (((b : Nat) : Int) < ((c : Nat) : Int)) = decide (b < c) := decide_eq_decide.2 (by omega)
  rw [e1, e2, e3, e4]
  have hcw : w = 0 ∨ w = 1 ∨ w = 2 ∨ w = 3 ∨ w = 4 ∨ w = 5 ∨ w = 6 := by omega
  unfold wantE
  generalize decide (c = 10) = p1
  generalize decide (c = a) = p2
  generalize decide (c < a) = p3
  generalize decide (b < c) = p4
  generalize alnum c = p5
  generalize space c = p6
  rcases hcw with rfl | rfl | rfl | rfl | rfl | rfl | rfl <;> cases p2 <;> cases p3 <;> cases p5 <;> rfl
theorem j0_told {a b w : Int} {c : Nat} (hc : c < 256) {x4 : List UInt8} {S : Nat → Bool} {W : Bool} (h : Told x4 S) (hS : S c = W) : law6_EreSets_j0 (a, b, ((c : Nat) : Int), w, ()) x4 (W, ()) = some (true, ()) := by
  obtain ⟨nd, h1, h2, h3⟩ := h
  unfold law6_EreSets_j0
  dsimp only
  rw [h1, oK_s]
  unfold law6_num
  rw [oK_s]
  dsimp only
  rw [d_t rfl, bK_t, d_t h2, bK_t, nd_eta, h3 c hc, oK_s, hS]
  dsimp only
  rw [beq_self_eq_true]
theorem ereSets_j3 (a b c w : Nat) (ha : 32 < a) (ha2 : a < 127) (hb : 32 < b) (hb2 : b < 127) (h1 : a ≠ 91) (h2 : a ≠ 93) (h3 : a ≠ 94) (h5 : b ≠ 93) (h6 : b ≠ 91) (hc : c < 256) (hw : w ≤ 6) :
    law6_EreSets_j3 (((a : Nat) : Int), ((b : Nat) : Int), ((c : Nat) : Int), ((w : Nat) : Int), ()) (true, ()) (false, ()) = some (true, ()) := by
  obtain ⟨x, hx⟩ : ∃ x : UInt8, UInt8.ofNat a = x := ⟨_, rfl⟩
  obtain ⟨y, hy⟩ : ∃ y : UInt8, UInt8.ofNat b = y := ⟨_, rfl⟩
  have hxn : x.toNat = a := by rw [← hx, UInt8.toNat_ofNat']; omega
  have hyn : y.toNat = b := by rw [← hy, UInt8.toNat_ofNat']; omega
  have nx : ∀ {z : UInt8} {n : Nat} (k : UInt8), z.toNat = n → n ≠ k.toNat → z ≠ k := fun k e h h' => h (by rw [← e, h'])
  have x1 : x ≠ 91 := nx 91 hxn h1
  have x3 : x ≠ 93 := nx 93 hxn h2
  have x4 : x ≠ 94 := nx 94 hxn h3
  have y1 : y ≠ 91 := nx 91 hyn h6
  have y3 : y ≠ 93 := nx 93 hyn h5
  have hsame : ∀ c : Nat, (decide (x.toNat ≤ c) && decide (c ≤ x.toNat)) = decide (c = a) := fun c => by
    rw [hxn]
    by_cases h : c = a
    · subst h; simp
    · rw [d_f h]
      by_cases h' : a ≤ c
      · rw [d_f (show ¬ c ≤ a by omega)]; simp
      · rw [d_f h']; simp
  have e : law6_EreSets_j3 (((a : Nat) : Int), ((b : Nat) : Int), ((c : Nat) : Int), ((w : Nat) : Int), ()) (true, ()) (false, ()) = oK (idx ([[46], [92, x], [91, x, 93], [91, 94, x, 93], [91, x, 45, y, 93], [91, 91, 58, 97, 108, 110, 117, 109, 58, 93, x, 93], [91, 94, 91, 58, 115, 112, 97, 99, 101, 58, 93, 93]] : List (List UInt8)) ((w : Nat) : Int)) fun x4 => chE (law6_EreSets_j2 (((a : Nat) : Int), ((b : Nat) : Int), ((c : Nat) : Int), ((w : Nat) : Int), ()) x4) ((c : Nat) : Int) := by
    subst hx; subst hy
    rfl
  rw [e, idx_n]
  have fin : ∀ x4, law6_EreSets_j0 (((a : Nat) : Int), ((b : Nat) : Int), ((c : Nat) : Int), ((w : Nat) : Int), ()) x4 (wantE a b c w, ()) = some (true, ()) → chE (law6_EreSets_j2 (((a : Nat) : Int), ((b : Nat) : Int), ((c : Nat) : Int), ((w : Nat) : Int), ()) x4) ((c : Nat) : Int) = some (true, ()) := fun x4 h => by
    rw [chE_eq, j2_eq, j1_eq _ _ _ _ hw, h]
  have hcw : w = 0 ∨ w = 1 ∨ w = 2 ∨ w = 3 ∨ w = 4 ∨ w = 5 ∨ w = 6 := by omega
  rcases hcw with rfl | rfl | rfl | rfl | rfl | rfl | rfl
  · exact fin _ (j0_told hc told0 (by simp [wantE]))
  · exact fin _ (j0_told hc told1 (by simp [wantE, hxn]))
  · exact fin _ (j0_told hc (told2 x1 x3 x4) (by simp only [Bool.false_or, hsame]; rfl))
  · exact fin _ (j0_told hc (told3 x1 x3) (by simp only [Bool.false_or, hsame, Bool.not_or]; rfl))
  · refine fin _ (j0_told hc (told4 x1 x3 x4 y1 y3) ?_)
    show (false || (decide (x.toNat ≤ c) && decide (c ≤ y.toNat))) = (!(decide (c < a)) && !(decide (b < c)))
    rw [hxn, hyn, Bool.false_or, ← decide_not, ← decide_not]
    congr 1 <;> exact decide_eq_decide.2 (by omega)
  · exact fin _ (j0_told hc (told5 x1 x3) (by simp only [Bool.false_or, hsame]; rfl))
  · refine fin _ (j0_told hc told6 ?_)
    show (!((false || space c) || decide (c = 10))) = !space c
    by_cases h : c = 10
    · subst h; rfl
    · rw [d_f h, Bool.false_or, Bool.or_false]
theorem ereSets_pure (a b c w : Int) (ha : 0 ≤ a) (hb : 0 ≤ b) (hc : 0 ≤ c) (hc2 : c ≤ 255) : law6_EreSets (a, b, c, w, ()) = some (true, ()) := by
  have hJ : joinB (box (law6_EreSets_j3 (a, b, c, w, ()) (true, ()))) (true, ()) = some (true, ()) := rfl
  unfold law6_EreSets
  rw [er_alive, oK_s]
  dsimp only
  rw [Bool.not_true, bK_f]
  by_cases g1 : w < 0
  · rw [d_t g1, bK_t]; exact hJ
  rw [d_f g1, bK_f]
  by_cases g2 : 6 < w
  · rw [d_t g2, bK_t]; exact hJ
  rw [d_f g2, bK_f]
  by_cases g3 : 32 < a
  case neg => rw [d_f g3, Bool.not_false, bK_t]; exact hJ
  rw [d_t g3, Bool.not_true, bK_f]
  by_cases g4 : a < 127
  case neg => rw [d_f g4, Bool.not_false, bK_t]; exact hJ
  rw [d_t g4, Bool.not_true, bK_f]
  by_cases g5 : 32 < b
  case neg => rw [d_f g5, Bool.not_false, bK_t]; exact hJ
  rw [d_t g5, Bool.not_true, bK_f]
  by_cases g6 : b < 127
  case neg => rw [d_f g6, Bool.not_false, bK_t]; exact hJ
  rw [d_t g6, Bool.not_true, bK_f]
  by_cases g7 : a = 91
  · rw [d_t g7, bK_t]; exact hJ
  rw [d_f g7, bK_f]
  by_cases g8 : a = 93
  · rw [d_t g8, bK_t]; exact hJ
  rw [d_f g8, bK_f]
  by_cases g9 : a = 94
  · rw [d_t g9, bK_t]; exact hJ
  rw [d_f g9, bK_f]
  by_cases g10 : a = 45
  · rw [d_t g10, bK_t]; exact hJ
  rw [d_f g10, bK_f]
  by_cases g11 : b = 93
  · rw [d_t g11, bK_t]; exact hJ
  rw [d_f g11, bK_f]
  by_cases g12 : b = 91
  · rw [d_t g12]; exact hJ
  rw [d_f g12, joinB_e]
  obtain ⟨a, rfl⟩ : ∃ n : Nat, a = n := ⟨a.toNat, by omega⟩
  obtain ⟨b, rfl⟩ : ∃ n : Nat, b = n := ⟨b.toNat, by omega⟩
  obtain ⟨c, rfl⟩ : ∃ n : Nat, c = n := ⟨c.toNat, by omega⟩
  obtain ⟨w, rfl⟩ : ∃ n : Nat, w = n := ⟨w.toNat, by omega⟩
  exact ereSets_j3 a b c w (by omega) (by omega) (by omega) (by omega) (by omega) (by omega) (by omega) (by omega) (by omega) (by omega) (by omega)
end Go.Proofs.YtlkaoiceehlkmaaTE
