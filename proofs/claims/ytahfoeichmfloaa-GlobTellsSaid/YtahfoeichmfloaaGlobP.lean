/- What the program's glob functions answer, with rounds enough: each printed function by a plain one. -/
import Derived.Test.YtahfoeichmfloaaGlx3
import Derived.Test.YtahfoeichmfloaaGlobM
import Derived.Lib.IndexBytes
namespace Go.Proofs.Ytahfoeichmfloaa.GlobP
set_option linter.unusedSimpArgs false
set_option linter.unusedVariables false
open Go.RowKit Go.Proofs.YtahfoeichmfloaaW.PrintWords Go.Proofs.YtahfoeichmfloaaW.PrintLast Go.Proofs.Ytahfoeichmfloaa.Gl Go.Proofs.Ytahfoeichmfloaa.GlobM

theorem w64 {x : Int} (h : -9223372036854775808 ≤ x) (h' : x ≤ 9223372036854775807) : wrap64 x = x := by
  unfold wrap64; omega

/-- A call without rounds, then the rest. -/
theorem Ev.bindS {α β : Type} {g : Option α} {f : Nat → α → Option β} {a : α} {r : β} (h : g = some a) (k : Ev (fun n => f n a) r) : Ev (fun n => g.bind (f n)) r := by
  subst h; exact k

/-! ### a class -/
def isCls (l : List UInt8) : Bool := l == [97, 108, 112, 104, 97] || l == [100, 105, 103, 105, 116] || l == [117, 112, 112, 101, 114] || l == [108, 111, 119, 101, 114] || l == [97, 108, 110, 117, 109] || l == [115, 112, 97, 99, 101]
def clsB (l : List UInt8) (c : Int) : Bool :=
  let lower := decide (97 ≤ c) && decide (c ≤ 122)
  let upper := decide (65 ≤ c) && decide (c ≤ 90)
  let digit := decide (48 ≤ c) && decide (c ≤ 57)
  if l = [97, 108, 112, 104, 97] then lower || upper else if l = [100, 105, 103, 105, 116] then digit else if l = [117, 112, 112, 101, 114] then upper
  else if l = [108, 111, 119, 101, 114] then lower else if l = [97, 108, 110, 117, 109] then lower || upper || digit
  else if l = [115, 112, 97, 99, 101] then (decide (9 ≤ c) && decide (c ≤ 13)) || c == 32 else false

theorem isCls_ne {l : List UInt8} (h : isCls l = true) : l ≠ [] := by
  rintro rfl
  exact absurd h (by decide)

theorem class_j0 (s : ByteArray) (c : Int) (a b d : Bool) (k : Nat) :
    glob_Class.j0 (k + 1) s c a b d = some ((if s.data.toList = [97, 108, 112, 104, 97] then a || b else if s.data.toList = [100, 105, 103, 105, 116] then d else if s.data.toList = [117, 112, 112, 101, 114] then b
      else if s.data.toList = [108, 111, 119, 101, 114] then a else if s.data.toList = [97, 108, 110, 117, 109] then a || b || d
      else if s.data.toList = [115, 112, 97, 99, 101] then (decide (9 ≤ c) && decide (c ≤ 13)) || c == 32 else false), isCls s.data.toList) := by
  simp only [glob_Class.j0, Lib.toList_data, isCls]
  generalize s.data.toList = l
  by_cases h1 : l = [97, 108, 112, 104, 97]
  · subst h1; cases a <;> simp
  by_cases h2 : l = [100, 105, 103, 105, 116]
  · subst h2; simp
  by_cases h3 : l = [117, 112, 112, 101, 114]
  · subst h3; simp
  by_cases h4 : l = [108, 111, 119, 101, 114]
  · subst h4; simp
  by_cases h5 : l = [97, 108, 110, 117, 109]
  · subst h5; cases a <;> cases b <;> simp
  by_cases h6 : l = [115, 112, 97, 99, 101]
  · subst h6
    by_cases g1 : 9 ≤ c
    · by_cases g2 : c ≤ 13
      · simp [g1, g2]
      · simp [g1, g2]
    · simp [g1]
  · simp [h1, h2, h3, h4, h5, h6]

theorem class_ev (s : ByteArray) (c : Int) : Ev (fun k => glob_Class.f k s c) (clsB s.data.toList c, isCls s.data.toList) := by
  refine ⟨1, fun k hk => ?_⟩
  obtain ⟨k, rfl⟩ : ∃ m, k = m + 1 := ⟨k - 1, by omega⟩
  simp only [glob_Class.f, class_j0, clsB]
  by_cases h1 : (97 : Int) ≤ c
  · have h2 : (65 : Int) ≤ c := by omega
    have h3 : (48 : Int) ≤ c := by omega
    simp [h1, h2, h3]
  · by_cases h2 : (65 : Int) ≤ c
    · have h3 : (48 : Int) ≤ c := by omega
      simp [h1, h2, h3]
    · by_cases h3 : (48 : Int) ≤ c
      · simp [h1, h2, h3]
      · simp [h1, h2, h3]

/-! ### a class's name in a set -/
def namedS (s : List UInt8) : Option (List UInt8 × Nat) :=
  if Lib.hasPrefix s [91, 58] = true then
    if (Lib.cut (s.drop 2) [58, 93]).2.2 = true ∧ isCls (Lib.cut (s.drop 2) [58, 93]).1 = true then some ((Lib.cut (s.drop 2) [58, 93]).1, (Lib.cut (s.drop 2) [58, 93]).1.length + 4) else none
  else none
def namedR (i : Int) (s : List UInt8) : ByteArray × Int := match namedS s with
  | some (nm, d) => (⟨nm.toArray⟩, i + d)
  | none => (⟨#[]⟩, -1)
theorem namedR_none {s : List UInt8} (h : namedS s = none) (i : Int) : namedR i s = (⟨#[]⟩, -1) := by unfold namedR; rw [h]
theorem namedR_some {s nm : List UInt8} {d : Nat} (h : namedS s = some (nm, d)) (i : Int) : namedR i s = (⟨nm.toArray⟩, i + d) := by unfold namedR; rw [h]
theorem cut_le (s : List UInt8) (sep : List UInt8) : (Lib.cut s sep).1.length ≤ s.length := by
  unfold Lib.cut
  split
  · simp only [List.length_take]; omega
  · simp
theorem cut_room (s : List UInt8) (h : (Lib.cut s [58, 93]).2.2 = true) : (Lib.cut s [58, 93]).1.length + 2 ≤ s.length := by
  unfold Lib.cut at *
  split at h
  · rename_i h0
    have := Lib.index_room s [58, 93] h0
    rw [if_pos h0]
    simp only [List.length_take, List.length_cons, List.length_nil] at *
    omega
  · simp at h
theorem namedS_room {s : List UInt8} {nm : List UInt8} {d : Nat} (h : namedS s = some (nm, d)) : d ≤ s.length ∧ 5 ≤ d ∧ isCls nm = true ∧ d = nm.length + 4 := by
  unfold namedS at h
  split at h
  · rename_i h0
    split at h
    · rename_i h1
      have h2 := cut_room _ h1.1
      have h3 := isCls_ne h1.2
      simp only [Option.some.injEq, Prod.mk.injEq] at h
      obtain ⟨rfl, rfl⟩ := h
      have h4 : 2 ≤ s.length := by
        match s, h0 with
        | [], h0 => simp [Lib.hasPrefix] at h0
        | [_], h0 => simp [Lib.hasPrefix] at h0
        | _ :: _ :: _, _ => simp
      have h5 := List.length_pos_iff.2 h3
      simp only [List.length_drop] at h2
      exact ⟨by omega, by omega, h1.2, rfl⟩
    · cases h
  · cases h

theorem named_ev (p : ByteArray) (i : Nat) (hi : i ≤ p.size) (hp : p.size ≤ 1000000) : Ev (fun k => glob_Named.f k p i) (namedR i (p.data.toList.drop i)) := by
  have hsz : p.data.toList.length = p.size := by rw [Array.length_toList]; rfl
  have e1 : (p.extract ((i : Int)).toNat p.size).data.toList = p.data.toList.drop i := by rw [Int.toNat_natCast]; exact Lib.extract_to_end _ _
  simp only [glob_Named.f, if_pos (show (0 : Int) ≤ (i : Int) by omega), if_pos (show (i : Int) ≤ (p.size : Int) by omega)]
  simp only [strings_HasPrefix.f, Option.bind_some, e1]
  by_cases h0 : Lib.hasPrefix (p.data.toList.drop i) [91, 58] = true
  · have h4 : i + 2 ≤ p.size := by
      have : 2 ≤ (p.data.toList.drop i).length := by
        match (p.data.toList.drop i), h0 with
        | [], h0 => simp [Lib.hasPrefix] at h0
        | [_], h0 => simp [Lib.hasPrefix] at h0
        | _ :: _ :: _, _ => simp
      rw [List.length_drop, hsz] at this
      omega
    have hw : wrap64 ((i : Int) + 2) = ((i + 2 : Nat) : Int) := by rw [w64 (by omega) (by omega)]; omega
    have e2 : (p.extract (((i + 2 : Nat) : Int)).toNat p.size).data.toList = (p.data.toList.drop i).drop 2 := by rw [Int.toNat_natCast, Lib.extract_to_end, List.drop_drop]
    have hsz2 : (p.extract (((i + 2 : Nat) : Int)).toNat p.size).size < 4294967281 := by
      have : (p.extract (((i + 2 : Nat) : Int)).toNat p.size).data.toList.length = (p.extract (((i + 2 : Nat) : Int)).toNat p.size).size := by rw [Array.length_toList]; rfl
      rw [← this, e2]
      simp only [List.length_drop, hsz]
      omega
    simp only [if_pos h0, hw, if_pos (show (0 : Int) ≤ ((i + 2 : Nat) : Int) by omega), if_pos (show ((i + 2 : Nat) : Int) ≤ (p.size : Int) by omega)]
    simp only [strings_Cut.f, if_pos hsz2, Option.bind_some, e2]
    refine Ev.bind (class_ev _ _) ?_
    have h5 := cut_le ((p.data.toList.drop i).drop 2) [58, 93]
    simp only [List.length_drop, hsz] at h5
    have h6 : (⟨(Lib.cut ((p.data.toList.drop i).drop 2) [58, 93]).1.toArray⟩ : ByteArray).size = (Lib.cut ((p.data.toList.drop i).drop 2) [58, 93]).1.length := rfl
    simp only [h6]
    unfold namedR namedS
    rw [if_pos h0]
    by_cases g1 : (Lib.cut ((p.data.toList.drop i).drop 2) [58, 93]).2.2 = true
    · by_cases g2 : isCls (Lib.cut ((p.data.toList.drop i).drop 2) [58, 93]).1 = true
      · simp only [g1, g2, and_self, if_true]
        rw [w64 (x := (i : Int) + _) (by omega) (by omega), w64 (by omega) (by omega)]
        rw [show ((i : Int) + ((Lib.cut ((p.data.toList.drop i).drop 2) [58, 93]).1.length : Int) + 4) = (i : Int) + (((Lib.cut ((p.data.toList.drop i).drop 2) [58, 93]).1.length + 4 : Nat) : Int) by omega]
        exact Ev.now _
      · simp only [g1, g2, and_false, if_true, if_false]
        exact Ev.now _
    · simp only [g1, false_and, if_false]
      exact Ev.now _
  · simp only [if_neg h0]
    unfold namedR namedS
    rw [if_neg h0]
    exact Ev.now _

/-! ### a byte of a set, or behind a backslash -/
def sgn (p : ByteArray) (i : Nat) : Int × Nat := if bt p i = 92 ∧ i + 1 < p.size then (bt p (i + 1 : Nat), i + 2) else (bt p i, i + 1)
theorem sign_eq (p : ByteArray) (i : Nat) (hi : i < p.size) (hp : p.size ≤ 1000000) : glob_sign.f p i = some ((sgn p i).1, ((sgn p i).2 : Int)) := by
  simp only [glob_sign.f, sgn]
  rw [if_pos (by omega), if_pos (by omega), w64 (x := (i : Int) + 1) (by omega) (by omega), w64 (x := (i : Int) + 2) (by omega) (by omega)]
  by_cases h1 : bt p i = 92
  · by_cases h2 : i + 1 < p.size
    · rw [if_pos h1, if_pos (by omega), if_pos (by omega), if_pos ⟨h1, h2⟩]; rfl
    · rw [if_pos h1, if_neg (by omega), if_neg (fun h => h2 h.2)]; rfl
  · rw [if_neg h1, if_neg (fun h => h1 h.1)]; rfl
theorem sgn_bd (p : ByteArray) (i : Nat) (hi : i < p.size) : i < (sgn p i).2 ∧ (sgn p i).2 ≤ p.size := by
  unfold sgn
  split
  · simp; omega
  · simp; omega

/-! ### a set -/
def memb (p : ByteArray) (i : Nat) : (Int → Bool) × Nat := match namedS (p.data.toList.drop i) with
  | some (nm, d) => (clsB nm, i + d)
  | none =>
    if (sgn p i).2 + 1 < p.size ∧ bt p (sgn p i).2 = 45 ∧ bt p ((sgn p i).2 + 1 : Nat) ≠ 93 ∧ namedS (p.data.toList.drop ((sgn p i).2 + 1)) = none then
      (fun c => decide ((sgn p i).1 ≤ c) && decide (c ≤ (sgn p ((sgn p i).2 + 1)).1), (sgn p ((sgn p i).2 + 1)).2)
    else (fun c => decide ((sgn p i).1 ≤ c) && decide (c ≤ (sgn p i).1), (sgn p i).2)
theorem memb_bd (p : ByteArray) (i : Nat) (hi : i < p.size) : i < (memb p i).2 ∧ (memb p i).2 ≤ p.size := by
  have hsz : p.data.toList.length = p.size := by rw [Array.length_toList]; rfl
  have h1 := sgn_bd p i hi
  unfold memb
  split
  · rename_i nm d h
    have := namedS_room h
    rw [List.length_drop, hsz] at this
    simp; omega
  · split
    · rename_i h
      have := sgn_bd p ((sgn p i).2 + 1) (by omega)
      simp; omega
    · exact h1

def setRun (p : ByteArray) (first : Nat) : Nat → Nat → (Int → Bool) → Option ((Int → Bool) × Nat)
  | 0, _, _ => none
  | f + 1, i, acc => if i < p.size then (if bt p i = 93 ∧ first < i then some (acc, i + 1) else setRun p first f (memb p i).2 (fun c => acc c || (memb p i).1 c)) else none
def setOut (c : Int) (no : Bool) : Option ((Int → Bool) × Nat) → Bool × Int
  | none => (false, -1)
  | some (f, e) => ((f c != no) && c != 47, (e : Int))

theorem set_j4 (p : ByteArray) (c : Int) (no acc : Bool) (first : Int) (lo : Int) (e : Nat) (q : Bool) (r : Bool × Int) (he : e ≤ p.size) (hp : p.size ≤ 1000000)
    (h : Ev (fun k => glob_set.l0 k p ((if q = true ∧ namedS (p.data.toList.drop (e + 1)) = none then (sgn p (e + 1)).2 else e : Nat) : Int) c no
      (acc || (decide (lo ≤ c) && decide (c ≤ (if q = true ∧ namedS (p.data.toList.drop (e + 1)) = none then (sgn p (e + 1)).1 else lo)))) first) r) (hq : q = true → e + 1 < p.size) :
    Ev (fun k => glob_set.j4 k p c no acc first lo e lo q) r := by
  refine Ev.step (fun k => by simp only [glob_set.j4]; exact rfl) ?_
  have fin : ∀ (x : Nat) (hi : Int), Ev (fun k => glob_set.l0 k p (x : Int) c no (acc || (decide (lo ≤ c) && decide (c ≤ hi))) first) r →
      Ev (fun k => if acc = true then glob_set.l0 k p (x : Int) c no true first else if c ≥ lo then glob_set.l0 k p (x : Int) c no (decide (c ≤ hi)) first else glob_set.l0 k p (x : Int) c no false first) r := by
    intro x hi H
    cases acc with
    | true => simpa using H
    | false =>
      by_cases g : lo ≤ c
      · simp only [Bool.false_eq_true, if_false]
        simp only [if_pos g]
        simpa [g] using H
      · simp only [Bool.false_eq_true, if_false]
        simp only [if_neg (show ¬ c ≥ lo from g)]
        simpa [g] using H
  cases q with
  | false =>
    simp only [Bool.false_eq_true, if_false, false_and] at h ⊢
    exact fin _ _ h
  | true =>
    have hlt := hq rfl
    simp only [if_true, true_and] at h ⊢
    simp only [show wrap64 ((e : Int) + 1) = ((e + 1 : Nat) : Int) by rw [w64 (by omega) (by omega)]; omega]
    have hev := named_ev p (e + 1) (by omega) hp
    by_cases hn : namedS (p.data.toList.drop (e + 1)) = none
    · rw [namedR_none hn] at hev
      refine Ev.bind hev ?_
      rw [if_pos hn, if_pos hn] at h
      simp only [if_pos (show (-1 : Int) < 0 by omega)]
      refine Ev.bindS (sign_eq p (e + 1) hlt hp) ?_
      exact fin _ _ h
    · obtain ⟨nd, hnd⟩ := Option.ne_none_iff_exists'.1 hn
      rw [namedR_some (nm := nd.1) (d := nd.2) hnd] at hev
      refine Ev.bind hev ?_
      rw [if_neg hn, if_neg hn] at h
      simp only [if_neg (show ¬ ((e + 1 : Nat) : Int) + (nd.2 : Int) < 0 by omega)]
      exact fin _ _ h

theorem set_loop (p : ByteArray) (c : Int) (no : Bool) (first : Nat) (hp : p.size ≤ 1000000) : ∀ (f i : Nat) (acc : Int → Bool), p.size < i + f →
    i ≤ p.size → Ev (fun k => glob_set.l0 k p i c no (acc c) first) (setOut c no (setRun p first f i acc)) := by
  intro f
  induction f with
  | zero => intro i acc h h'; omega
  | succ f ih =>
    intro i acc h h'
    refine Ev.step (fun k => by simp only [glob_set.l0]; exact rfl) ?_
    simp only [setRun]
    by_cases hi : i < p.size
    · simp only [if_pos hi, if_pos (show (i : Int) < (p.size : Int) by omega), if_pos (show (0 : Int) ≤ (i : Int) by omega)]
      have key : ∀ (b : Bool), b = (decide (bt p i = 93 ∧ first < i)) → Ev (fun k => glob_set.j3 k p i c no (acc c) first b)
          (setOut c no (if bt p i = 93 ∧ first < i then some (acc, i + 1) else setRun p first f (memb p i).2 fun c => acc c || (memb p i).1 c)) := by
        intro b hb
        refine Ev.step (fun k => by simp only [glob_set.j3]; exact rfl) ?_
        by_cases hc : bt p i = 93 ∧ first < i
        · rw [decide_eq_true hc] at hb
          subst hb
          rw [if_pos hc]
          simp only [if_true, setOut]
          rw [show wrap64 ((i : Int) + 1) = ((i + 1 : Nat) : Int) by rw [w64 (by omega) (by omega)]; omega]
          by_cases hx : (acc c != no) = true
          · simp only [if_pos hx, hx, Bool.true_and]
            exact Ev.now _
          · rw [Bool.not_eq_true] at hx
            simp only [hx, Bool.false_eq_true, if_false, Bool.false_and]
            exact Ev.now _
        · rw [decide_eq_false hc] at hb
          subst hb
          rw [if_neg hc]
          simp only [Bool.false_eq_true, if_false]
          have hev := named_ev p i h' hp
          have hmb := memb_bd p i hi
          have hrec := ih (memb p i).2 (fun c => acc c || (memb p i).1 c) (by omega) hmb.2
          by_cases hn0 : namedS (p.data.toList.drop i) = none
          rotate_left
          · obtain ⟨⟨nm, d⟩, hn⟩ := Option.ne_none_iff_exists'.1 hn0
            rw [namedR_some hn] at hev
            refine Ev.bind hev ?_
            have hm : memb p i = (clsB nm, i + d) := by unfold memb; rw [hn]
            rw [hm] at hrec ⊢
            simp only [if_pos (show (i : Int) + (d : Int) ≥ 0 by omega)]
            refine Ev.bind (class_ev _ _) ?_
            simp only [show ((i : Int) + (d : Int)) = ((i + d : Nat) : Int) by omega]
            cases hac : acc c with
            | true => simpa [hac] using hrec
            | false => simpa [hac] using hrec
          · have hn := hn0
            rw [namedR_none hn] at hev
            refine Ev.bind hev ?_
            simp only [if_neg (show ¬ (-1 : Int) ≥ 0 by omega)]
            refine Ev.bindS (sign_eq p i hi hp) ?_
            have hs := sgn_bd p i hi
            have hm : memb p i = (if (sgn p i).2 + 1 < p.size ∧ bt p (sgn p i).2 = 45 ∧ bt p ((sgn p i).2 + 1 : Nat) ≠ 93 ∧ namedS (p.data.toList.drop ((sgn p i).2 + 1)) = none then
                (fun c => decide ((sgn p i).1 ≤ c) && decide (c ≤ (sgn p ((sgn p i).2 + 1)).1), (sgn p ((sgn p i).2 + 1)).2)
              else (fun c => decide ((sgn p i).1 ≤ c) && decide (c ≤ (sgn p i).1), (sgn p i).2)) := by unfold memb; rw [hn]
            simp only [show wrap64 (((sgn p i).2 : Int) + 1) = (((sgn p i).2 + 1 : Nat) : Int) by rw [w64 (by omega) (by omega)]; omega]
            have fin : ∀ q : Bool, (q = true → (sgn p i).2 + 1 < p.size) → (q = true ∧ namedS (p.data.toList.drop ((sgn p i).2 + 1)) = none ↔ (sgn p i).2 + 1 < p.size ∧ bt p (sgn p i).2 = 45 ∧ bt p ((sgn p i).2 + 1 : Nat) ≠ 93 ∧ namedS (p.data.toList.drop ((sgn p i).2 + 1)) = none) →
                Ev (fun k => glob_set.j4 k p c no (acc c) first (sgn p i).1 ((sgn p i).2 : Int) (sgn p i).1 q) (setOut c no (setRun p first f (memb p i).2 fun c => acc c || (memb p i).1 c)) := by
              intro q hq hiff
              refine set_j4 p c no (acc c) first (sgn p i).1 (sgn p i).2 q _ hs.2 hp ?_ hq
              by_cases hz : q = true ∧ namedS (p.data.toList.drop ((sgn p i).2 + 1)) = none
              · rw [if_pos hz, if_pos hz]
                rw [hm, if_pos (hiff.1 hz)] at hrec ⊢
                exact hrec
              · rw [if_neg hz, if_neg hz]
                rw [hm, if_neg (fun h => hz (hiff.2 h))] at hrec ⊢
                exact hrec
            by_cases g1 : (sgn p i).2 + 1 < p.size
            · simp only [if_pos (show (((sgn p i).2 + 1 : Nat) : Int) < (p.size : Int) by omega), if_pos (show (0 : Int) ≤ ((sgn p i).2 : Int) by omega), if_pos (show ((sgn p i).2 : Int) < (p.size : Int) by omega), if_pos (show (0 : Int) ≤ (((sgn p i).2 + 1 : Nat) : Int) by omega)]
              by_cases g2 : bt p (sgn p i).2 = 45
              · simp only [if_pos g2]
                exact fin _ (fun _ => g1) (by simp [g1, g2])
              · simp only [if_neg g2]
                exact fin _ (fun h => by cases h) (by simp [g2])
            · simp only [if_neg (show ¬ (((sgn p i).2 + 1 : Nat) : Int) < (p.size : Int) by omega)]
              exact fin _ (fun h => by cases h) (by simp [g1])
      by_cases h93 : bt p i = 93
      · simp only [if_pos h93]
        exact key _ (by simp [h93])
      · simp only [if_neg h93]
        exact key _ (by simp [h93])
    · simp only [if_neg hi, if_neg (show ¬ (i : Int) < (p.size : Int) by omega), setOut]
      exact Ev.now _

theorem setRun_bd (p : ByteArray) (first : Nat) : ∀ (f i : Nat) (acc g : Int → Bool) (e : Nat), setRun p first f i acc = some (g, e) → i < e ∧ e ≤ p.size := by
  intro f
  induction f with
  | zero => intro i acc g e h; simp [setRun] at h
  | succ f ih =>
    intro i acc g e h
    simp only [setRun] at h
    by_cases hi : i < p.size
    · rw [if_pos hi] at h
      by_cases hc : bt p i = 93 ∧ first < i
      · rw [if_pos hc] at h
        simp only [Option.some.injEq, Prod.mk.injEq] at h
        omega
      · rw [if_neg hc] at h
        have h1 := ih _ _ _ _ h
        have h2 := memb_bd p i hi
        omega
    · rw [if_neg hi] at h
      cases h

/-- is the set behind the bracket all others -/
def setNot (p : ByteArray) (i : Nat) : Bool := decide (i + 1 < p.size ∧ (bt p (i + 1 : Nat) = 33 ∨ bt p (i + 1 : Nat) = 94))
/-- where its members begin -/
def setAt (p : ByteArray) (i : Nat) : Nat := if setNot p i = true then i + 2 else i + 1
/-- its members, and where it ends -/
def setS (p : ByteArray) (i : Nat) : Option ((Int → Bool) × Nat) := setRun p (setAt p i) (p.size + 1) (setAt p i) (fun _ => false)

theorem setAt_bd (p : ByteArray) (i : Nat) (hi : i < p.size) : i < setAt p i ∧ setAt p i ≤ p.size := by
  unfold setAt
  split
  · rename_i h
    unfold setNot at h
    have := of_decide_eq_true h
    omega
  · omega

theorem set_ev (p : ByteArray) (i : Nat) (c : Int) (hi : i < p.size) (hp : p.size ≤ 1000000) :
    Ev (fun k => glob_set.f k p i c) (setOut c (setNot p i) (setS p i)) := by
  have hb := setAt_bd p i hi
  have hl := set_loop p c (setNot p i) (setAt p i) hp (p.size + 1) (setAt p i) (fun _ => false) (by omega) hb.2
  simp only [glob_set.f]
  simp only [show wrap64 ((i : Int) + 1) = ((i + 1 : Nat) : Int) by rw [w64 (by omega) (by omega)]; omega]
  have key : ∀ b : Bool, setNot p i = b → Ev (fun k => glob_set.j0 k p ((i + 1 : Nat) : Int) c b) (setOut c (setNot p i) (setS p i)) := by
    intro b hb'
    refine Ev.step (fun k => by simp only [glob_set.j0]; exact rfl) ?_
    rw [hb'] at hl ⊢
    unfold setAt at hl
    unfold setS setAt
    rw [hb'] at hl ⊢
    cases b with
    | true =>
      simp only [if_true] at hl ⊢
      simp only [show wrap64 (((i + 1 : Nat) : Int) + 1) = ((i + 2 : Nat) : Int) by rw [w64 (by omega) (by omega)]; omega]
      refine Ev.step (fun k => by simp only [glob_set.j1]; exact rfl) ?_
      exact hl
    | false =>
      simp only [Bool.false_eq_true, if_false] at hl ⊢
      refine Ev.step (fun k => by simp only [glob_set.j1]; exact rfl) ?_
      exact hl
  by_cases h1 : i + 1 < p.size
  · simp only [if_pos (show ((i + 1 : Nat) : Int) < (p.size : Int) by omega), if_pos (show (0 : Int) ≤ ((i + 1 : Nat) : Int) by omega)]
    by_cases h2 : bt p (i + 1 : Nat) = 33
    · simp only [if_pos h2]
      exact key _ (decide_eq_true ⟨h1, .inl h2⟩)
    · simp only [if_neg h2]
      refine key _ ?_
      unfold setNot
      by_cases h3 : bt p (i + 1 : Nat) = 94
      · rw [decide_eq_true ⟨h1, .inr h3⟩, h3]; rfl
      · rw [decide_eq_false (by omega)]
        exact (beq_eq_false_iff_ne.2 h3).symm
  · simp only [if_neg (show ¬ ((i + 1 : Nat) : Int) < (p.size : Int) by omega)]
    exact key _ (decide_eq_false (by omega))

/-! ### a part of a pattern -/
def elemS (p : ByteArray) (i : Nat) : (Int → Bool) × Nat :=
  if bt p i = 63 then (fun c => c != 47, i + 1)
  else if bt p i = 91 then match setS p i with
    | some (f, e) => (fun c => (f c != setNot p i) && c != 47, e)
    | none => (fun c => c == 91, i + 1)
  else (fun c => (sgn p i).1 == c, (sgn p i).2)

theorem elemS_bd (p : ByteArray) (i : Nat) (hi : i < p.size) : i < (elemS p i).2 ∧ (elemS p i).2 ≤ p.size := by
  unfold elemS
  split
  · simp; omega
  · split
    · split
      · rename_i f e h
        have h1 := setRun_bd _ _ _ _ _ _ _ h
        have h2 := setAt_bd p i hi
        simp; omega
      · simp; omega
    · exact sgn_bd p i hi

theorem elemS_lit (p : ByteArray) (i : Nat) : Keeps (elemS p i).1 := by
  unfold elemS Keeps
  split
  · intro h; simp at h
  · split
    · split
      · intro h; simp at h
      · intro h; simp at h
    · intro h c hc
      rw [beq_iff_eq] at h hc
      omega

theorem one_ev (p : ByteArray) (i : Nat) (c : Int) (hi : i < p.size) (hp : p.size ≤ 1000000) :
    Ev (fun k => glob_one.f k p i c) ((elemS p i).1 c, ((elemS p i).2 : Int)) := by
  simp only [glob_one.f, if_pos (show (0 : Int) ≤ (i : Int) by omega), if_pos (show (i : Int) < (p.size : Int) by omega)]
  simp only [show wrap64 ((i : Int) + 1) = ((i + 1 : Nat) : Int) by rw [w64 (by omega) (by omega)]; omega]
  unfold elemS
  by_cases h1 : bt p i = 63
  · simp only [if_pos h1]; exact Ev.now _
  · simp only [if_neg h1]
    by_cases h2 : bt p i = 91
    · simp only [if_pos h2]
      have hs := set_ev p i c hi hp
      cases hS : setS p i with
      | none =>
        rw [hS] at hs
        refine Ev.bind hs ?_
        simp only [setOut, if_neg (show ¬ (-1 : Int) ≥ 0 by omega)]
        exact Ev.now _
      | some fe =>
        rw [hS] at hs
        refine Ev.bind hs ?_
        simp only [setOut, if_pos (show (fe.2 : Int) ≥ 0 by omega)]
        exact Ev.now _
    · simp only [if_neg h2]
      refine Ev.bindS (sign_eq p i hi hp) ?_
      exact Ev.now _

/-- The pattern from a place on, part by part. -/
inductive Parse (p : ByteArray) : Nat → List Part → Prop
  | done : Parse p p.size []
  | star {i : Nat} {is : List Part} : i < p.size → bt p i = 42 → Parse p (i + 1) is → Parse p i (.star :: is)
  | one {i : Nat} {is : List Part} : i < p.size → bt p i ≠ 42 → Parse p (elemS p i).2 is → Parse p i (.one (elemS p i).1 :: is)

theorem parse_ex (p : ByteArray) : ∀ (d i : Nat), p.size - i = d → i ≤ p.size → ∃ is, Parse p i is := by
  intro d
  induction d using Nat.strongRecOn with
  | _ d ih =>
    intro i hd hi
    by_cases h : i = p.size
    · subst h; exact ⟨[], .done⟩
    · have hlt : i < p.size := by omega
      by_cases h42 : bt p i = 42
      · obtain ⟨is, h'⟩ := ih (p.size - (i + 1)) (by omega) (i + 1) rfl (by omega)
        exact ⟨_, .star hlt h42 h'⟩
      · have hb := elemS_bd p i hlt
        obtain ⟨is, h'⟩ := ih (p.size - (elemS p i).2) (by omega) (elemS p i).2 rfl hb.2
        exact ⟨_, .one hlt h42 h'⟩

theorem parse_le {p : ByteArray} {i : Nat} {is : List Part} (h : Parse p i is) : i ≤ p.size := by
  cases h <;> omega

/-! ### the whole -/
/-- a text's bytes -/
def lst (s : ByteArray) : List Int := s.data.toList.map fun b => (b.toNat : Int)
theorem lst_len (s : ByteArray) : (lst s).length = s.size := by unfold lst; rw [List.length_map, Array.length_toList]; rfl
theorem lst_at (s : ByteArray) (i : Nat) (h : i < s.size) : (lst s)[i]? = some (bt s i) := by
  have h' : i < s.data.toList.length := by rw [Array.length_toList]; exact h
  unfold lst bt
  rw [List.getElem?_map, List.getElem?_eq_getElem h', dif_pos (by rw [Int.toNat_natCast]; exact h)]
  rfl
theorem lst_drop (s : ByteArray) (i : Nat) (h : i < s.size) : (lst s).drop i = bt s i :: (lst s).drop (i + 1) := by
  have h' : i < (lst s).length := by rw [lst_len]; exact h
  rw [List.drop_eq_getElem_cons h']
  have := lst_at s i h
  rw [List.getElem?_eq_getElem h'] at this
  rw [Option.some.inj this]
theorem lst_end (s : ByteArray) : (lst s).drop s.size = [] := by rw [List.drop_eq_nil_iff, lst_len]; exact Nat.le_refl _

theorem ones_nil : Ones [] := by intro x hx; cases hx
/-- what may be gone back to: the parts behind the last star, and where what it takes ends -/
def Back (p n : ByteArray) (cur : List Part) (j : Nat) (star from_ : Int) (bk : Option (List Part × Nat)) : Prop :=
  match bk with
  | none => star = -1 ∧ from_ = 0
  | some (sis, f) => ∃ (s : Nat) (seg : List Part), star = (s : Int) ∧ from_ = (f : Int) ∧ s < p.size ∧ f ≤ n.size ∧ Parse p (s + 1) sis ∧ Ones seg ∧ sis = seg ++ cur ∧ takes seg ((lst n).drop f) = true ∧ j = f + seg.length
def more (n : ByteArray) : Option (List Part × Nat) → Bool
  | none => false
  | some (sis, f) => retry sis ((lst n).drop f)
def rank (n : ByteArray) : Option (List Part × Nat) → Nat
  | none => n.size + 1
  | some (_, f) => n.size - f

theorem match_loop (p n : ByteArray) (hp : p.size ≤ 1000000) (hn : n.size ≤ 1000000) : ∀ (m : Nat) (i j : Nat) (cur : List Part) (star from_ : Int) (bk : Option (List Part × Nat)),
    rank n bk * (p.size + 1) + (p.size - i) = m → Parse p i cur → j ≤ n.size → Back p n cur j star from_ bk →
    Ev (fun k => glob_Match.l1 k p n i j star from_) (M cur ((lst n).drop j) || more n bk) := by
  intro m
  induction m using Nat.strongRecOn with
  | _ m ih =>
    intro i j cur star from_ bk hm hpar hj hbk
    have hil := parse_le hpar
    -- going back
    have back : ∀ (q : Bool), more n bk = q → Ev (fun k => if star < 0 then (some false) else (if from_ = (n.size : Int) then (some false) else (if 0 ≤ from_ then (if from_ < (n.size : Int) then (if (bt n from_) = 47 then (some false) else (glob_Match.l0 k p n (wrap64 (star + 1)) (wrap64 (from_ + 1)) star (wrap64 (from_ + 1)))) else (none)) else (none)))) q := by
      intro q hq
      cases bk with
      | none =>
        obtain ⟨rfl, rfl⟩ := hbk
        simp only [if_pos (show (-1 : Int) < 0 by omega)]
        simp only [more] at hq
        subst hq
        exact Ev.now _
      | some sf =>
        obtain ⟨sis, f⟩ := sf
        obtain ⟨s, seg, rfl, rfl, hs, hf, hps, hon, hseg, htk, hjf⟩ := hbk
        simp only [if_neg (show ¬ (s : Int) < 0 by omega)]
        simp only [more] at hq
        by_cases h1 : f = n.size
        · simp only [if_pos (show (f : Int) = (n.size : Int) by omega)]
          rw [h1, lst_end] at hq
          simp only [retry] at hq
          subst hq
          exact Ev.now _
        · simp only [if_neg (show ¬ (f : Int) = (n.size : Int) by omega), if_pos (show (0 : Int) ≤ (f : Int) by omega), if_pos (show (f : Int) < (n.size : Int) by omega)]
          rw [lst_drop n f (by omega)] at hq
          simp only [retry] at hq
          by_cases h2 : bt n f = 47
          · simp only [if_pos h2]
            rw [h2] at hq
            simp only [bne_self_eq_false, Bool.false_and] at hq
            subst hq
            exact Ev.now _
          · simp only [if_neg h2]
            rw [bne_iff_ne.2 h2, Bool.true_and, M_star] at hq
            refine Ev.step (fun k => by simp only [glob_Match.l0]; exact rfl) ?_
            simp only [show wrap64 ((s : Int) + 1) = ((s + 1 : Nat) : Int) by rw [w64 (by omega) (by omega)]; omega, show wrap64 ((f : Int) + 1) = ((f + 1 : Nat) : Int) by rw [w64 (by omega) (by omega)]; omega]
            have hlt : rank n (some (sis, f + 1)) * (p.size + 1) + (p.size - (s + 1)) < m := by
              rw [← hm]
              simp only [rank]
              have : (n.size - (f + 1)) + 1 = n.size - f := by omega
              rw [← this, Nat.add_mul]
              omega
            have := ih _ hlt (s + 1) (f + 1) sis s ((f + 1 : Nat) : Int) (some (sis, f + 1)) rfl hps (by omega) ⟨s, [], rfl, rfl, hs, by omega, hps, ones_nil, rfl, rfl, rfl⟩
            rw [← hq]
            exact this
    have rest : Parse p i cur → (i < p.size → bt p i ≠ 42) → Ev (fun k => glob_Match.j2 k p n i j star from_) (M cur ((lst n).drop j) || more n bk) := by
      intro hpar hns
      refine Ev.step (fun k => by simp only [glob_Match.j2]; exact rfl) ?_
      have j3 : Ev (fun k => glob_Match.j3 k p n i j star from_ (decide (i = p.size ∧ j = n.size))) (M cur ((lst n).drop j) || more n bk) := by
        refine Ev.step (fun k => by simp only [glob_Match.j3]; exact rfl) ?_
        by_cases hb : i = p.size ∧ j = n.size
        · rw [decide_eq_true hb]
          simp only [if_true]
          obtain ⟨rfl, rfl⟩ := hb
          cases hpar with
          | done => rw [lst_end]; simp only [M_nil_nil, Bool.true_or]; exact Ev.now _
          | star h _ _ => omega
          | one h _ _ => omega
        · rw [decide_eq_false hb]
          simp only [Bool.false_eq_true, if_false]
          have j4 : Ev (fun k => glob_Match.j4 k p n i j star from_ (decide (i < p.size ∧ j < n.size))) (M cur ((lst n).drop j) || more n bk) := by
            refine Ev.step (fun k => by simp only [glob_Match.j4]; exact rfl) ?_
            by_cases hc : i < p.size ∧ j < n.size
            · rw [decide_eq_true hc]
              simp only [if_true, if_pos (show (0 : Int) ≤ (j : Int) by omega), if_pos (show (j : Int) < (n.size : Int) by omega)]
              refine Ev.bind (one_ev p i (bt n j) hc.1 hp) ?_
              cases hpar with
              | done => omega
              | star h h' _ => exact absurd h' (hns hc.1)
              | @one _ is h _ hp' =>
                rw [lst_drop n j hc.2, M_one_cons]
                have hel := elemS_bd p i hc.1
                by_cases hok : (elemS p i).1 (bt n j) = true
                · simp only [hok, if_true, Bool.true_and]
                  refine Ev.step (fun k => by simp only [glob_Match.l0]; exact rfl) ?_
                  simp only [show wrap64 ((j : Int) + 1) = ((j + 1 : Nat) : Int) by rw [w64 (by omega) (by omega)]; omega]
                  refine ih _ ?_ (elemS p i).2 (j + 1) is star from_ bk rfl hp' (by omega) ?_
                  · rw [← hm]; omega
                  · cases bk with
                    | none => exact hbk
                    | some sf =>
                      obtain ⟨sis, f⟩ := sf
                      obtain ⟨s, seg, h1, h2, hs, hf, hps, hon, hseg, htk, hjf⟩ := hbk
                      refine ⟨s, seg ++ [.one (elemS p i).1], h1, h2, hs, hf, hps, ?_, by rw [hseg]; simp, ?_, by simp; omega⟩
                      · intro x hx
                        rcases List.mem_append.1 hx with hx | hx
                        · exact hon x hx
                        · simp at hx; exact ⟨_, hx, elemS_lit p i⟩
                      · rw [takes_snoc hon, htk, List.drop_drop, ← hjf, lst_drop n j hc.2]
                        simpa using hok
                · rw [Bool.not_eq_true] at hok
                  simp only [hok, Bool.false_eq_true, if_false, Bool.false_and, Bool.false_or]
                  exact back _ rfl
            · rw [decide_eq_false hc]
              simp only [Bool.false_eq_true, if_false]
              have hM : M cur ((lst n).drop j) = false := by
                cases hpar with
                | done =>
                  have : j < n.size := by omega
                  rw [lst_drop n j this]; exact M_nil_cons _ _
                | star h h' _ => exact absurd h' (hns h)
                | one h _ _ =>
                  have : j = n.size := by omega
                  rw [this, lst_end]; exact M_one_nil _ _
              rw [hM, Bool.false_or]
              exact back _ rfl
          by_cases h1 : i < p.size
          · simp only [if_pos (show (i : Int) < (p.size : Int) by omega)]
            rw [show (decide (i < p.size ∧ j < n.size)) = decide ((j : Int) < (n.size : Int)) from by rw [Bool.eq_iff_iff]; simp; omega] at j4
            exact j4
          · simp only [if_neg (show ¬ (i : Int) < (p.size : Int) by omega)]
            rw [decide_eq_false (by omega)] at j4
            exact j4
      by_cases h1 : i = p.size
      · simp only [if_pos (show (i : Int) = (p.size : Int) by omega)]
        rw [show (decide (i = p.size ∧ j = n.size)) = ((j : Int) == (n.size : Int)) from by rw [Bool.eq_iff_iff]; simp; omega] at j3
        exact j3
      · simp only [if_neg (show ¬ (i : Int) = (p.size : Int) by omega)]
        rw [decide_eq_false (by omega)] at j3
        exact j3
    refine Ev.step (fun k => by simp only [glob_Match.l1]; exact rfl) ?_
    by_cases hi : i < p.size
    · simp only [if_pos (show (i : Int) < (p.size : Int) by omega), if_pos (show (0 : Int) ≤ (i : Int) by omega)]
      by_cases h42 : bt p i = 42
      · simp only [if_pos h42, show wrap64 ((i : Int) + 1) = ((i + 1 : Nat) : Int) by rw [w64 (by omega) (by omega)]; omega]
        cases hpar with
        | done => omega
        | one _ h _ => exact absurd h42 h
        | @star _ is _ _ hp' =>
          have hnew := ih (rank n (some (is, j)) * (p.size + 1) + (p.size - (i + 1))) (by
            rw [← hm]
            have : rank n (some (is, j)) ≤ rank n bk := by
              cases bk with
              | none => simp only [rank]; omega
              | some sf =>
                obtain ⟨sis, f⟩ := sf
                obtain ⟨s, seg, _, _, _, _, _, _, _, _, hjf⟩ := hbk
                simp only [rank]; omega
            have := Nat.mul_le_mul_right (p.size + 1) this
            omega) (i + 1) j is i j (some (is, j)) rfl hp' hj ⟨i, [], rfl, rfl, hi, hj, hp', ones_nil, rfl, rfl, rfl⟩
          have e : (M (.star :: is) ((lst n).drop j) || more n bk) = (M is ((lst n).drop j) || more n (some (is, j))) := by
            rw [M_star]
            simp only [more]
            cases bk with
            | none => simp [more]
            | some sf =>
              obtain ⟨sis, f⟩ := sf
              obtain ⟨s, seg, _, _, _, _, _, hon, hseg, htk, hjf⟩ := hbk
              simp only [more]
              cases hr : retry sis ((lst n).drop f) with
              | false => simp
              | true =>
                rw [hseg] at hr
                have := last_star hon htk hr
                rw [List.drop_drop, ← hjf, M_star] at this
                rw [this]; simp
          rw [e]
          exact hnew
      · simp only [if_neg h42]
        exact rest hpar (fun _ => h42)
    · simp only [if_neg (show ¬ (i : Int) < (p.size : Int) by omega)]
      exact rest hpar (fun h => absurd h hi)

/-- WHAT THE PROGRAM's MATCH ANSWERS: whether the pattern's parts take the name's bytes. -/
theorem match_ev (p n : ByteArray) (is : List Part) (hp : p.size ≤ 1000000) (hn : n.size ≤ 1000000) (h : Parse p 0 is) : Ev (fun k => glob_Match.f k p n) (M is (lst n)) := by
  simp only [glob_Match.f]
  refine Ev.step (fun k => by simp only [glob_Match.l0]; exact rfl) ?_
  have := match_loop p n hp hn _ 0 0 is (-1) 0 none rfl h (by omega) ⟨rfl, rfl⟩
  simpa [more] using this

end Go.Proofs.Ytahfoeichmfloaa.GlobP
