/- The plain laws of a path's parts; no program in sight. -/
import Derived.Lib.RuneCount
import Derived.Lib.TrimUEq
import Derived.Lib.SpaceUEq
import Derived.Lib.FieldsP
import Derived.Lib.IndexBytes
namespace Go.Proofs.YthngeddaeoeimaaDoorTE.Paths
set_option linter.unusedVariables false
set_option linter.unusedSimpArgs false
open Go
def tb (l : List UInt8) : ByteArray := ⟨l.toArray⟩
theorem tb_of (s : ByteArray) : tb s.data.toList = s := rfl
theorem sz (s : ByteArray) : s.size = s.data.toList.length := Lib.size_eq s
/-- the parts of a name: what stands between the signs -/
def pcs : List UInt8 → List UInt8 → List (List UInt8)
  | cur, [] => if cur = [] then [] else [cur]
  | cur, b :: l => if b = 47 then (if cur = [] then pcs [] l else cur :: pcs [] l) else pcs (cur ++ [b]) l
def parts (s : List UInt8) : List (List UInt8) := pcs [] s
def base (s : List UInt8) : List UInt8 := (parts s).getLastD []
theorem pcs_skip : ∀ (u cur l : List UInt8), (47 : UInt8) ∉ u → pcs cur (u ++ l) = pcs (cur ++ u) l
  | [], cur, l, _ => by simp
  | b :: u, cur, l, h => by
    have hb : b ≠ 47 := fun e => h (by simp [e])
    rw [List.cons_append, pcs, if_neg hb, pcs_skip u (cur ++ [b]) l (fun h' => h (by simp [h']))]
    simp

/-! strings.FieldsFunc -/
theorem getD_at {l : List UInt8} {i : Nat} (h : i < l.length) : l.getD i 0 = l[i] := by
  rw [List.getD_eq_getElem?_getD, List.getElem?_eq_getElem h]; rfl
theorem dat_at {s : ByteArray} {pos : Nat} (h : pos < s.size) : s.data.toList.drop pos = s.data.toList.getD pos 0 :: s.data.toList.drop (pos + 1) := by
  have h' : pos < s.data.toList.length := by rw [← sz]; exact h
  rw [List.drop_eq_getElem_cons h', getD_at h']
theorem dec_is (s : ByteArray) (pos : Nat) : ((Utf8.decode s pos).1 = 47 → (Utf8.decode s pos).2 = 1 ∧ s.data.toList.getD pos 0 = 47) ∧ (s.data.toList.getD pos 0 = 47 → (Utf8.decode s pos).1 = 47) := by
  rw [Lib.decode_N]
  have hlt := (s.data.toList.getD pos 0).toNat_lt
  rcases Lib.decodeN_cases (s.data.toList.length - pos) (s.data.toList.getD pos 0).toNat (s.data.toList.getD (pos + 1) 0).toNat (s.data.toList.getD (pos + 2) 0).toNat (s.data.toList.getD (pos + 3) 0).toNat with ⟨h, e⟩ | ⟨h, _, _, h2, e⟩ | ⟨h, _, _, _, h2, e⟩ | ⟨h1, h2⟩ | e
  · rw [e]
    exact ⟨fun h => ⟨rfl, UInt8.toNat_inj.1 h⟩, fun h => by rw [h]; rfl⟩
  · rw [e]
    refine ⟨fun h => by simp only at h; omega, fun h' => by rw [h'] at h; exact absurd h (by decide)⟩
  · rw [e]
    refine ⟨fun h => by simp only at h; omega, fun h' => by rw [h'] at h; exact absurd h (by decide)⟩
  · refine ⟨fun h => by omega, fun h' => ?_⟩
    rw [h', Lib.decodeN_ascii _ _ _ _ _ (by decide)]; rfl
  · rw [e]
    refine ⟨fun h => by simp at h, fun h' => ?_⟩
    rw [h', Lib.decodeN_ascii _ _ _ _ _ (by decide)] at e
    exact absurd e (by decide)
theorem cont_ne {b : UInt8} (h : b.toNat / 64 = 2) : b ≠ 47 := by rintro rfl; exact absurd h (by decide)
theorem dec_width (s : ByteArray) (pos : Nat) (h : pos < s.size) (hne : (Utf8.decode s pos).1 ≠ 47) :
    1 ≤ (Utf8.decode s pos).2 ∧ pos + (Utf8.decode s pos).2 ≤ s.size ∧ (47 : UInt8) ∉ (s.data.toList.drop pos).take (Utf8.decode s pos).2 := by
  have h0 : s.data.toList.getD pos 0 ≠ 47 := fun e => hne ((dec_is s pos).2 e)
  have hw := Lib.decode_width_pos s pos h
  rw [Lib.decode_N] at hw ⊢
  have hc := Lib.decodeN_conts (s.data.toList.length - pos) (s.data.toList.getD pos 0).toNat (s.data.toList.getD (pos + 1) 0).toNat (s.data.toList.getD (pos + 2) 0).toNat (s.data.toList.getD (pos + 3) 0).toNat
  generalize (Lib.decodeN (s.data.toList.length - pos) (s.data.toList.getD pos 0).toNat (s.data.toList.getD (pos + 1) 0).toNat (s.data.toList.getD (pos + 2) 0).toNat (s.data.toList.getD (pos + 3) 0).toNat).2 = W at hw hc ⊢
  obtain ⟨c2, c3, c4, c5⟩ := hc
  have hsz := sz s
  refine ⟨hw, by omega, fun hm => ?_⟩
  obtain ⟨j, hj, e⟩ := List.getElem_of_mem hm
  rw [List.length_take, List.length_drop] at hj
  rw [List.getElem_take, List.getElem_drop] at e
  have e' : s.data.toList.getD (pos + j) 0 = 47 := by rw [getD_at (by omega)]; exact e
  have hj' : j = 0 ∨ j = 1 ∨ j = 2 ∨ j = 3 := by omega
  rcases hj' with rfl | rfl | rfl | rfl
  · exact h0 e'
  · exact cont_ne (c2 (by omega)).1 e'
  · exact cont_ne (c3 (by omega)).1 e'
  · exact cont_ne (c4 (by omega)).1 e'

def ext (s : ByteArray) (x : Nat × Nat) : ByteArray := s.extract x.1 x.2
theorem ext_tb (s : ByteArray) (a b : Nat) : ext s (a, b) = tb ((s.data.toList.drop a).take (b - a)) := by
  rw [← tb_of (ext s (a, b))]
  exact congrArg tb (Lib.extract_data s a b)
section
variable (p : Nat → Bool) (s : ByteArray) (f pos : Nat) (acc : List (Nat × Nat)) (a : Nat) (h : pos < s.size)
include h
theorem sp_yn (hq : p (Utf8.decode s pos).1 = true) : Lib.spansFromP p s (f + 1) pos none acc = Lib.spansFromP p s f (pos + (Utf8.decode s pos).2) none acc := by simp [Lib.spansFromP, h, hq]
theorem sp_ys (hq : p (Utf8.decode s pos).1 = true) : Lib.spansFromP p s (f + 1) pos (some a) acc = Lib.spansFromP p s f (pos + (Utf8.decode s pos).2) none (acc ++ [(a, pos)]) := by simp [Lib.spansFromP, h, hq]
theorem sp_nn (hq : p (Utf8.decode s pos).1 = false) : Lib.spansFromP p s (f + 1) pos none acc = Lib.spansFromP p s f (pos + (Utf8.decode s pos).2) (some pos) acc := by simp [Lib.spansFromP, h, hq]
theorem sp_ns (hq : p (Utf8.decode s pos).1 = false) : Lib.spansFromP p s (f + 1) pos (some a) acc = Lib.spansFromP p s f (pos + (Utf8.decode s pos).2) (some a) acc := by simp [Lib.spansFromP, h, hq]
end
theorem fields_pcs (s : ByteArray) : ∀ (f pos : Nat) (st : Option Nat) (acc : List (Nat × Nat)) (cur : List UInt8), s.size ≤ pos + f → pos ≤ s.size →
    (st = none ∧ cur = [] ∨ ∃ a, st = some a ∧ a < pos ∧ cur = (s.data.toList.drop a).take (pos - a)) →
    (Lib.closeSpans s (Lib.spansFromP (fun r => r == 47) s f pos st acc)).map (ext s) = acc.map (ext s) ++ (pcs cur (s.data.toList.drop pos)).map tb
  | f, pos, st, acc, cur, hf, hp, hst => by
    have hcur : ∀ a, a < pos → (s.data.toList.drop a).take (pos - a) ≠ [] := by
      intro a ha e
      have := congrArg List.length e
      rw [List.length_take, List.length_drop, ← sz] at this
      simp at this; omega
    rcases Nat.lt_or_ge pos s.size with h | h
    · match f, hf with
      | 0, hf => omega
      | f + 1, hf =>
        by_cases hq : (Utf8.decode s pos).1 = 47
        · obtain ⟨hw, hb⟩ := (dec_is s pos).1 hq
          rw [dat_at h, hb, pcs, if_pos rfl]
          have hq' : (fun r => r == 47) (Utf8.decode s pos).1 = true := by simpa using hq
          rcases hst with ⟨rfl, rfl⟩ | ⟨a, rfl, ha, rfl⟩
          · rw [if_pos rfl, sp_yn _ _ _ _ _ h hq', hw]
            exact fields_pcs s f (pos + 1) none acc [] (by omega) (by omega) (.inl ⟨rfl, rfl⟩)
          · rw [if_neg (hcur a ha), sp_ys _ _ _ _ _ _ h hq', hw]
            have ih := fields_pcs s f (pos + 1) none (acc ++ [(a, pos)]) [] (by omega) (by omega) (.inl ⟨rfl, rfl⟩)
            rw [ih, List.map_append, List.map_cons, List.map_nil, ext_tb, List.append_assoc]
            rfl
        · obtain ⟨hw, hle, hm⟩ := dec_width s pos h hq
          have hq' : (fun r => r == 47) (Utf8.decode s pos).1 = false := by simpa using hq
          have hsplit : s.data.toList.drop pos = (s.data.toList.drop pos).take (Utf8.decode s pos).2 ++ s.data.toList.drop (pos + (Utf8.decode s pos).2) := by
            rw [← List.drop_drop, List.take_append_drop]
          rw [hsplit, pcs_skip _ _ _ hm]
          rcases hst with ⟨rfl, rfl⟩ | ⟨a, rfl, ha, rfl⟩
          · rw [sp_nn _ _ _ _ _ h hq']
            refine fields_pcs s f (pos + (Utf8.decode s pos).2) (some pos) acc _ (by omega) hle (.inr ⟨pos, rfl, by omega, ?_⟩)
            rw [List.nil_append, Nat.add_sub_cancel_left]
          · rw [sp_ns _ _ _ _ _ _ h hq']
            refine fields_pcs s f (pos + (Utf8.decode s pos).2) (some a) acc _ (by omega) hle (.inr ⟨a, rfl, by omega, ?_⟩)
            rw [show pos + (Utf8.decode s pos).2 - a = (pos - a) + (Utf8.decode s pos).2 by omega, List.take_add, List.drop_drop, show a + (pos - a) = pos by omega]
    · rw [Lib.spansFromP_end _ _ _ _ _ _ (by omega), List.drop_of_length_le (by rw [← sz]; exact h)]
      rcases hst with ⟨rfl, rfl⟩ | ⟨a, rfl, ha, rfl⟩
      · simp [Lib.closeSpans, pcs]
      · rw [pcs, if_neg (hcur a ha)]
        have : pos = s.size := by omega
        simp only [Lib.closeSpans, List.map_append, List.map_cons, List.map_nil, ext_tb, this]
theorem pcs_len : ∀ (l cur : List UInt8), (pcs cur l).length ≤ l.length + 1
  | [], cur => by rw [pcs]; split <;> simp
  | b :: l, cur => by
    rw [pcs]
    split
    · split
      · have := pcs_len l []; simp; omega
      · have := pcs_len l []; simp; omega
    · have := pcs_len l (cur ++ [b]); simp; omega
def cutL : List UInt8 → Option (List UInt8)
  | [] => none
  | b :: l => if b = 47 then some l else cutL l
def trimL : List UInt8 → List UInt8
  | [] => []
  | b :: l => if b = 47 then trimL l else b :: l
def strip : Nat → List UInt8 → List UInt8
  | 0, s => s
  | n + 1, s => match cutL s with | none => s | some r => strip n (trimL r)
theorem trim_le : ∀ l : List UInt8, (trimL l).length ≤ l.length
  | [] => Nat.le_refl _
  | b :: l => by rw [trimL]; split
                 · have := trim_le l; simp; omega
                 · exact Nat.le_refl _
theorem cut_lt : ∀ {l r : List UInt8}, cutL l = some r → r.length < l.length
  | b :: l, r, h => by
    rw [cutL] at h
    split at h
    · simp only [Option.some.injEq] at h; subst h; simp
    · have := cut_lt h; simp; omega
theorem idx_cut : ∀ s : List UInt8, (Lib.indexByte s 47 = -1 ∧ cutL s = none) ∨ (∃ i : Nat, Lib.indexByte s 47 = i ∧ i < s.length ∧ cutL s = some (s.drop (i + 1)))
  | [] => .inl ⟨rfl, rfl⟩
  | b :: s => by
    by_cases hb : b = 47
    · subst hb
      exact .inr ⟨0, by simp [Lib.indexByte], by simp, by simp [cutL]⟩
    · rcases idx_cut s with ⟨h, e⟩ | ⟨i, h, hi, e⟩
      · exact .inl ⟨by simp [Lib.indexByte, hb, h], by rw [cutL, if_neg hb, e]⟩
      · refine .inr ⟨i + 1, ?_, by simp; omega, by rw [cutL, if_neg hb, e]; rfl⟩
        simp only [Lib.indexByte, h]
        rw [if_neg (by simpa using hb), if_neg (by simp <;> omega)]
        simp
end Go.Proofs.YthngeddaeoeimaaDoorTE.Paths
