import Derived.Test.YthngeddaeoeimaaDoorVeP
import Derived.Lib.AtoiErrMem
import Derived.Test.YthngeddaeoeimaaDoorShelfN
namespace Go.Proofs.YthngeddaeoeimaaDoorVE
open Go Go.RowKit
set_option linter.unusedVariables false
set_option linter.unusedSimpArgs false
def idxF : List UInt8 → UInt8 → Nat → Int
  | [], _, _ => -1
  | b :: l, c, k => if b == c then (k : Int) else idxF l c (k + 1)
theorem idxF_eq : ∀ (l : List UInt8) (c : UInt8) (k : Nat), idxF l c k = if Lib.indexByte l c == -1 then -1 else Lib.indexByte l c + k
  | [], c, k => by simp [idxF, Lib.indexByte]
  | b :: l, c, k => by
    simp only [idxF, Lib.indexByte]
    by_cases h : b = c
    · simp [h]
    · have h' : (b == c) = false := by simpa using h
      simp only [h', Bool.false_eq_true, if_false]
      rw [idxF_eq l c (k + 1)]
      have hge := Lib.indexByte_ge l c
      cases h2 : Lib.indexByte l c == -1 with
      | true => simp
      | false =>
        simp only [Bool.false_eq_true, if_false]
        rw [beq_eq_false_iff_ne] at h2
        rw [if_neg (by rw [beq_iff_eq]; omega)]
        push_cast; omega
theorem idxF_zero (l : List UInt8) (c : UInt8) : idxF l c 0 = Lib.indexByte l c := by
  rw [idxF_eq]
  split
  · rename_i h; rw [beq_iff_eq] at h; exact h.symm
  · simp
def primC (f : FuncId) (args : List PV) : Option PV :=
  match f with
  | 73 => match args with
    | [.v (.string s), .v (.string ⟨⟨[c]⟩⟩)] => some (.v (.int .i64 (Lib.countByte s.data.toList c)))
    | _ => none
  | 54 | 70 => match args with
    | [.v (.string s), .v (.string ⟨⟨[c]⟩⟩)] => some (.v (.int .i64 (idxF s.data.toList c 0)))
    | _ => none
  | 51 => match args with
    | [.v (.string s)] => if s.size ≤ 18 then (Lib.atoi s.data.toList).map fun n => .tuple [.v (.int .i64 n), .v .nilIface] else none
    | _ => none
  | _ => none
def dynC (f : FuncId) (id : Nat) : Option (List (Bool × Tmp × Tmp)) :=
  match f with
  | 53 => match id with
    | 13 => some [(true, 78, 2)]
    | _ => none
  | 12 | 14 | 19 | 61 => some []
  | _ => none
noncomputable def cfgC : Cfg := { P := Tryd.prog, prim := primC, mode := fun _ => .pure, keep := fun _ _ => [], dyn := dynC, byRef := fun f _ => f == 56, frz := fun f => f == 56 }
theorem two {g : Gh} {x y : PV} {vs : List Value} (h : Reps g [x, y] vs) : ∃ a b, vs = [a, b] ∧ Rep g x a ∧ Rep g y b := by
  simp only [Reps] at h
  obtain ⟨a, _, rfl, h1, b, _, rfl, h2, rfl⟩ := h
  exact ⟨a, b, rfl, h1, h2⟩
theorem oneA {g : Gh} {x : PV} {vs : List Value} (h : Reps g [x] vs) : ∃ a, vs = [a] ∧ Rep g x a := by
  simp only [Reps] at h
  obtain ⟨a, _, rfl, h1, rfl⟩ := h
  exact ⟨a, rfl, h1⟩
theorem primOk : PrimOk cfgC := by
  intro f args p h B wr g st w vs hs ha
  simp only [cfgC, primC] at h ⊢
  split at h
  · split at h
    · rename_i s c
      simp only [Option.some.injEq] at h
      subst h
      obtain ⟨a, b, rfl, h1, h2⟩ := two ha
      simp only [Rep] at h1 h2
      obtain ⟨rfl, _⟩ := h1
      obtain ⟨rfl, _⟩ := h2
      refine Calls.post (Tryd.strings_Count_one s c w) fun e w' ⟨he, hw⟩ => ?_
      subst he; subst hw
      exact post_below hs (Below.refl _ _) (Rep.ofFlat rfl)
    · cases h
  · split at h
    · rename_i s c
      simp only [Option.some.injEq] at h
      subst h
      obtain ⟨a, b, rfl, h1, h2⟩ := two ha
      simp only [Rep] at h1 h2
      obtain ⟨rfl, _⟩ := h1
      obtain ⟨rfl, _⟩ := h2
      refine Calls.post (Tryd.strings_Index_one s c w) fun e w' ⟨he, hw⟩ => ?_
      subst he; subst hw
      exact post_below hs (Below.refl _ _) (by rw [idxF_zero]; exact Rep.ofFlat rfl)
    · cases h
  · split at h
    · rename_i s c
      simp only [Option.some.injEq] at h
      subst h
      obtain ⟨a, b, rfl, h1, h2⟩ := two ha
      simp only [Rep] at h1 h2
      obtain ⟨rfl, _⟩ := h1
      obtain ⟨rfl, _⟩ := h2
      refine Calls.post (Tryd.stringslite_Index_one s c w) fun e w' ⟨he, hw⟩ => ?_
      subst he; subst hw
      exact post_below hs (Below.refl _ _) (by rw [idxF_zero]; exact Rep.ofFlat rfl)
    · cases h
  · split at h
    · rename_i s
      split at h
      · rename_i hl
        rw [Option.map_eq_some_iff] at h
        obtain ⟨n, hn, rfl⟩ := h
        obtain ⟨a, rfl, h1⟩ := oneA ha
        simp only [Rep] at h1
        obtain ⟨rfl, _⟩ := h1
        refine Calls.post (Tryd.strconv_Atoi s n hl hn w) fun e w' ⟨he, t, hw⟩ => ?_
        subst he; subst hw
        refine post_below hs (Go.Lib.bytesWorld_below w 5 t) ?_
        rw [Rep]
        exact ⟨[.int .i64 n, .nilIface], rfl, by simp only [Reps]; exact ⟨_, _, rfl, Rep.ofFlat rfl, _, _, rfl, Rep.ofFlat rfl, rfl⟩⟩
      · cases h
    · cases h
  · cases h
theorem hasBody {P : Program} {f : FuncId} (h : ((P.funcs[f]?).bind (·.body)).isSome = true) : Bodied P f := by
  cases hf : P.funcs[f]? with
  | none => rw [hf] at h; cases h
  | some fn =>
    rw [hf] at h
    refine ⟨fn, hf, ?_⟩
    simp only [Option.bind_some] at h
    cases hb : fn.body with
    | none => rw [hb] at h; cases h
    | some c => rfl
theorem primHas : PrimHas cfgC := by
  intro f args p h
  simp only [cfgC, primC] at h ⊢
  split at h
  · exact hasBody (by kernel_rfl)
  · exact hasBody (by kernel_rfl)
  · exact hasBody (by kernel_rfl)
  · exact hasBody (by kernel_rfl)
  · cases h
set_option maxRecDepth 100000
theorem cfgOk : CfgOk cfgC := ⟨primOk, primHas, plain_of (by kernel_rfl), draws_of (by kernel_rfl)⟩
end Go.Proofs.YthngeddaeoeimaaDoorVE
