import Derived.Test.YthngeddaeoeimaaDoorVeP
import Derived.Lib.AtoiErrMem
import Derived.Lib.Atoi
import Derived.Lib.AppendIntMem
import Derived.Lib.Fields
import Derived.Lib.Space
namespace Go.Proofs.YthngeddaeoeimaaDoorVE
open Go Go.RowKit
set_option linter.unusedVariables false
set_option linter.unusedSimpArgs false
def idxF : List UInt8 → UInt8 → Nat → Int
  | [], _, _ => -1
  | b :: l, c, k => if b == c then (k : Int) else idxF l c (k + 1)
theorem idxF_eq : ∀ (l : List UInt8) (c : UInt8) (k : Nat), idxF l c k = if Lib.indexByte l c == -1 then -1 else Lib.indexByte l c + k
  | [], c, k => by simp [idxF, Lib.indexByte]
  | b :: l, c, k => by
    simp only [idxF, Lib.indexByte]
    by_cases h : b = c
    · simp [h]
    · have h' : (b == c) = false := by simpa using h
      simp only [h', Bool.false_eq_true, if_false]
      rw [idxF_eq l c (k + 1)]
      have hge := Lib.indexByte_ge l c
      cases h2 : Lib.indexByte l c == -1 with
      | true => simp
      | false =>
        simp only [Bool.false_eq_true, if_false]
        rw [beq_eq_false_iff_ne] at h2
        rw [if_neg (by rw [beq_iff_eq]; omega)]
        push_cast; omega
theorem idxF_zero (l : List UInt8) (c : UInt8) : idxF l c 0 = Lib.indexByte l c := by
  rw [idxF_eq]
  split
  · rename_i h; rw [beq_iff_eq] at h; exact h.symm
  · simp
theorem Reps.two {g : Gh} {x y : PV} {vs : List Value} (h : Reps g [x, y] vs) : ∃ a b, vs = [a, b] ∧ Rep g x a ∧ Rep g y b := by
  simp only [Reps] at h
  obtain ⟨a, _, rfl, h1, b, _, rfl, h2, rfl⟩ := h
  exact ⟨a, b, rfl, h1, h2⟩
theorem Reps.oneArg {g : Gh} {x : PV} {vs : List Value} (h : Reps g [x] vs) : ∃ a, vs = [a] ∧ Rep g x a := by
  simp only [Reps] at h
  obtain ⟨a, _, rfl, h1, rfl⟩ := h
  exact ⟨a, rfl, h1⟩
theorem hasBody {P : Program} {f : FuncId} (h : ((P.funcs[f]?).bind (·.body)).isSome = true) : Bodied P f := by
  cases hf : P.funcs[f]? with
  | none => rw [hf] at h; cases h
  | some fn =>
    rw [hf] at h
    refine ⟨fn, hf, ?_⟩
    simp only [Option.bind_some] at h
    cases hb : fn.body with
    | none => rw [hb] at h; cases h
    | some c => rfl

/-! What some functions of Go's library answer. -/
def pCount : List PV → Option PV
  | [.v (.string s), .v (.string ⟨⟨[c]⟩⟩)] => some (.v (.int .i64 (Lib.countByte s.data.toList c)))
  | _ => none
def pIndex : List PV → Option PV
  | [.v (.string s), .v (.string ⟨⟨[c]⟩⟩)] => some (.v (.int .i64 (idxF s.data.toList c 0)))
  | _ => none
def pIndexByte : List PV → Option PV
  | [.v (.string s), .v (.int .u8 c)] => some (.v (.int .i64 (idxF s.data.toList c.toNat.toUInt8 0)))
  | _ => none
def pAtoi : List PV → Option PV
  | [.v (.string s)] => if s.size ≤ 18 then (Lib.atoi s.data.toList).map fun n => .tuple [.v (.int .i64 n), .v .nilIface] else none
  | _ => none
def pFields : List PV → Option PV
  | [.v (.string s)] => if s.size < 4294967281 ∧ (s.data.toList.all fun b => decide (b.toNat < 128)) = true then some (.row ((Lib.fields s.data.toList).map fun l => [.v (.string ⟨l.toArray⟩)]) .full) else none
  | _ => none

section prims
variable {P : Program} {f : FuncId} {B : Base} {args : List PV} {p : PV}
def PrimAt (P : Program) (f : FuncId) (B : Base) (args : List PV) (p : PV) : Prop :=
  ∀ wr g st w vs, SR B g st w → Reps g args vs → Calls P f vs.toArray w (Post B wr g st w p st)
theorem okCount (h : ∀ (s : ByteArray) (c : UInt8) (w : World), Calls P f #[.string s, .string ⟨#[c]⟩] w fun e w' => e = .returned (.int .i64 (Lib.countByte s.data.toList c)) ∧ w' = w) (hp : pCount args = some p) : PrimAt P f B args p := by
  intro wr g st w vs hs ha
  unfold pCount at hp
  split at hp
  · rename_i s c
    simp only [Option.some.injEq] at hp
    subst hp
    obtain ⟨a, b, rfl, h1, h2⟩ := ha.two
    simp only [Rep] at h1 h2
    obtain ⟨rfl, _⟩ := h1
    obtain ⟨rfl, _⟩ := h2
    refine Calls.post (h s c w) fun e w' ⟨he, hw⟩ => ?_
    subst he; subst hw
    exact post_below hs (Below.refl _ _) (Rep.ofFlat rfl)
  · cases hp
theorem okIndex (h : ∀ (s : ByteArray) (c : UInt8) (w : World), Calls P f #[.string s, .string ⟨#[c]⟩] w fun e w' => e = .returned (.int .i64 (Lib.indexByte s.data.toList c)) ∧ w' = w) (hp : pIndex args = some p) : PrimAt P f B args p := by
  intro wr g st w vs hs ha
  unfold pIndex at hp
  split at hp
  · rename_i s c
    simp only [Option.some.injEq] at hp
    subst hp
    obtain ⟨a, b, rfl, h1, h2⟩ := ha.two
    simp only [Rep] at h1 h2
    obtain ⟨rfl, _⟩ := h1
    obtain ⟨rfl, _⟩ := h2
    refine Calls.post (h s c w) fun e w' ⟨he, hw⟩ => ?_
    subst he; subst hw
    exact post_below hs (Below.refl _ _) (by rw [idxF_zero]; exact Rep.ofFlat rfl)
  · cases hp
theorem okIndexByte (h : ∀ (s : ByteArray) (c : Int) (w : World), Calls P f #[.string s, .int .u8 c] w fun e w' => e = .returned (.int .i64 (Lib.indexByte s.data.toList c.toNat.toUInt8)) ∧ w' = w) (hp : pIndexByte args = some p) : PrimAt P f B args p := by
  intro wr g st w vs hs ha
  unfold pIndexByte at hp
  split at hp
  · rename_i s c
    simp only [Option.some.injEq] at hp
    subst hp
    obtain ⟨a, b, rfl, h1, h2⟩ := ha.two
    simp only [Rep] at h1 h2
    obtain ⟨rfl, _⟩ := h1
    obtain ⟨rfl, _⟩ := h2
    refine Calls.post (h s c w) fun e w' ⟨he, hw⟩ => ?_
    subst he; subst hw
    exact post_below hs (Below.refl _ _) (by rw [idxF_zero]; exact Rep.ofFlat rfl)
  · cases hp
theorem okAtoi {t : TypeId} (h : ∀ (s : ByteArray) (n : Int), s.size ≤ 18 → Lib.atoi s.data.toList = some n → ∀ w : World, Calls P f #[.string s] w fun e w' => e = .returned (.tuple #[.int .i64 n, .nilIface]) ∧ ∃ x, w' = Lib.bytesWorld w t x) (hp : pAtoi args = some p) : PrimAt P f B args p := by
  intro wr g st w vs hs ha
  unfold pAtoi at hp
  split at hp
  · rename_i s
    split at hp
    · rename_i hl
      rw [Option.map_eq_some_iff] at hp
      obtain ⟨n, hn, rfl⟩ := hp
      obtain ⟨a, rfl, h1⟩ := ha.oneArg
      simp only [Rep] at h1
      obtain ⟨rfl, _⟩ := h1
      refine Calls.post (h s n hl hn w) fun e w' ⟨he, x, hw⟩ => ?_
      subst he; subst hw
      refine post_below hs (Go.Lib.bytesWorld_below w t x) ?_
      rw [Rep]
      exact ⟨[.int .i64 n, .nilIface], rfl, by simp only [Reps]; exact ⟨_, _, rfl, Rep.ofFlat rfl, _, _, rfl, Rep.ofFlat rfl, rfl⟩⟩
    · cases hp
  · cases hp
/-- A new row that a function of the library hands back. -/
theorem post_row {g : Gh} {st : St} {w : World} {wr : Wr} (hs : SR B g st w) (xs : List Value) (e : TypeId) (hx : xs.all flat = true) :
    Post B wr g st w (.row (xs.map fun x => [.v x]) .full) st (.returned (.slice (some ⟨w.heap.size, 0, none⟩) xs.length xs.length)) (w.alloc (.cells xs.toArray e)) := by
  refine ⟨_, g.newRow w.heap.size xs, rfl, Fr.newRow hs xs _, SR.newRow hs xs xs.toArray e (fun j v hv => by simpa using hv), ?_⟩
  rw [Rep]
  refine .inr ⟨w.heap.size, 0, 1, xs.length, xs, by simp, fun c hc => ?_, im_newRow g _ xs, ?_, by simp, by simp [FlagOk]⟩
  · obtain ⟨x, _, rfl⟩ := List.mem_map.1 hc; rfl
  · rw [Repss_iff]
    have : ((xs.map fun x => [PV.v x])).flatten = xs.map .v := by
      clear hx
      induction xs with
      | nil => rfl
      | cons x xs ih => simp [ih]
    rw [this]
    exact Reps.flats xs hx
theorem tab_later {g : Gh} {st : St} {w : World} {name : String} {k : IntKind} {zs : List Int} (hs : SR B g st w) (h : Lib.TabIs P B.w name k zs) : Lib.TabIs P w name k zs :=
  Lib.tabBelow_of_tabIs h w hs.old
theorem okFields {t : TypeId} (h : ∀ (s : ByteArray) (w : World), s.size < 4294967281 → (∀ (j : Nat) b, s.data.toList[j]? = some b → b.toNat < 128) → Lib.TabIs P w "strings.asciiSpace" .u8 Lib.asciiSpaceTab →
      Calls P f #[.string s] w fun e w' => e = .returned (.slice (some ⟨w.heap.size, 0, none⟩) (Lib.fields s.data.toList).length (Lib.fields s.data.toList).length) ∧ w' = w.alloc (.cells ((Lib.fields s.data.toList).map fun l => Value.string ⟨l.toArray⟩).toArray t))
    (htab : Lib.TabIs P B.w "strings.asciiSpace" .u8 Lib.asciiSpaceTab) (hp : pFields args = some p) : PrimAt P f B args p := by
  intro wr g st w vs hs ha
  unfold pFields at hp
  split at hp
  · rename_i s
    split at hp
    · rename_i hl
      simp only [Option.some.injEq] at hp
      subst hp
      obtain ⟨a, rfl, h1⟩ := ha.oneArg
      simp only [Rep] at h1
      obtain ⟨rfl, _⟩ := h1
      refine Calls.post (h s w hl.1 (fun j b hb => by
        have h2 := hl.2
        rw [List.all_eq_true] at h2
        simpa using h2 b (List.mem_of_getElem? hb)) (tab_later hs htab)) fun e w' ⟨he, hw⟩ => ?_
      subst he; subst hw
      have := post_row (wr := wr) hs ((Lib.fields s.data.toList).map fun l => Value.string ⟨l.toArray⟩) t (by rw [List.all_eq_true]; intro x hx; obtain ⟨l, _, rfl⟩ := List.mem_map.1 hx; rfl)
      simpa [Function.comp_def] using this
    · cases hp
  · cases hp
end prims
end Go.Proofs.YthngeddaeoeimaaDoorVE
