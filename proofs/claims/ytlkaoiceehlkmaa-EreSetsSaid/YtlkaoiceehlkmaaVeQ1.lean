import Derived.Test.YtlkaoiceehlkmaaVeO1
import Derived.Lib.AtoiErrMem
import Derived.Lib.Atoi
import Derived.Lib.AppendIntMem
import Derived.Lib.Fields
import Derived.Lib.Space
import Derived.Lib.LaidTab
import Derived.Lay
import Derived.Deep.DeepWitnessRowRef
import Derived.Lib.AtoiAllMem
import Derived.Lib.ItoaNum
import Derived.ChangeSlices
import Derived.WideShapes
import Derived.Laws.AppendOwn
namespace Go.Proofs.YtlkaoiceehlkmaaVE
open Go Go.RowKit
set_option linter.unusedVariables false
set_option linter.unusedSimpArgs false
def idxF : List UInt8 → UInt8 → Nat → Int
  | [], _, _ => -1
  | b :: l, c, k => if b == c then (k : Int) else idxF l c (k + 1)
theorem idxF_eq : ∀ (l : List UInt8) (c : UInt8) (k : Nat), idxF l c k = if Lib.indexByte l c == -1 then -1 else Lib.indexByte l c + k
  | [], c, k => by simp [idxF, Lib.indexByte]
  | b :: l, c, k => by
    simp only [idxF, Lib.indexByte]
    by_cases h : b = c
    · simp [h]
    · have h' : (b == c) = false := by simpa using h
      simp only [h', Bool.false_eq_true, if_false]
      rw [idxF_eq l c (k + 1)]
      have hge := Lib.indexByte_ge l c
      cases h2 : Lib.indexByte l c == -1 with
      | true => simp
      | false =>
        simp only [Bool.false_eq_true, if_false]
        rw [beq_eq_false_iff_ne] at h2
        rw [if_neg (by rw [beq_iff_eq]; omega)]
        push_cast; omega
theorem idxF_zero (l : List UInt8) (c : UInt8) : idxF l c 0 = Lib.indexByte l c := by
  rw [idxF_eq]
  split
  · rename_i h; rw [beq_iff_eq] at h; exact h.symm
  · simp
theorem Reps.two {g : Gh} {x y : PV} {vs : List Value} (h : Reps g [x, y] vs) : ∃ a b, vs = [a, b] ∧ Rep g x a ∧ Rep g y b := by
  simp only [Reps] at h
  obtain ⟨a, _, rfl, h1, b, _, rfl, h2, rfl⟩ := h
  exact ⟨a, b, rfl, h1, h2⟩
theorem Reps.oneArg {g : Gh} {x : PV} {vs : List Value} (h : Reps g [x] vs) : ∃ a, vs = [a] ∧ Rep g x a := by
  simp only [Reps] at h
  obtain ⟨a, _, rfl, h1, rfl⟩ := h
  exact ⟨a, rfl, h1⟩
theorem hasBody {P : Program} {f : FuncId} (h : ((P.funcs[f]?).bind (·.body)).isSome = true) : Bodied P f := by
  cases hf : P.funcs[f]? with
  | none => rw [hf] at h; cases h
  | some fn =>
    rw [hf] at h
    refine ⟨fn, hf, ?_⟩
    simp only [Option.bind_some] at h
    cases hb : fn.body with
    | none => rw [hb] at h; cases h
    | some c => rfl

/-! What some functions of Go's library answer. -/
def pCount : List PV → Option PV
  | [.v (.string s), .v (.string ⟨⟨[c]⟩⟩)] => some (.v (.int .i64 (Lib.countByte s.data.toList c)))
  | _ => none
def pIndex : List PV → Option PV
  | [.v (.string s), .v (.string ⟨⟨[c]⟩⟩)] => some (.v (.int .i64 (idxF s.data.toList c 0)))
  | _ => none
def pIndexByte : List PV → Option PV
  | [.v (.string s), .v (.int .u8 c)] => some (.v (.int .i64 (idxF s.data.toList c.toNat.toUInt8 0)))
  | _ => none
def pAtoi : List PV → Option PV
  | [.v (.string s)] => if s.size ≤ 18 then (Lib.atoi s.data.toList).map fun n => .tuple [.v (.int .i64 n), .v .nilIface] else none
  | _ => none
def pFields : List PV → Option PV
  | [.v (.string s)] => if s.size < 4294967281 ∧ (s.data.toList.all fun b => decide (b.toNat < 128)) = true then some (.row ((Lib.fields s.data.toList).map fun l => [.v (.string ⟨l.toArray⟩)]) .full) else none
  | _ => none

section prims
variable {P : Program} {f : FuncId} {B : Base} {args : List PV} {p : PV}
def PrimAt (P : Program) (f : FuncId) (B : Base) (args : List PV) (p : PV) : Prop :=
  ∀ wr g st w vs, SR B g st w → Reps g args vs → Calls P f vs.toArray w (Post B wr g st w p st)
theorem okCount (h : ∀ (s : ByteArray) (c : UInt8) (w : World), Calls P f #[.string s, .string ⟨#[c]⟩] w fun e w' => e = .returned (.int .i64 (Lib.countByte s.data.toList c)) ∧ w' = w) (hp : pCount args = some p) : PrimAt P f B args p := by
  intro wr g st w vs hs ha
  unfold pCount at hp
  split at hp
  · rename_i s c
    simp only [Option.some.injEq] at hp
    subst hp
    obtain ⟨a, b, rfl, h1, h2⟩ := ha.two
    simp only [Rep] at h1 h2
    obtain ⟨rfl, _⟩ := h1
    obtain ⟨rfl, _⟩ := h2
    refine Calls.post (h s c w) fun e w' ⟨he, hw⟩ => ?_
    subst he; subst hw
    exact post_below hs (Below.refl _ _) (Rep.ofFlat rfl)
  · cases hp
theorem okIndex (h : ∀ (s : ByteArray) (c : UInt8) (w : World), Calls P f #[.string s, .string ⟨#[c]⟩] w fun e w' => e = .returned (.int .i64 (Lib.indexByte s.data.toList c)) ∧ w' = w) (hp : pIndex args = some p) : PrimAt P f B args p := by
  intro wr g st w vs hs ha
  unfold pIndex at hp
  split at hp
  · rename_i s c
    simp only [Option.some.injEq] at hp
    subst hp
    obtain ⟨a, b, rfl, h1, h2⟩ := ha.two
    simp only [Rep] at h1 h2
    obtain ⟨rfl, _⟩ := h1
    obtain ⟨rfl, _⟩ := h2
    refine Calls.post (h s c w) fun e w' ⟨he, hw⟩ => ?_
    subst he; subst hw
    exact post_below hs (Below.refl _ _) (by rw [idxF_zero]; exact Rep.ofFlat rfl)
  · cases hp
theorem okIndexByte (h : ∀ (s : ByteArray) (c : Int) (w : World), Calls P f #[.string s, .int .u8 c] w fun e w' => e = .returned (.int .i64 (Lib.indexByte s.data.toList c.toNat.toUInt8)) ∧ w' = w) (hp : pIndexByte args = some p) : PrimAt P f B args p := by
  intro wr g st w vs hs ha
  unfold pIndexByte at hp
  split at hp
  · rename_i s c
    simp only [Option.some.injEq] at hp
    subst hp
    obtain ⟨a, b, rfl, h1, h2⟩ := ha.two
    simp only [Rep] at h1 h2
    obtain ⟨rfl, _⟩ := h1
    obtain ⟨rfl, _⟩ := h2
    refine Calls.post (h s c w) fun e w' ⟨he, hw⟩ => ?_
    subst he; subst hw
    exact post_below hs (Below.refl _ _) (by rw [idxF_zero]; exact Rep.ofFlat rfl)
  · cases hp
theorem okAtoi {t : TypeId} (h : ∀ (s : ByteArray) (n : Int), s.size ≤ 18 → Lib.atoi s.data.toList = some n → ∀ w : World, Calls P f #[.string s] w fun e w' => e = .returned (.tuple #[.int .i64 n, .nilIface]) ∧ ∃ x, w' = Lib.bytesWorld w t x) (hp : pAtoi args = some p) : PrimAt P f B args p := by
  intro wr g st w vs hs ha
  unfold pAtoi at hp
  split at hp
  · rename_i s
    split at hp
    · rename_i hl
      rw [Option.map_eq_some_iff] at hp
      obtain ⟨n, hn, rfl⟩ := hp
      obtain ⟨a, rfl, h1⟩ := ha.oneArg
      simp only [Rep] at h1
      obtain ⟨rfl, _⟩ := h1
      refine Calls.post (h s n hl hn w) fun e w' ⟨he, x, hw⟩ => ?_
      subst he; subst hw
      refine post_below hs (Go.Lib.bytesWorld_below w t x) ?_
      rw [Rep]
      exact ⟨[.int .i64 n, .nilIface], rfl, by simp only [Reps]; exact ⟨_, _, rfl, Rep.ofFlat rfl, _, _, rfl, Rep.ofFlat rfl, rfl⟩⟩
    · cases hp
  · cases hp
/-- A new row that a function of the library hands back. -/
theorem post_row {g : Gh} {st : St} {w : World} {wr : Wr} (hs : SR B g st w) (xs : List Value) (e : TypeId) (hx : xs.all flat = true) :
    Post B wr g st w (.row (xs.map fun x => [.v x]) .full) st (.returned (.slice (some ⟨w.heap.size, 0, none⟩) xs.length xs.length)) (w.alloc (.cells xs.toArray e)) := by
  refine ⟨_, g.newRow w.heap.size xs, rfl, Fr.newRow hs xs _, SR.newRow hs xs xs.toArray e (fun j v hv => by simpa using hv), ?_⟩
  rw [Rep]
  refine .inr ⟨w.heap.size, 0, 1, xs.length, xs, by simp, fun c hc => ?_, im_newRow g _ xs, ?_, by simp, by simp [FlagOk]⟩
  · obtain ⟨x, _, rfl⟩ := List.mem_map.1 hc; rfl
  · rw [Repss_iff]
    have : ((xs.map fun x => [PV.v x])).flatten = xs.map .v := by
      clear hx
      induction xs with
      | nil => rfl
      | cons x xs ih => simp [ih]
    rw [this]
    exact Reps.flats xs hx
theorem tab_later {g : Gh} {st : St} {w : World} {name : String} {k : IntKind} {zs : List Int} (hs : SR B g st w) (h : Lib.TabIs P B.w name k zs) : Lib.TabIs P w name k zs :=
  Lib.tabBelow_of_tabIs h w hs.old
theorem okFields {t : TypeId} (h : ∀ (s : ByteArray) (w : World), s.size < 4294967281 → (∀ (j : Nat) b, s.data.toList[j]? = some b → b.toNat < 128) → Lib.TabIs P w "strings.asciiSpace" .u8 Lib.asciiSpaceTab →
      Calls P f #[.string s] w fun e w' => e = .returned (.slice (some ⟨w.heap.size, 0, none⟩) (Lib.fields s.data.toList).length (Lib.fields s.data.toList).length) ∧ w' = w.alloc (.cells ((Lib.fields s.data.toList).map fun l => Value.string ⟨l.toArray⟩).toArray t))
    (htab : Lib.TabIs P B.w "strings.asciiSpace" .u8 Lib.asciiSpaceTab) (hp : pFields args = some p) : PrimAt P f B args p := by
  intro wr g st w vs hs ha
  unfold pFields at hp
  split at hp
  · rename_i s
    split at hp
    · rename_i hl
      simp only [Option.some.injEq] at hp
      subst hp
      obtain ⟨a, rfl, h1⟩ := ha.oneArg
      simp only [Rep] at h1
      obtain ⟨rfl, _⟩ := h1
      refine Calls.post (h s w hl.1 (fun j b hb => by
        have h2 := hl.2
        rw [List.all_eq_true] at h2
        simpa using h2 b (List.mem_of_getElem? hb)) (tab_later hs htab)) fun e w' ⟨he, hw⟩ => ?_
      subst he; subst hw
      have := post_row (wr := wr) hs ((Lib.fields s.data.toList).map fun l => Value.string ⟨l.toArray⟩) t (by rw [List.all_eq_true]; intro x hx; obtain ⟨l, _, rfl⟩ := List.mem_map.1 hx; rfl)
      simpa [Function.comp_def] using this
    · cases hp
  · cases hp
end prims
end Go.Proofs.YtlkaoiceehlkmaaVE

namespace Go.Proofs.YtlkaoiceehlkmaaVE
open Go Go.RowKit
/-- From a row's condition: a table, wherever it stands on the list. -/
theorem tabIs_of_mem {P : Program} {W : World} {name : String} {k : IntKind} {zs : List Int} {g : Nat} {t e : TypeId} {n : Nat} (hg : P.globalNamed name = some g) (hty : (P.globals[g]?).map (·.type) = some t) (ht : P.underlying t = some (.array n e)) (he : P.underlying e = some (.int k)) (hce : P.cellsOf e = 1) (hct : P.cellsOf t = n) :
    ∀ {l : List (String × DataW Unit)}, laidMet P l W → (name, Lib.tabData k zs) ∈ l → Lib.TabIs P W name k zs := by
  intro l h hm
  obtain ⟨ps, h, hx⟩ := h
  clear hx
  induction l generalizing ps with
  | nil => cases hm
  | cons x l ih =>
    obtain ⟨g', t', cs, fuel, p, q, hg', ht', hvar, hd, hr, _⟩ := h
    rcases List.mem_cons.1 hm with h1 | h1
    · subst h1
      obtain rfl := Option.some.inj (hg.symm.trans hg')
      obtain rfl := Option.some.inj (hty.symm.trans ht')
      unfold Lib.TabIs
      rw [hvar, ← Lib.cells_of_tab ht he hce hct hd]
    · exact ih h1 q hr
section
variable {H : Type} {enc : TypeId × Value → H}
/-- A row's witness, from a world of the right shape. -/
theorem witness_row_shaped {C : Checked} {os : Os} {f : FuncId} {fn : Func} {s : OpenSpec} {conds : List PathCond} {apart : Bool} {laid : List (String × DataW Unit)} (modest : Bool) (w0 : World) (args : Array Value) (hos : w0.os = os)
    (hsh : (w0.forCall (fun _ _ => 0) ⟨#[], args, []⟩).Shaped C.prog)
    (hok : Input.okWideB C.prog (w0.forCall (fun _ _ => 0) ⟨#[], args, []⟩) f ⟨#[], args, []⟩ = true)
    (hrow : s.preRow enc C.prog fn conds apart laid (w0.forCall (fun _ _ => 0) ⟨#[], args, []⟩).memory args) :
    ∃ (w : World) (tape : Tape) (i : Input), w.os = os ∧ (w.forCall tape i).Shaped C.prog ∧ i.vars = [] ∧ Input.okWide C.prog (w.forCall tape i) .any w.heap.size f i ∧
      s.preRow enc C.prog fn conds apart laid (w.forCall tape i).memory i.args ∧ ({ modest := modest } : Assume).holds C.prog (lone (Frame.enter C.prog f i.args .normal) [] (w.forCall tape i)) :=
  ⟨w0, fun _ _ => 0, ⟨#[], args, []⟩, hos, hsh, (Input.okWide_of_okWideB (base := 0) hok).1, (Input.okWide_of_okWideB hok).2, hrow, by
    simp only [Assume.holds]
    exact ⟨by simp, by simp, fun _ => Modest.zero, by simp, by simp⟩⟩
end
end Go.Proofs.YtlkaoiceehlkmaaVE

namespace Go.Proofs.YtlkaoiceehlkmaaVE
open Go Go.RowKit
set_option linter.unusedVariables false
/-! More functions of Go's library. -/
def pItoa : List PV → Option PV
  | [.v (.int .i64 n)] => if -9223372036854775808 ≤ n ∧ n ≤ 9223372036854775807 then some (.v (.string ⟨(Lib.itoa n).toArray⟩)) else none
  | _ => none
def pAtoiAll : List PV → Option PV
  | [.v (.string s)] => if s.size ≤ 9223372036854775806 then (match Lib.atoiAll s.data.toList with
    | .ok v => some (.tuple [.v (.int .i64 v), .v .nilIface])
    | _ => none) else none
  | _ => none
section prims
variable {P : Program} {f : FuncId} {B : Base} {args : List PV} {p : PV}
theorem okItoa (h : ∀ (n : Int), -9223372036854775808 ≤ n → n ≤ 9223372036854775807 → ∀ (w : World), Lib.TabIs P w "internal/strconv.uint64pow10" .u64 Lib.pow10Tab →
      Calls P f #[.int .i64 n] w fun e w' => e = .returned (.string ⟨(Lib.itoa n).toArray⟩) ∧ ∃ k os, w' = Sort.grow (w.drewN k) os)
    (htab : Lib.TabIs P B.w "internal/strconv.uint64pow10" .u64 Lib.pow10Tab) (hp : pItoa args = some p) : PrimAt P f B args p := by
  intro wr g st w vs hs ha
  unfold pItoa at hp
  split at hp
  · rename_i n
    split at hp
    · rename_i hl
      simp only [Option.some.injEq] at hp
      subst hp
      obtain ⟨a, rfl, h1⟩ := ha.oneArg
      simp only [Rep] at h1
      obtain ⟨rfl, _⟩ := h1
      refine Calls.post (h n hl.1 hl.2 w (tab_later hs htab)) fun e w' ⟨he, k, os, hw⟩ => ?_
      subst he; subst hw
      exact post_below hs (Lib.below_grow _ w (Nat.le_refl _) k os) (Rep.ofFlat rfl)
    · cases hp
  · cases hp
theorem okAtoiAll {t : TypeId} (h : ∀ (s : ByteArray), s.size ≤ 9223372036854775806 → ∀ v : Int, Lib.atoiAll s.data.toList = .ok v → ∀ w : World,
      Calls P f #[.string s] w fun e w' => e = .returned (.tuple #[.int .i64 v, .nilIface]) ∧ (w' = w ∨ ∃ x, w' = Lib.bytesWorld w t x))
    (hp : pAtoiAll args = some p) : PrimAt P f B args p := by
  intro wr g st w vs hs ha
  unfold pAtoiAll at hp
  split at hp
  · rename_i s
    split at hp
    · rename_i hl
      split at hp
      · rename_i v hv
        simp only [Option.some.injEq] at hp
        subst hp
        obtain ⟨a, rfl, h1⟩ := ha.oneArg
        simp only [Rep] at h1
        obtain ⟨rfl, _⟩ := h1
        refine Calls.post (h s hl v hv w) fun e w' ⟨he, hw⟩ => ?_
        subst he
        have hb : Below w.heap.size w w' := by
          rcases hw with rfl | ⟨x, rfl⟩
          · exact Below.refl _ _
          · exact Go.Lib.bytesWorld_below w t x
        refine post_below hs hb ?_
        rw [Rep]
        exact ⟨[.int .i64 v, .nilIface], rfl, by simp only [Reps]; exact ⟨_, _, rfl, Rep.ofFlat rfl, _, _, rfl, Rep.ofFlat rfl, rfl⟩⟩
      · cases hp
    · cases hp
  · cases hp
end prims
end Go.Proofs.YtlkaoiceehlkmaaVE

namespace Go.Proofs.YtlkaoiceehlkmaaVE
open Go Go.RowKit
set_option linter.unusedVariables false
/-! All of the memory is known as it stands. -/
noncomputable def gAll (w : World) : Gh := { g0 with own := fun b o => match w.cell? ⟨b, o, none⟩ with
  | some v => .im v
  | none => .other }
theorem gAll_im {w : World} {b o : Nat} {v : Value} (h : w.cell? ⟨b, o, none⟩ = some v) : (gAll w).own b o = .im v := by
  simp only [gAll, h]
theorem startAll (w : World) : SR ⟨w⟩ (gAll w) St.nil w where
  nl := rfl
  nt := rfl
  old := Below.refl _ _
  im := fun b o v h => by
    simp only [gAll] at h
    split at h
    · rename_i u hu; cases h; exact hu
    · cases h
  mloc := fun b o l h => by
    simp only [gAll] at h
    split at h <;> cases h
  mspare := fun b o t h => by
    simp only [gAll] at h
    split at h <;> cases h
  loc := fun l cs h => by simp [locAt, St.nil] at h
  tok := fun t h => by cases h
  obj := fun l r h => by cases h
/-- A slice of plain values that lie in memory. -/
theorem rep_flats {w : World} {a : Addr} {cap : Nat} {xs : List Value} (hs : a.spot = none) (hf : xs.all flat = true) (hc : xs.length ≤ cap) (hx : ∀ i v, xs[i]? = some v → w.cell? (a.add i) = some v) : Rep (gAll w) (.row (xs.map fun x => [.v x]) .sh) (.slice (some a) xs.length cap) := by
  obtain ⟨b, o, s⟩ := a
  simp only at hs
  subst hs
  rw [Rep]
  refine .inr ⟨b, o, 1, cap, xs, by simp, fun c hc => ?_, fun j v hv => gAll_im ?_, ?_, by simpa using hc, by simp [FlagOk]⟩
  · obtain ⟨x, _, rfl⟩ := List.mem_map.1 hc; rfl
  · have := hx j v hv
    by_cases hj : j = 0
    · subst hj; simpa [Addr.add] using this
    · simpa [Addr.add, hj] using this
  · rw [Repss_iff]
    have : ((xs.map fun x => [PV.v x])).flatten = xs.map .v := by
      clear hf hc hx
      induction xs with
      | nil => rfl
      | cons x xs ih => simp [ih]
    rw [this]
    exact Reps.flats xs hf
theorem spot_of {P : Program} {w : World} {base : Nat} {t e : TypeId} {a : Addr} {len cap : Nat} (ht : P.underlying t = some (.slice e)) (h : Value.okWide P w .any base t (.slice (some a) len cap)) : a.spot = none := by
  have h2 : Cell.ok P w .any base t (.slice (some a) len cap) := by simpa [Value.okWide, ht, Cell.okWide] using h
  have h3 : len ≤ cap ∧ (cap : Int) ≤ IntKind.i64.max ∧ w.has P .any base a e cap := by simpa [Cell.ok, ht] using h2
  exact h3.2.2.2.1
/-- A row of plain values, as it lies in memory. -/
def RowAt (w : World) (xs : List Value) (v : Value) : Prop := (xs = [] ∧ v = .slice none 0 0) ∨ ∃ a cap, v = .slice (some a) xs.length cap ∧ a.spot = none ∧ xs.length ≤ cap ∧ ∀ i v, xs[i]? = some v → w.cell? (a.add i) = some v
theorem rep_rowAt {w : World} {xs : List Value} {v : Value} (hf : xs.all flat = true) (h : RowAt w xs v) : Rep (gAll w) (.row (xs.map fun x => [.v x]) .sh) v := by
  rcases h with ⟨rfl, rfl⟩ | ⟨a, cap, rfl, hs, hc, hx⟩
  · rw [Rep]; exact .inl ⟨rfl, rfl, trivial⟩
  · exact rep_flats hs hf hc hx
theorem rep_ints {w : World} {k : IntKind} {l : List Int} {v : Value} (h : RowAt w (l.map (Value.int k)) v) : Rep (gAll w) (.row (l.map fun n => [.v (.int k n)]) .sh) v := by
  have := rep_rowAt (by rw [List.all_eq_true]; intro x hx; obtain ⟨n, _, rfl⟩ := List.mem_map.1 hx; rfl) h
  rw [List.map_map] at this
  exact this
theorem rep_strs {w : World} {l : List (List UInt8)} {v : Value} (h : RowAt w (l.map fun s => .string ⟨s.toArray⟩) v) : Rep (gAll w) (.row (l.map fun s => [.v (.string ⟨s.toArray⟩)]) .sh) v := by
  have := rep_rowAt (by rw [List.all_eq_true]; intro x hx; obtain ⟨n, _, rfl⟩ := List.mem_map.1 hx; rfl) h
  rw [List.map_map] at this
  exact this
theorem rowAt_take {w : World} {α : Type} (f : α → Value) {zs : List α} {d : α} {a : Addr} {len cap : Nat} (hs : a.spot = none) (hz : zs.length = cap) (hl : len ≤ cap) (hx : ∀ i, i < zs.length → w.cell? (a.add i) = some (f (zs.getD i d))) : RowAt w ((zs.take len).map f) (.slice (some a) len cap) := by
  refine .inr ⟨a, cap, by rw [List.length_map, List.length_take, Nat.min_eq_left (by omega)], hs, by rw [List.length_map, List.length_take]; omega, fun i v hv => ?_⟩
  rw [List.getElem?_map, Option.map_eq_some_iff] at hv
  obtain ⟨n, hn, rfl⟩ := hv
  rw [List.getElem?_take] at hn
  split at hn
  · have hi := (List.getElem?_eq_some_iff.1 hn).1
    rw [hx i hi, List.getD_eq_getElem?_getD, hn]; rfl
  · cases hn
end Go.Proofs.YtlkaoiceehlkmaaVE

namespace Go.Proofs.YtlkaoiceehlkmaaVE
open Go Go.RowKit
set_option linter.unusedVariables false
/-! After a call that leaves all old memory as it stood, all that is new is known. -/
noncomputable def newOwn (g : Gh) (n : Nat) (w : World) (b o : Nat) : Owner :=
  if n ≤ b then
    match w.cell? ⟨b, o, none⟩ with
    | some v => .im v
    | none => .other
  else g.own b o
noncomputable def Gh.newAll (g : Gh) (n : Nat) (w : World) : Gh := { g with own := newOwn g n w }
section new
variable {B : Base} {g : Gh} {st : St} {w w' : World} {wr : Wr}
theorem newAll_own (g : Gh) (n : Nat) (w : World) (b o : Nat) : (g.newAll n w).own b o = newOwn g n w b o := rfl
theorem newOwn_new {n b o : Nat} (hb : n ≤ b) : newOwn g n w' b o = match w'.cell? ⟨b, o, none⟩ with
    | some v => .im v
    | none => .other := by
  unfold newOwn
  rw [if_pos hb]
theorem newOwn_old {n b o : Nat} (hb : b < n) : newOwn g n w' b o = g.own b o := by
  unfold newOwn
  rw [if_neg (by omega)]
theorem newOwn_or {n b o : Nat} : (n ≤ b ∧ ((∃ v, w'.cell? ⟨b, o, none⟩ = some v ∧ newOwn g n w' b o = .im v) ∨ newOwn g n w' b o = .other)) ∨ newOwn g n w' b o = g.own b o := by
  rcases Nat.lt_or_ge b n with h | h
  · exact .inr (newOwn_old h)
  · rw [newOwn_new h]
    cases hc : w'.cell? ⟨b, o, none⟩ with
    | some v => exact .inl ⟨h, .inl ⟨v, rfl, rfl⟩⟩
    | none => exact .inl ⟨h, .inr rfl⟩
theorem newAll_im {n b o : Nat} {v : Value} (hb : n ≤ b) (h : w'.cell? ⟨b, o, none⟩ = some v) : (g.newAll n w').own b o = .im v := by
  rw [newAll_own, newOwn_new hb, h]
theorem le_newAll (h : SR B g st w) : Le g (g.newAll w.heap.size w') where
  obj := fun _ _ h => h
  im := fun b o v hv => by
    have := h.size (b := b) (o := o) (by rw [hv]; exact fun e => by cases e)
    rw [newAll_own, newOwn_old (by omega)]
    exact hv
  nl := Nat.le_refl _
  nt := Nat.le_refl _
  base := fun l hl => rfl
  ext := fun l hl => rfl
  reg := fun t _ => rfl
theorem SR.newAll (h : SR B g st w) (hb : Below w.heap.size w w') : SR B (g.newAll w.heap.size w') st w' := by
  have hle := le_newAll (w' := w') h
  have hl := h.later hb
  refine ⟨hl.nl, hl.nt, hl.old, ?_, ?_, ?_, ?_, ?_, hl.obj⟩
  · intro b o v ho
    rw [newAll_own] at ho
    rcases newOwn_or (g := g) (w' := w') (n := w.heap.size) (b := b) (o := o) with ⟨_, ⟨u, hu, e⟩ | e⟩ | e
    · rw [e] at ho; cases ho; exact hu
    · rw [e] at ho; cases ho
    · rw [e] at ho; exact hl.im b o v ho
  · intro b o l ho
    rw [newAll_own] at ho
    rcases newOwn_or (g := g) (w' := w') (n := w.heap.size) (b := b) (o := o) with ⟨_, ⟨u, hu, e⟩ | e⟩ | e
    · rw [e] at ho; cases ho
    · rw [e] at ho; cases ho
    · rw [e] at ho; exact hl.mloc b o l ho
  · intro b o t ho
    rw [newAll_own] at ho
    rcases newOwn_or (g := g) (w' := w') (n := w.heap.size) (b := b) (o := o) with ⟨_, ⟨u, hu, e⟩ | e⟩ | e
    · rw [e] at ho; cases ho
    · rw [e] at ho; cases ho
    · rw [e] at ho; exact hl.mspare b o t ho
  · intro l ds hd
    obtain ⟨h1, h2, us, h3, h4⟩ := hl.loc l ds hd
    refine ⟨h1, fun j hj => ?_, us, Reps.mono hle _ _ h3, h4⟩
    have h5 : g.own (g.base l).1 ((g.base l).2 + j) = .loc l := h2 j hj
    have hb := h.size (b := (g.base l).1) (o := (g.base l).2 + j) (by rw [h5]; exact fun e => by cases e)
    show (g.newAll w.heap.size w').own (g.base l).1 ((g.base l).2 + j) = _
    rw [newAll_own, newOwn_old (by omega)]; exact h5
  · intro t ht
    obtain ⟨h1, h2⟩ := hl.tok t ht
    refine ⟨h1, fun o ho1 ho2 => ?_⟩
    have h3 : g.own (g.reg t).1 o = .spare t := h2 o ho1 ho2
    have hb := h.size (b := (g.reg t).1) (o := o) (by rw [h3]; exact fun e => by cases e)
    show (g.newAll w.heap.size w').own (g.reg t).1 o = _
    rw [newAll_own, newOwn_old (by omega)]
    exact h3
theorem Fr.newAll (h : SR B g st w) (hb : Below w.heap.size w w') : Fr B wr g st w (g.newAll w.heap.size w') st w' := by
  have hf := Fr.later (wr := wr) h hb
  refine ⟨le_newAll h, hf.below, hf.len, hf.locs, hf.dead, hf.live, fun b o h1 h2 => ⟨?_, (hf.keep b o h1 h2).2⟩, hf.fz, hf.there, fun b o l hx => ?_, hf.obj⟩
  · rw [newAll_own, newOwn_old h1]
  · rw [newAll_own] at hx
    rcases newOwn_or (g := g) (w' := w') (n := w.heap.size) (b := b) (o := o) with ⟨_, ⟨u, hu, e⟩ | e⟩ | e
    · rw [e] at hx; cases hx
    · rw [e] at hx; cases hx
    · rw [e] at hx; exact .inl hx
/-- A row of plain values that a function of the library hands back in new memory. -/
theorem post_flats (h : SR B g st w) (hb : Below w.heap.size w w') {a : Addr} {cap : Nat} {xs : List Value} (hs : a.spot = none) (ha : w.heap.size ≤ a.block) (hf : xs.all flat = true) (hc : xs.length ≤ cap) (hx : ∀ i v, xs[i]? = some v → w'.cell? (a.add i) = some v) :
    Post B wr g st w (.row (xs.map fun x => [.v x]) .sh) st (.returned (.slice (some a) xs.length cap)) w' := by
  refine ⟨_, g.newAll w.heap.size w', rfl, Fr.newAll h hb, SR.newAll h hb, ?_⟩
  obtain ⟨b, o, s⟩ := a
  simp only at hs ha
  subst hs
  rw [Rep]
  refine .inr ⟨b, o, 1, cap, xs, by simp, fun c hc => ?_, fun j v hv => newAll_im ha ?_, ?_, by simpa using hc, by simp [FlagOk]⟩
  · obtain ⟨x, _, rfl⟩ := List.mem_map.1 hc; rfl
  · have := hx j v hv
    by_cases hj : j = 0
    · subst hj; simpa [Addr.add] using this
    · simpa [Addr.add, hj] using this
  · rw [Repss_iff]
    have : ((xs.map fun x => [PV.v x])).flatten = xs.map .v := by
      clear hf hc hx
      induction xs with
      | nil => rfl
      | cons x xs ih => simp [ih]
    rw [this]
    exact Reps.flats xs hf
/-- The nil row. -/
theorem post_nilrow (h : SR B g st w) (hb : Below w.heap.size w w') : Post B wr g st w (.row [] .sh) st (.returned (.slice none 0 0)) w' :=
  post_below h hb (by rw [Rep]; exact .inl ⟨rfl, rfl, trivial⟩)
theorem post_own (h : SR B g st w) (hb : Below w.heap.size w w') {e : TypeId} {n : Nat} {v : Value} {xs : List Value} (ho : w'.ownsRow w.heap.size e 1 v n xs) (hf : xs.all flat = true) :
    Post B wr g st w (.row (xs.map fun x => [.v x]) .sh) st (.returned v) w' := by
  obtain ⟨hl, ⟨rfl, rfl⟩ | ⟨q, cap, cur, rfl, hq, hcell, hc, _, hsz, hx⟩⟩ := ho
  · have : xs = [] := List.eq_nil_of_length_eq_zero (by omega)
    subst this
    exact post_nilrow h hb
  · have hn : xs.length = n := by omega
    subst hn
    refine post_flats h hb (a := ⟨q, 0, none⟩) rfl hq hf hc fun i u hu => ?_
    have h1 : cur.toList[i]? = some u := by
      have hi := (List.getElem?_eq_some_iff.1 hu).1
      rw [← hx, List.getElem?_take] at hu
      split at hu
      · exact hu
      · cases hu
    have h2 : cur[i]? = some u := by rw [← h1, Array.getElem?_toList]
    have h3 : ((⟨q, 0, none⟩ : Addr).add i) = ⟨q, i, none⟩ := by
      by_cases hi : i = 0
      · subst hi; simp [Addr.add]
      · simp [Addr.add, hi]
    rw [h3]
    simp [World.cell?, hcell, h2]
end new
end Go.Proofs.YtlkaoiceehlkmaaVE

/- strings.Index at any two texts, in a world that keeps the length up to which it goes by bytes; no condition. -/
namespace Go.Proofs.YtlkaoiceehlkmaaVE
open Go Go.RowKit
set_option linter.unusedVariables false
def pIndexL : List PV → Option PV
  | [.v (.string s), .v (.string p)] => if s.size < 4294967281 then some (.v (.int .i64 (Lib.index s.data.toList p.data.toList))) else none
  | _ => none
theorem okIndexL {P : Program} {f : FuncId} {B : Base} {args : List PV} {p : PV} {m : Int} (h : ∀ (s sub : ByteArray) (m : Int) (w : World), s.size < 4294967281 → w.cell? ⟨0, 0, none⟩ = some (.int .i64 m) → Calls P f #[.string s, .string sub] w fun e w' => e = .returned (.int .i64 (Lib.index s.data.toList sub.data.toList)) ∧ w' = w)
    (hm : B.w.cell? ⟨0, 0, none⟩ = some (.int .i64 m)) (hp : pIndexL args = some p) : PrimAt P f B args p := by
  intro wr g st w vs hs ha
  unfold pIndexL at hp
  split at hp
  · rename_i s c
    split at hp
    · rename_i hl
      simp only [Option.some.injEq] at hp
      subst hp
      obtain ⟨a, b, rfl, h1, h2⟩ := ha.two
      simp only [Rep] at h1 h2
      obtain ⟨rfl, _⟩ := h1
      obtain ⟨rfl, _⟩ := h2
      refine Calls.post (h s c m w hl ((hs.old.cell (World.block_lt_of_cell? B.w _ hm)).trans hm)) fun e w' ⟨he, hw⟩ => ?_
      subst he; subst hw
      exact post_below hs (Below.refl _ _) (Rep.ofFlat rfl)
    · cases hp
  · cases hp
end Go.Proofs.YtlkaoiceehlkmaaVE
