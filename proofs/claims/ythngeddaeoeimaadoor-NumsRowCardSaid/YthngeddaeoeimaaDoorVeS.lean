import Derived.Test.YthngeddaeoeimaaDoorVeQ
import Derived.Lib.AtoiAllMem
import Derived.Lib.AppendIntMem
import Derived.Lib.ItoaNum
namespace Go.Proofs.YthngeddaeoeimaaDoorVE
open Go Go.RowKit
set_option linter.unusedVariables false
/-! More functions of Go's library. -/
def pItoa : List PV → Option PV
  | [.v (.int .i64 n)] => if -9223372036854775808 ≤ n ∧ n ≤ 9223372036854775807 then some (.v (.string ⟨(Lib.itoa n).toArray⟩)) else none
  | _ => none
def pAtoiAll : List PV → Option PV
  | [.v (.string s)] => if s.size ≤ 9223372036854775806 then (match Lib.atoiAll s.data.toList with
    | .ok v => some (.tuple [.v (.int .i64 v), .v .nilIface])
    | _ => none) else none
  | _ => none
section prims
variable {P : Program} {f : FuncId} {B : Base} {args : List PV} {p : PV}
theorem okItoa (h : ∀ (n : Int), -9223372036854775808 ≤ n → n ≤ 9223372036854775807 → ∀ (w : World), Lib.TabIs P w "internal/strconv.uint64pow10" .u64 Lib.pow10Tab →
      Calls P f #[.int .i64 n] w fun e w' => e = .returned (.string ⟨(Lib.itoa n).toArray⟩) ∧ ∃ k os, w' = Sort.grow (w.drewN k) os)
    (htab : Lib.TabIs P B.w "internal/strconv.uint64pow10" .u64 Lib.pow10Tab) (hp : pItoa args = some p) : PrimAt P f B args p := by
  intro wr g st w vs hs ha
  unfold pItoa at hp
  split at hp
  · rename_i n
    split at hp
    · rename_i hl
      simp only [Option.some.injEq] at hp
      subst hp
      obtain ⟨a, rfl, h1⟩ := ha.oneArg
      simp only [Rep] at h1
      obtain ⟨rfl, _⟩ := h1
      refine Calls.post (h n hl.1 hl.2 w (tab_later hs htab)) fun e w' ⟨he, k, os, hw⟩ => ?_
      subst he; subst hw
      exact post_below hs (Lib.below_grow _ w (Nat.le_refl _) k os) (Rep.ofFlat rfl)
    · cases hp
  · cases hp
theorem okAtoiAll {t : TypeId} (h : ∀ (s : ByteArray), s.size ≤ 9223372036854775806 → ∀ v : Int, Lib.atoiAll s.data.toList = .ok v → ∀ w : World,
      Calls P f #[.string s] w fun e w' => e = .returned (.tuple #[.int .i64 v, .nilIface]) ∧ (w' = w ∨ ∃ x, w' = Lib.bytesWorld w t x))
    (hp : pAtoiAll args = some p) : PrimAt P f B args p := by
  intro wr g st w vs hs ha
  unfold pAtoiAll at hp
  split at hp
  · rename_i s
    split at hp
    · rename_i hl
      split at hp
      · rename_i v hv
        simp only [Option.some.injEq] at hp
        subst hp
        obtain ⟨a, rfl, h1⟩ := ha.oneArg
        simp only [Rep] at h1
        obtain ⟨rfl, _⟩ := h1
        refine Calls.post (h s hl v hv w) fun e w' ⟨he, hw⟩ => ?_
        subst he
        have hb : Below w.heap.size w w' := by
          rcases hw with rfl | ⟨x, rfl⟩
          · exact Below.refl _ _
          · exact Go.Lib.bytesWorld_below w t x
        refine post_below hs hb ?_
        rw [Rep]
        exact ⟨[.int .i64 v, .nilIface], rfl, by simp only [Reps]; exact ⟨_, _, rfl, Rep.ofFlat rfl, _, _, rfl, Rep.ofFlat rfl, rfl⟩⟩
      · cases hp
    · cases hp
  · cases hp
end prims
end Go.Proofs.YthngeddaeoeimaaDoorVE
