import Derived.Test.YthngeddaeoeimaaDoorVeO
namespace Go.Proofs.YthngeddaeoeimaaDoorVE
open Go Go.RowKit
set_option linter.unusedVariables false
set_option linter.unusedSimpArgs false

section below
variable {B : Base} {g : Gh} {st : St} {w w' : World} {wr : Wr}
theorem cell_here {b o : Nat} {v : Value} (h : w.cell? ⟨b, o, none⟩ = some v) : b < w.heap.size := World.block_lt_of_cell? w ⟨b, o, none⟩ h
theorem SR.later (hs : SR B g st w) (hb : Below w.heap.size w w') : SR B g st w' where
  obj := fun l r h => ⟨(hs.obj l r h).1, by rw [hb.block l (lt_of_obj (hs.obj l r h).2)]; exact (hs.obj l r h).2⟩
  nl := hs.nl
  nt := hs.nt
  old := hs.old.trans (hb.mono hs.low)
  im := fun b o v h => by
    have h1 := hs.im b o v h
    rw [hb.cell (p := ⟨b, o, none⟩) (cell_here h1)]; exact h1
  mloc := fun b o l h => by
    obtain ⟨h1, h2, h3, h4⟩ := hs.mloc b o l h
    obtain ⟨v, hv⟩ := Option.isSome_iff_exists.1 h3
    exact ⟨h1, h2, by rw [hb.cell (p := ⟨b, o, none⟩) (cell_here hv)]; exact h3, by rw [hb.frozen (p := ⟨b, o, none⟩) (cell_here hv)]; exact h4⟩
  mspare := fun b o l h => by
    obtain ⟨h1, h2, h3, h4⟩ := hs.mspare b o l h
    obtain ⟨v, hv⟩ := Option.isSome_iff_exists.1 h3
    exact ⟨h1, h2, by rw [hb.cell (p := ⟨b, o, none⟩) (cell_here hv)]; exact h3, by rw [hb.frozen (p := ⟨b, o, none⟩) (cell_here hv)]; exact h4⟩
  loc := fun l cs h => by
    obtain ⟨h1, h2, vals, h3, h4⟩ := hs.loc l cs h
    refine ⟨h1, h2, vals, h3, fun j v hv => ?_⟩
    have h5 := h4 j v hv
    rw [hb.cell (p := ⟨_, _, none⟩) (cell_here h5)]; exact h5
  tok := hs.tok
theorem Fr.later (hs : SR B g st w) (hb : Below w.heap.size w w') : Fr B wr g st w g st w' where
  obj := fun k o h _ => by rw [hb.block k (lt_of_obj h)]; exact h
  le := Le.refl g
  below := hb.mono hs.low
  len := Nat.le_refl _
  locs := fun _ _ _ => rfl
  dead := fun _ _ h => h
  live := fun _ _ h => h
  keep := fun b o h _ => ⟨rfl, hb.cell (p := ⟨b, o, none⟩) h⟩
  fz := fun b o h => hb.frozen (p := ⟨b, o, none⟩) h
  there := fun b o h => by
    obtain ⟨v, hv⟩ := Option.isSome_iff_exists.1 h
    rw [hb.cell (p := ⟨b, o, none⟩) (cell_here hv)]; exact h
  ol := fun _ _ _ h => .inl h
/-- A call that leaves all old memory as it stood. -/
theorem post_below (hs : SR B g st w) (hb : Below w.heap.size w w') {p : PV} {v : Value} (hr : Rep g p v) : Post B wr g st w p st (.returned v) w' :=
  ⟨v, g, rfl, Fr.later hs hb, SR.later hs hb, hr⟩
end below

/-- Nothing is known of the memory. -/
def g0 : Gh := ⟨fun _ _ => .other, fun _ => (0, 0), fun _ => 0, fun _ => (0, 0, 0), 0, 0, fun _ => none⟩
theorem start (w : World) : SR ⟨w⟩ g0 St.nil w where
  nl := rfl
  nt := rfl
  old := Below.refl _ _
  im := fun _ _ _ h => by cases h
  mloc := fun _ _ _ h => by cases h
  mspare := fun _ _ _ h => by cases h
  loc := fun l cs h => by simp [locAt, St.nil] at h
  tok := fun t h => by cases h
  obj := fun l r h => by cases h

def isTrue : Option (PV × St) → Bool
  | some (.v (.bool b), _) => b
  | _ => false
theorem isTrue_some {x : Option (PV × St)} (h : isTrue x = true) : ∃ s, x = some (.v (.bool true), s) := by
  unfold isTrue at h
  split at h
  · subst h; exact ⟨_, rfl⟩
  · cases h
/-- **A call that is reckoned to true answers true, and leaves all old memory as it stood.** -/
theorem told {C : Cfg} {w : World} (hC : CfgOk C ⟨w⟩) {k : Nat} {f : FuncId} {args : List PV} (h : isTrue (evCall C k (.fn f) args ⟨0, none⟩ St.nil) = true) {g : Gh} (hs : SR ⟨w⟩ g St.nil w) {vs : List Value} (ha : Reps g args vs) :
    Calls C.P f vs.toArray w fun e w' => e = .returned (.bool true) ∧ Below w.heap.size w w' := by
  obtain ⟨s, h⟩ := isTrue_some h
  refine Calls.post (sound hC h hs ha) fun e w' ⟨v, g', h1, h2, h3, h4, h5⟩ => ?_
  rw [Rep] at h2
  exact ⟨by rw [h1, h2.1], h5⟩

/-- Every number is one of these. -/
theorem int_parts (N : Nat) (Q : Int → Prop) (h1 : Q (Int.negSucc 0)) (h2 : ∀ k : Nat, Q (Int.negSucc (k + 1))) (h3 : ∀ i, i < N → Q (Int.ofNat i)) (h4 : ∀ k : Nat, Q (Int.ofNat (k + N))) (n : Int) : Q n := by
  match n with
  | .negSucc 0 => exact h1
  | .negSucc (k + 1) => exact h2 k
  | .ofNat m =>
    rcases Nat.lt_or_ge m N with h | h
    · exact h3 m h
    · have := h4 (m - N)
      rwa [Nat.sub_add_cancel h] at this

/-- A table of open regions, checked over a whole program. -/
def checkAll (C : Cfg) : Bool := C.P.funcs.toList.zipIdx.all fun x => match x.1.body with
  | some c => checkDraws C x.2 c
  | none => true
theorem draws_of {C : Cfg} (h : checkAll C = true) (f : FuncId) (fn : Func) (c : Code) (hf : C.P.funcs[f]? = some fn) (hc : fn.body = some c) : checkDraws C f c = true := by
  unfold checkAll at h
  rw [List.all_eq_true] at h
  have := h (fn, f) (by rw [List.mem_zipIdx_iff_getElem?]; simpa using hf)
  simpa [hc] using this
def plainAll (P : Program) : Bool := P.funcs.toList.all fun fn => fn.name != "runtime.NumGoroutine"
theorem plain_of {P : Program} (h : plainAll P = true) : Plain P := fun f fn hf => by
  unfold plainAll at h
  rw [List.all_eq_true] at h
  have := h fn (by simpa using Array.mem_of_getElem? hf)
  simpa using this
end Go.Proofs.YthngeddaeoeimaaDoorVE
