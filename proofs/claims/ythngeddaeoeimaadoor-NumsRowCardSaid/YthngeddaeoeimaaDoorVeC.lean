import Derived.Test.YthngeddaeoeimaaDoorVeB
namespace Go.Proofs.YthngeddaeoeimaaDoorVE
open Go Go.RowKit
set_option linter.unusedVariables false
set_option linter.unusedSimpArgs false

/-- The memory of some earlier moment: what lay there then stays as it stood. -/
structure Base where
  w : World
/-- How many blocks there were. -/
def Base.n (B : Base) : Nat := B.w.heap.size
instance : Coe Base Nat := ⟨Base.n⟩

/-- The state stands for a part of the world. -/
structure SR (B : Base) (g : Gh) (st : St) (w : World) : Prop where
  nl : g.nl = st.locs.length
  nt : g.nt = st.next
  old : Below B.n B.w w
  im : ∀ b o v, g.own b o = .im v → w.cell? ⟨b, o, none⟩ = some v
  mloc : ∀ b o l, g.own b o = .loc l → l < g.nl ∧ B ≤ b ∧ (w.cell? ⟨b, o, none⟩).isSome = true ∧ w.frozen? ⟨b, o, none⟩ = false
  mspare : ∀ b o t, g.own b o = .spare t → t < g.nt ∧ B ≤ b ∧ (w.cell? ⟨b, o, none⟩).isSome = true ∧ w.frozen? ⟨b, o, none⟩ = false
  loc : ∀ l cs, locAt st l = some cs → cs.length ≤ g.ext l ∧ (∀ j, j < g.ext l → g.own (g.base l).1 ((g.base l).2 + j) = .loc l) ∧
    ∃ vals, Reps g cs vals ∧ ∀ j v, vals[j]? = some v → w.cell? ⟨(g.base l).1, (g.base l).2 + j, none⟩ = some v
  tok : ∀ t, t ∈ st.live → t < g.nt ∧ ∀ o, (g.reg t).2.1 ≤ o → o < (g.reg t).2.2 → g.own (g.reg t).1 o = .spare t
  obj : ∀ l r, g.obj l = some r → B ≤ l ∧ w.heap[l]? = some (.loop r)

theorem SR.low {B : Base} {g : Gh} {st : St} {w : World} (h : SR B g st w) : B.n ≤ w.heap.size := h.old.size
theorem SR.size {B : Base} {g : Gh} {st : St} {w : World} (h : SR B g st w) {b o : Nat} (hb : g.own b o ≠ .other) : b < w.heap.size := by
  cases ho : g.own b o with
  | other => exact absurd ho hb
  | im v => exact World.block_lt_of_cell? w ⟨b, o, none⟩ (h.im b o v ho)
  | loc l =>
    obtain ⟨u, hu⟩ := Option.isSome_iff_exists.1 (h.mloc b o l ho).2.2.1
    exact World.block_lt_of_cell? w ⟨b, o, none⟩ hu
  | spare t =>
    obtain ⟨u, hu⟩ := Option.isSome_iff_exists.1 (h.mspare b o t ho).2.2.1
    exact World.block_lt_of_cell? w ⟨b, o, none⟩ hu
theorem locAt_lt {st : St} {l : Nat} {cs : List PV} (h : locAt st l = some cs) : l < st.locs.length := by
  unfold locAt at h
  rcases Nat.lt_or_ge l st.locs.length with hl | hl
  · exact hl
  · simp [List.getElem?_eq_none hl] at h

/-- What may not be touched. -/
def Fixed (wr : Wr) (st : St) : Owner → Prop
  | .other => True
  | .im _ => True
  | .loc l => wr.ok l = false ∨ locAt st l = none
  | .spare t => t ∉ st.live

/-- What only a loop over a function changes. -/
def still : Obj → Bool
  | .loop _ | .deferred _ => true
  | _ => false
theorem obj_alloc {w : World} {ob o : Obj} {k : Nat} (h : w.heap[k]? = some o) : (w.alloc ob).heap[k]? = some o := by
  have hk : k < w.heap.size := by
    rcases Nat.lt_or_ge k w.heap.size with h1 | h1
    · exact h1
    · rw [Array.getElem?_eq_none h1] at h; cases h
  rw [Below.heap_alloc w ob k hk]; exact h
theorem obj_setCells {w : World} {b k : Nat} {o : Obj} (h : w.heap[k]? = some o) (hs : still o = true) : ∀ (vs : List Value) (off : Nat), (vs = [] ∨ ∃ j, (w.cell? ⟨b, j, none⟩).isSome = true) → (w.setCells b off vs).heap[k]? = some o := by
  intro vs off hc
  rcases hc with rfl | ⟨j, hc⟩
  · exact h
  · have hne : k ≠ b := fun e => by
      subst e
      cases o with
      | loop r => simp [World.cell?, h] at hc
      | deferred ds => simp [World.cell?, h] at hc
      | _ => cases hs
    clear hc
    induction vs generalizing off w with
    | nil => exact h
    | cons v vs ih =>
      show ((w.setCell ⟨b, off, none⟩ v).setCells b (off + 1) vs).heap[k]? = some o
      exact ih (by rw [Below.heap_setCell w ⟨b, off, none⟩ v k hne]; exact h) (off + 1)
/-- From one moment to a later one. -/
structure Fr (B : Base) (wr : Wr) (g : Gh) (st : St) (w : World) (g' : Gh) (st' : St) (w' : World) : Prop where
  le : Le g g'
  below : Below B w w'
  len : st.locs.length ≤ st'.locs.length
  locs : ∀ l, l < st.locs.length → wr.ok l = false → locAt st' l = locAt st l
  dead : ∀ l, l < st.locs.length → locAt st l = none → locAt st' l = none
  live : ∀ t, t < st.next → t ∈ st'.live → t ∈ st.live
  keep : ∀ b o, b < w.heap.size → Fixed wr st (g.own b o) → g'.own b o = g.own b o ∧ w'.cell? ⟨b, o, none⟩ = w.cell? ⟨b, o, none⟩
  fz : ∀ b o, b < w.heap.size → w'.frozen? ⟨b, o, none⟩ = w.frozen? ⟨b, o, none⟩
  there : ∀ b o, (w.cell? ⟨b, o, none⟩).isSome = true → (w'.cell? ⟨b, o, none⟩).isSome = true
  ol : ∀ b o l, g'.own b o = .loc l → g.own b o = .loc l ∨ g.nl ≤ l
  obj : ∀ (k : Nat) (o : Obj), w.heap[k]? = some o → still o = true → w'.heap[k]? = some o
theorem Fr.refl (B : Base) (wr : Wr) (g : Gh) (st : St) (w : World) : Fr B wr g st w g st w :=
  ⟨Le.refl g, Below.refl B w, Nat.le_refl _, fun _ _ _ => rfl, fun _ _ h => h, fun _ _ h => h, fun _ _ _ _ => ⟨rfl, rfl⟩, fun _ _ _ => rfl, fun _ _ h => h, fun _ _ _ h => .inl h, fun _ _ h _ => h⟩
theorem Fr.trans {B : Base} {wr : Wr} {g g1 g2 : Gh} {st st1 st2 : St} {w w1 w2 : World} (hs : SR B g st w) (hs1 : SR B g1 st1 w1) (h : Fr B wr g st w g1 st1 w1) (k : Fr B wr g1 st1 w1 g2 st2 w2) : Fr B wr g st w g2 st2 w2 where
  obj := fun i o h1 h2 => k.obj i o (h.obj i o h1 h2) h2
  le := h.le.trans k.le
  below := h.below.trans k.below
  len := Nat.le_trans h.len k.len
  locs := fun l hl ho => (k.locs l (Nat.lt_of_lt_of_le hl h.len) ho).trans (h.locs l hl ho)
  dead := fun l hl hn => k.dead l (Nat.lt_of_lt_of_le hl h.len) (h.dead l hl hn)
  live := fun t ht hm => h.live t ht (k.live t (by have := h.le.nt; have := hs.nt; have := hs1.nt; omega) hm)
  keep := fun b o hb hf => by
    obtain ⟨h1, h2⟩ := h.keep b o hb hf
    have hf1 : Fixed wr st1 (g1.own b o) := by
      rw [h1]
      cases ho : g.own b o with
      | other => trivial
      | im v => trivial
      | loc l =>
        rw [ho] at hf
        have hl := (hs.mloc b o l ho).1
        rw [hs.nl] at hl
        exact hf.imp id (h.dead l hl)
      | spare t =>
        rw [ho] at hf
        have ht := (hs.mspare b o t ho).1
        rw [hs.nt] at ht
        exact fun hm => hf (h.live t ht hm)
    obtain ⟨h3, h4⟩ := k.keep b o (Nat.lt_of_lt_of_le hb h.below.size) hf1
    exact ⟨h3.trans h1, h4.trans h2⟩
  fz := fun b o hb => (k.fz b o (Nat.lt_of_lt_of_le hb h.below.size)).trans (h.fz b o hb)
  there := fun b o hx => k.there b o (h.there b o hx)
  ol := fun b o l hx => (k.ol b o l hx).elim (h.ol b o l) fun h2 => .inr (Nat.le_trans h.le.nl h2)

/-- A draw. -/
theorem SR.draws {B : Base} {g : Gh} {st : St} {w : World} (h : SR B g st w) (n : Nat) : SR B g st (w.drewN n) :=
  ⟨h.nl, h.nt, ⟨h.old.os, h.old.tape, h.old.output, h.old.size, h.old.block⟩, h.im, h.mloc, h.mspare, h.loc, h.tok, h.obj⟩
theorem Fr.draws (B : Base) (wr : Wr) (g : Gh) (st : St) (w : World) (n : Nat) : Fr B wr g st w g st (w.drewN n) :=
  ⟨Le.refl g, ⟨rfl, rfl, rfl, Nat.le_refl _, fun _ _ => rfl⟩, Nat.le_refl _, fun _ _ _ => rfl, fun _ _ h => h, fun _ _ h => h, fun _ _ _ _ => ⟨rfl, rfl⟩, fun _ _ _ => rfl, fun _ _ h => h, fun _ _ _ h => .inl h, fun _ _ h _ => h⟩

/-! A new block: whose its cells are. -/
def Gh.block (g : Gh) (b : Nat) (f : Nat → Owner) : Gh := { g with own := fun b' o => if b' = b then f o else g.own b' o }
theorem cell_alloc_old {w : World} {o : Obj} {b j : Nat} (h : b ≠ w.heap.size) : (w.alloc o).cell? ⟨b, j, none⟩ = w.cell? ⟨b, j, none⟩ := World.cell?_alloc_old w o _ h
theorem froz_alloc_old {w : World} {o : Obj} {b j : Nat} (h : b ≠ w.heap.size) : (w.alloc o).frozen? ⟨b, j, none⟩ = w.frozen? ⟨b, j, none⟩ := World.frozen?_alloc_old w o _ h

/-- A new location. -/
def Gh.newLoc (g : Gh) (b n : Nat) : Gh :=
  { g with own := fun b' o => if b' = b then (if o < n then .loc g.nl else .other) else g.own b' o,
           base := fun l => if l = g.nl then (b, 0) else g.base l, ext := fun l => if l = g.nl then n else g.ext l, nl := g.nl + 1 }
theorem there_alloc {w : World} {ob : Obj} {b o : Nat} (h : (w.cell? ⟨b, o, none⟩).isSome = true) : ((w.alloc ob).cell? ⟨b, o, none⟩).isSome = true := by
  obtain ⟨u, hu⟩ := Option.isSome_iff_exists.1 h
  have := World.block_lt_of_cell? w _ hu
  rw [cell_alloc_old (by simp at this; omega)]
  exact h
theorem locAt_newLoc_old {st : St} {cs : List PV} {l : Nat} (h : l < st.locs.length) : locAt (newLoc st cs) l = locAt st l := by
  unfold locAt newLoc
  rw [List.getElem?_append_left h]
theorem locAt_newLoc_new (st : St) (cs : List PV) : locAt (newLoc st cs) st.locs.length = some cs := by
  unfold locAt newLoc
  simp
theorem locAt_newLoc_some {st : St} {cs ds : List PV} {l : Nat} (h : locAt (newLoc st cs) l = some ds) : (l < st.locs.length ∧ locAt st l = some ds) ∨ (l = st.locs.length ∧ ds = cs) := by
  rcases Nat.lt_trichotomy l st.locs.length with hl | hl | hl
  · rw [locAt_newLoc_old hl] at h; exact .inl ⟨hl, h⟩
  · subst hl; rw [locAt_newLoc_new] at h; exact .inr ⟨rfl, by simpa using h.symm⟩
  · have := locAt_lt h
    unfold newLoc at this
    simp at this
    omega
theorem le_newLoc {B : Base} {g : Gh} {st : St} {w : World} (h : SR B g st w) (n : Nat) : Le g (g.newLoc w.heap.size n) where
  obj := fun _ _ h => h
  im := fun b o v hv => by
    have := h.size (b := b) (o := o) (by rw [hv]; exact fun e => by cases e)
    simp only [Gh.newLoc, if_neg (show ¬ b = w.heap.size by omega)]
    exact hv
  nl := by simp [Gh.newLoc]
  nt := Nat.le_refl _
  base := fun l hl => by simp only [Gh.newLoc, if_neg (show ¬ l = g.nl by omega)]
  ext := fun l hl => by simp only [Gh.newLoc, if_neg (show ¬ l = g.nl by omega)]
  reg := fun t _ => rfl
theorem SR.newLoc {B : Base} {g : Gh} {st : St} {w : World} (h : SR B g st w) {cs : List PV} {vals : List Value} (hr : Reps g cs vals) (arr : Array Value) (e : TypeId) (ha : vals.length ≤ arr.size) (hv : ∀ (j : Nat) (v : Value), vals[j]? = some v → arr[j]? = some v) :
    SR B (g.newLoc w.heap.size arr.size) (newLoc st cs) (w.alloc (.cells arr e)) := by
  have hle := le_newLoc h arr.size
  have hlow := h.low
  have hnl := h.nl
  have own' : ∀ b o, (g.newLoc w.heap.size arr.size).own b o = if b = w.heap.size then (if o < arr.size then .loc g.nl else .other) else g.own b o := fun _ _ => rfl
  have hnew : ∀ o, o < arr.size → ((w.alloc (.cells arr e)).cell? ⟨w.heap.size, o, none⟩).isSome = true := fun o ho => by
    rw [World.cell?_alloc_new, Array.getElem?_eq_getElem ho]; rfl
  refine ⟨by simp [Gh.newLoc, YthngeddaeoeimaaDoorVE.newLoc, hnl], h.nt, h.old.alloc h.low _, ?_, ?_, ?_, ?_, ?_, fun l r hr => ⟨(h.obj l r hr).1, obj_alloc (h.obj l r hr).2⟩⟩
  · intro b o v ho
    rw [own'] at ho
    split at ho
    · split at ho <;> cases ho
    · rename_i hb; rw [cell_alloc_old hb]; exact h.im b o v ho
  · intro b o l ho
    rw [own'] at ho
    split at ho
    · rename_i hb
      subst hb
      split at ho
      · rename_i ho2
        cases ho
        exact ⟨by simp [Gh.newLoc], hlow, hnew o ho2, by simp⟩
      · cases ho
    · rename_i hb
      obtain ⟨h1, h2, h3, h4⟩ := h.mloc b o l ho
      refine ⟨by simp [Gh.newLoc]; omega, h2, by rw [cell_alloc_old hb]; exact h3, by rw [froz_alloc_old hb]; exact h4⟩
  · intro b o t ho
    rw [own'] at ho
    split at ho
    · split at ho <;> cases ho
    · rename_i hb
      obtain ⟨h1, h2, h3, h4⟩ := h.mspare b o t ho
      exact ⟨h1, h2, by rw [cell_alloc_old hb]; exact h3, by rw [froz_alloc_old hb]; exact h4⟩
  · intro l ds hl
    rcases locAt_newLoc_some hl with ⟨hlt, hl⟩ | ⟨rfl, rfl⟩
    · obtain ⟨h1, h2, us, h3, h4⟩ := h.loc l ds hl
      have hlt' : l < g.nl := by omega
      rw [hle.ext l hlt', hle.base l hlt']
      refine ⟨h1, fun j hj => ?_, us, Reps.mono hle _ _ h3, fun j v hj => ?_⟩
      · have := h2 j hj
        have hb := h.size (b := (g.base l).1) (o := (g.base l).2 + j) (by rw [this]; exact fun e => by cases e)
        rw [own', if_neg (by omega)]; exact this
      · have := h4 j v hj
        have hb := World.block_lt_of_cell? w _ this
        rw [cell_alloc_old (by simp at hb; omega)]; exact this
    · simp only [Gh.newLoc, ← hnl, if_true]
      refine ⟨by rw [← hr.length]; exact ha, fun j hj => by simp [hj], vals, Reps.mono hle _ _ hr, fun j v hj => ?_⟩
      simp only [Nat.zero_add, World.cell?_alloc_new]
      exact hv j v hj
  · intro t ht
    obtain ⟨h1, h2⟩ := h.tok t ht
    refine ⟨h1, fun o ho1 ho2 => ?_⟩
    have h3 : g.own (g.reg t).1 o = .spare t := h2 o ho1 ho2
    have hb := h.size (b := (g.reg t).1) (o := o) (by rw [h3]; exact fun e => by cases e)
    show (g.newLoc w.heap.size arr.size).own (g.reg t).1 o = _
    rw [own', if_neg (by omega)]
    exact h3
theorem Fr.newLoc {B : Base} {wr : Wr} {g : Gh} {st : St} {w : World} (h : SR B g st w) (cs : List PV) (n : Nat) (o : Obj) :
    Fr B wr g st w (g.newLoc w.heap.size n) (newLoc st cs) (w.alloc o) where
  obj := fun k o h _ => obj_alloc h
  le := le_newLoc h n
  below := (Below.refl B w).alloc h.low o
  len := by simp [YthngeddaeoeimaaDoorVE.newLoc]
  locs := fun l hl _ => locAt_newLoc_old hl
  dead := fun l hl hn => (locAt_newLoc_old hl).trans hn
  live := fun _ _ h => h
  keep := fun b o hb _ => ⟨by simp only [Gh.newLoc, if_neg (show ¬ b = w.heap.size by omega)], cell_alloc_old (by omega)⟩
  fz := fun b o hb => froz_alloc_old (by omega)
  there := fun _ _ h => there_alloc h
  ol := fun b o l hx => by
    simp only [Gh.newLoc] at hx
    split at hx
    · split at hx
      · cases hx; exact .inr (Nat.le_refl _)
      · cases hx
    · exact .inl hx

/-- A new unchanging row. -/
def Gh.newRow (g : Gh) (b : Nat) (vals : List Value) : Gh :=
  { g with own := fun b' o => if b' = b then (match vals[o]? with | some v => .im v | none => .other) else g.own b' o }
theorem le_newRow {B : Base} {g : Gh} {st : St} {w : World} (h : SR B g st w) (vals : List Value) : Le g (g.newRow w.heap.size vals) where
  obj := fun _ _ h => h
  im := fun b o v hv => by
    have := h.size (b := b) (o := o) (by rw [hv]; exact fun e => by cases e)
    simp only [Gh.newRow, if_neg (show ¬ b = w.heap.size by omega)]
    exact hv
  nl := Nat.le_refl _
  nt := Nat.le_refl _
  base := fun l hl => rfl
  ext := fun l hl => rfl
  reg := fun t _ => rfl
theorem SR.newRow {B : Base} {g : Gh} {st : St} {w : World} (h : SR B g st w) (vals : List Value) (arr : Array Value) (e : TypeId) (hv : ∀ (j : Nat) (v : Value), vals[j]? = some v → arr[j]? = some v) :
    SR B (g.newRow w.heap.size vals) st (w.alloc (.cells arr e)) := by
  have hle := le_newRow h vals
  have hlow := h.low
  have own' : ∀ b o, (g.newRow w.heap.size vals).own b o = if b = w.heap.size then (match vals[o]? with | some v => .im v | none => .other) else g.own b o := fun _ _ => rfl
  refine ⟨h.nl, h.nt, h.old.alloc h.low _, ?_, ?_, ?_, ?_, ?_, fun l r hr => ⟨(h.obj l r hr).1, obj_alloc (h.obj l r hr).2⟩⟩
  · intro b o v ho
    rw [own'] at ho
    split at ho
    · rename_i hb
      subst hb
      split at ho
      · rename_i u hu
        cases ho
        rw [World.cell?_alloc_new]
        exact hv o _ hu
      · cases ho
    · rename_i hb; rw [cell_alloc_old hb]; exact h.im b o v ho
  · intro b o l ho
    rw [own'] at ho
    split at ho
    · split at ho <;> cases ho
    · rename_i hb
      obtain ⟨h1, h2, h3, h4⟩ := h.mloc b o l ho
      exact ⟨h1, h2, by rw [cell_alloc_old hb]; exact h3, by rw [froz_alloc_old hb]; exact h4⟩
  · intro b o t ho
    rw [own'] at ho
    split at ho
    · split at ho <;> cases ho
    · rename_i hb
      obtain ⟨h1, h2, h3, h4⟩ := h.mspare b o t ho
      exact ⟨h1, h2, by rw [cell_alloc_old hb]; exact h3, by rw [froz_alloc_old hb]; exact h4⟩
  · intro l ds hl
    obtain ⟨h1, h2, us, h3, h4⟩ := h.loc l ds hl
    refine ⟨h1, fun j hj => ?_, us, Reps.mono hle _ _ h3, fun j v hj => ?_⟩
    · have h5 : g.own (g.base l).1 ((g.base l).2 + j) = .loc l := h2 j hj
      have hb := h.size (b := (g.base l).1) (o := (g.base l).2 + j) (by rw [h5]; exact fun e => by cases e)
      show (g.newRow w.heap.size vals).own (g.base l).1 ((g.base l).2 + j) = _
      rw [own', if_neg (by omega)]; exact h5
    · have := h4 j v hj
      have hb := World.block_lt_of_cell? w _ this
      show (w.alloc _).cell? ⟨(g.base l).1, (g.base l).2 + j, none⟩ = some v
      rw [cell_alloc_old (by simp at hb; omega)]; exact this
  · intro t ht
    obtain ⟨h1, h2⟩ := h.tok t ht
    refine ⟨h1, fun o ho1 ho2 => ?_⟩
    have h3 : g.own (g.reg t).1 o = .spare t := h2 o ho1 ho2
    have hb := h.size (b := (g.reg t).1) (o := o) (by rw [h3]; exact fun e => by cases e)
    show (g.newRow w.heap.size vals).own (g.reg t).1 o = _
    rw [own', if_neg (by omega)]
    exact h3
theorem Fr.newRow {B : Base} {wr : Wr} {g : Gh} {st : St} {w : World} (h : SR B g st w) (vals : List Value) (o : Obj) :
    Fr B wr g st w (g.newRow w.heap.size vals) st (w.alloc o) where
  obj := fun k o h _ => obj_alloc h
  le := le_newRow h vals
  below := (Below.refl B w).alloc h.low o
  len := Nat.le_refl _
  locs := fun _ _ _ => rfl
  dead := fun _ _ h => h
  live := fun _ _ h => h
  keep := fun b o hb _ => ⟨by simp only [Gh.newRow, if_neg (show ¬ b = w.heap.size by omega)], cell_alloc_old (by omega)⟩
  fz := fun b o hb => froz_alloc_old (by omega)
  there := fun _ _ h => there_alloc h
  ol := fun b o l hx => by
    simp only [Gh.newRow] at hx
    split at hx
    · split at hx <;> cases hx
    · exact .inl hx
theorem im_newRow (g : Gh) (b : Nat) (vals : List Value) : Im (g.newRow b vals) b 0 vals := fun j v hv => by
  simp only [Gh.newRow, Nat.zero_add, if_true, hv]

/-- A new row with spare room, a new token's. -/
def Gh.newTok (g : Gh) (b : Nat) (vals : List Value) (n : Nat) : Gh :=
  { g with own := fun b' o => if b' = b then (match vals[o]? with | some v => .im v | none => if o < n then .spare g.nt else .other) else g.own b' o,
           reg := fun t => if t = g.nt then (b, vals.length, n) else g.reg t, nt := g.nt + 1 }
def tokSt (st : St) : St := { st with live := st.next :: st.live, next := st.next + 1 }
theorem le_newTok {B : Base} {g : Gh} {st : St} {w : World} (h : SR B g st w) (vals : List Value) (n : Nat) : Le g (g.newTok w.heap.size vals n) where
  obj := fun _ _ h => h
  im := fun b o v hv => by
    have := h.size (b := b) (o := o) (by rw [hv]; exact fun e => by cases e)
    simp only [Gh.newTok, if_neg (show ¬ b = w.heap.size by omega)]
    exact hv
  nl := Nat.le_refl _
  nt := by simp [Gh.newTok]
  base := fun l hl => rfl
  ext := fun l hl => rfl
  reg := fun t ht => by simp only [Gh.newTok, if_neg (show ¬ t = g.nt by omega)]
theorem SR.newTok {B : Base} {g : Gh} {st : St} {w : World} (h : SR B g st w) (vals : List Value) (arr : Array Value) (e : TypeId) (hv : ∀ (j : Nat) (v : Value), vals[j]? = some v → arr[j]? = some v) :
    SR B (g.newTok w.heap.size vals arr.size) (tokSt st) (w.alloc (.cells arr e)) := by
  have hle := le_newTok h vals arr.size
  have hlow := h.low
  have hnt := h.nt
  have own' : ∀ b o, (g.newTok w.heap.size vals arr.size).own b o = if b = w.heap.size then (match vals[o]? with | some v => .im v | none => if o < arr.size then .spare g.nt else .other) else g.own b o := fun _ _ => rfl
  refine ⟨h.nl, by simp [Gh.newTok, tokSt, hnt], h.old.alloc h.low _, ?_, ?_, ?_, ?_, ?_, fun l r hr => ⟨(h.obj l r hr).1, obj_alloc (h.obj l r hr).2⟩⟩
  · intro b o v ho
    rw [own'] at ho
    split at ho
    · rename_i hb
      subst hb
      split at ho
      · rename_i u hu
        cases ho
        rw [World.cell?_alloc_new]
        exact hv o _ hu
      · split at ho <;> cases ho
    · rename_i hb; rw [cell_alloc_old hb]; exact h.im b o v ho
  · intro b o l ho
    rw [own'] at ho
    split at ho
    · split at ho
      · cases ho
      · split at ho <;> cases ho
    · rename_i hb
      obtain ⟨h1, h2, h3, h4⟩ := h.mloc b o l ho
      exact ⟨h1, h2, by rw [cell_alloc_old hb]; exact h3, by rw [froz_alloc_old hb]; exact h4⟩
  · intro b o t ho
    rw [own'] at ho
    split at ho
    · rename_i hb
      subst hb
      split at ho
      · cases ho
      · split at ho
        · rename_i hlt
          cases ho
          exact ⟨by simp [Gh.newTok], hlow, by rw [World.cell?_alloc_new, Array.getElem?_eq_getElem hlt]; rfl, by simp⟩
        · cases ho
    · rename_i hb
      obtain ⟨h1, h2, h3, h4⟩ := h.mspare b o t ho
      exact ⟨by simp [Gh.newTok]; omega, h2, by rw [cell_alloc_old hb]; exact h3, by rw [froz_alloc_old hb]; exact h4⟩
  · intro l ds hl
    obtain ⟨h1, h2, us, h3, h4⟩ := h.loc l ds hl
    refine ⟨h1, fun j hj => ?_, us, Reps.mono hle _ _ h3, fun j v hj => ?_⟩
    · have h5 : g.own (g.base l).1 ((g.base l).2 + j) = .loc l := h2 j hj
      have hb := h.size (b := (g.base l).1) (o := (g.base l).2 + j) (by rw [h5]; exact fun e => by cases e)
      show (g.newTok w.heap.size vals arr.size).own (g.base l).1 ((g.base l).2 + j) = _
      rw [own', if_neg (by omega)]; exact h5
    · have := h4 j v hj
      have hb := World.block_lt_of_cell? w _ this
      show (w.alloc _).cell? ⟨(g.base l).1, (g.base l).2 + j, none⟩ = some v
      rw [cell_alloc_old (by simp at hb; omega)]; exact this
  · intro t ht
    simp only [tokSt, List.mem_cons] at ht
    by_cases htn : t = g.nt
    · subst htn
      refine ⟨by simp [Gh.newTok], fun o ho1 ho2 => ?_⟩
      simp only [Gh.newTok, if_true] at ho1 ho2 ⊢
      rw [List.getElem?_eq_none ho1]
      simp [ho2]
    · have ht' : t ∈ st.live := by
        rcases ht with rfl | ht
        · exact absurd hnt.symm htn
        · exact ht
      obtain ⟨h1, h2⟩ := h.tok t ht'
      rw [hle.reg t h1]
      refine ⟨by simp [Gh.newTok]; omega, fun o ho1 ho2 => ?_⟩
      have h3 : g.own (g.reg t).1 o = .spare t := h2 o ho1 ho2
      have hb := h.size (b := (g.reg t).1) (o := o) (by rw [h3]; exact fun e => by cases e)
      rw [own', if_neg (by omega)]
      exact h3
theorem Fr.newTok {B : Base} {wr : Wr} {g : Gh} {st : St} {w : World} (h : SR B g st w) (vals : List Value) (n : Nat) (o : Obj) :
    Fr B wr g st w (g.newTok w.heap.size vals n) (tokSt st) (w.alloc o) where
  obj := fun k o h _ => obj_alloc h
  le := le_newTok h vals n
  below := (Below.refl B w).alloc h.low o
  len := Nat.le_refl _
  locs := fun _ _ _ => rfl
  dead := fun _ _ h => h
  live := fun t ht hm => by
    simp only [tokSt, List.mem_cons] at hm
    rcases hm with rfl | hm
    · omega
    · exact hm
  keep := fun b o hb _ => ⟨by simp only [Gh.newTok, if_neg (show ¬ b = w.heap.size by omega)], cell_alloc_old (by omega)⟩
  fz := fun b o hb => froz_alloc_old (by omega)
  there := fun _ _ h => there_alloc h
  ol := fun b o l hx => by
    simp only [Gh.newTok] at hx
    split at hx
    · split at hx
      · cases hx
      · split at hx <;> cases hx
    · exact .inl hx
theorem im_newTok (g : Gh) (b : Nat) (vals : List Value) (n : Nat) : Im (g.newTok b vals n) b 0 vals := fun j v hv => by
  simp only [Gh.newTok, Nat.zero_add, if_true, hv]

/-! Cells that are written. -/
theorem Below.setCells {B : Nat} {a w : World} (h : Below B a w) {b o : Nat} (hb : B ≤ b) : ∀ (vs : List Value) (o : Nat) (w : World), Below B a w → Below B a (w.setCells b o vs)
  | [], _, _, h => h
  | v :: vs, o, w, h => by
    rw [World.setCells]
    exact Below.setCells (b := b) (o := o) h hb vs (o + 1) _ (h.setCell (p := ⟨b, o, none⟩) hb v)
theorem size_setCells (b : Nat) : ∀ (vs : List Value) (o : Nat) (w : World), (w.setCells b o vs).heap.size = w.heap.size
  | [], _, _ => rfl
  | v :: vs, o, w => by rw [World.setCells, size_setCells b vs, World.size_setCell]
/-- A location's cells are written anew from a place on. -/
theorem isSome_setCells (b : Nat) : ∀ (vs : List Value) (o : Nat) (w : World) (x : Addr), (w.cell? x).isSome = true → ((w.setCells b o vs).cell? x).isSome = true
  | [], o, w, x, h => h
  | v :: r, o, w, x, h => by
    rw [World.setCells]
    refine isSome_setCells b r (o + 1) _ x ?_
    obtain ⟨u, hu⟩ := Option.isSome_iff_exists.1 h
    by_cases e : (⟨b, o, none⟩ : Addr) = x
    · subst e; rw [World.cell?_setCell_same _ _ _ hu]; rfl
    · rw [World.cell?_setCell_other _ _ _ _ e]; exact h
theorem locAt_set_same {st : St} {l : Nat} {cs : List PV} (h : l < st.locs.length) : locAt { st with locs := st.locs.set l (some cs) } l = some cs := by
  unfold locAt
  simp [h]
theorem locAt_set_other {st : St} {l k : Nat} {c : Option (List PV)} (h : l ≠ k) : locAt { st with locs := st.locs.set l c } k = locAt st k := by
  unfold locAt
  simp [List.getElem?_set, h]
theorem SR.store {B : Base} {g : Gh} {st : St} {w : World} (h : SR B g st w) {l off : Nat} {cs ns : List PV} {vs : List Value} (hl : locAt st l = some cs) (hr : Reps g ns vs) (hn : off + ns.length ≤ cs.length) :
    SR B g { st with locs := st.locs.set l (some (setAt cs off ns)) } (w.setCells (g.base l).1 ((g.base l).2 + off) vs) := by
  obtain ⟨h1, h2, us, h3, h4⟩ := h.loc l cs hl
  have hlt := locAt_lt hl
  have hvl : vs.length = ns.length := hr.length
  have hul : us.length = cs.length := h3.length
  have hall : ∀ j, j < vs.length → (w.cell? ⟨(g.base l).1, (g.base l).2 + off + j, none⟩).isSome = true := fun j hj => by
    rw [Nat.add_assoc]
    exact (h.mloc _ _ l (h2 (off + j) (by omega))).2.2.1
  -- a cell that is another's isn't turned
  have out : ∀ b o, g.own b o ≠ .loc l → (w.setCells (g.base l).1 ((g.base l).2 + off) vs).cell? ⟨b, o, none⟩ = w.cell? ⟨b, o, none⟩ := fun b o ho => by
    refine World.cell?_setCells_out _ _ _ _ _ (fun hb _ => ?_)
    simp only at hb
    subst hb
    rcases Nat.lt_or_ge o ((g.base l).2 + off) with h5 | h5
    · exact .inl h5
    · rcases Nat.lt_or_ge o ((g.base l).2 + off + vs.length) with h6 | h6
      · have := h2 (o - (g.base l).2) (by omega)
        rw [show (g.base l).2 + (o - (g.base l).2) = o by omega] at this
        exact absurd this ho
      · exact .inr h6
  have hbel : Below B.n B.w (w.setCells (g.base l).1 ((g.base l).2 + off) vs) := by
    rcases Nat.eq_zero_or_pos vs.length with h0 | h0
    · have : vs = [] := List.eq_nil_of_length_eq_zero h0
      subst this
      exact h.old
    · have := (h.mloc _ _ l (h2 0 (by omega))).2.1
      exact Below.setCells (b := (g.base l).1) (o := 0) h.old this vs _ w h.old
  refine ⟨by simp [h.nl], h.nt, hbel, ?_, ?_, ?_, ?_, ?_, fun k r hr => ⟨(h.obj k r hr).1, obj_setCells (h.obj k r hr).2 rfl _ _ (by
    cases hvs : vs with
    | nil => exact .inl rfl
    | cons v vs' => exact .inr ⟨_, hall 0 (by rw [hvs]; simp)⟩)⟩⟩
  · intro b o v ho
    rw [out b o (by rw [ho]; exact fun e => by cases e)]
    exact h.im b o v ho
  · intro b o k ho
    obtain ⟨h5, h6, h7, h8⟩ := h.mloc b o k ho
    exact ⟨h5, h6, isSome_setCells _ _ _ _ _ h7, by rw [World.frozen?_setCells]; exact h8⟩
  · intro b o t ho
    obtain ⟨h5, h6, h7, h8⟩ := h.mspare b o t ho
    exact ⟨h5, h6, isSome_setCells _ _ _ _ _ h7, by rw [World.frozen?_setCells]; exact h8⟩
  · intro k ds hk
    by_cases hkl : l = k
    · subst hkl
      rw [locAt_set_same hlt] at hk
      simp only [Option.some.injEq] at hk
      subst hk
      have hlen : (setAt cs off ns).length = cs.length := by simp [setAt]; omega
      refine ⟨by rw [hlen]; exact h1, h2, us.take off ++ vs ++ us.drop (off + vs.length), ?_, ?_⟩
      · unfold setAt
        rw [← hvl]
        exact ((h3.take off).append hr).append (h3.drop _)
      · intro j v hj
        have htl : (us.take off).length = off := by rw [List.length_take]; omega
        rcases Nat.lt_or_ge j off with hj1 | hj1
        · rw [List.append_assoc, List.getElem?_append_left (by omega), List.getElem?_take, if_pos hj1] at hj
          rw [World.cell?_setCells_out _ _ _ _ _ (fun _ _ => .inl (by simp; omega))]
          exact h4 j v hj
        · rcases Nat.lt_or_ge j (off + vs.length) with hj2 | hj2
          · rw [List.append_assoc, List.getElem?_append_right (by omega), List.getElem?_append_left (by omega), htl] at hj
            obtain ⟨hj3, hj4⟩ := List.getElem?_eq_some_iff.1 hj
            have := World.cell?_setCells_in (g.base l).1 vs ((g.base l).2 + off) w hall (j - off) hj3
            rw [show (g.base l).2 + off + (j - off) = (g.base l).2 + j by omega] at this
            rw [this, hj4]
          · rw [List.getElem?_append_right (by simp; omega), List.getElem?_drop] at hj
            simp only [List.length_append, htl] at hj
            rw [World.cell?_setCells_out _ _ _ _ _ (fun _ _ => .inr (by simp; omega))]
            exact h4 j v (by rw [← hj]; congr 1; omega)
    · rw [locAt_set_other hkl] at hk
      obtain ⟨h5, h6, us', h7, h8⟩ := h.loc k ds hk
      refine ⟨h5, h6, us', h7, fun j v hj => ?_⟩
      have hj2 : j < ds.length := by rw [← h7.length]; exact (List.getElem?_eq_some_iff.1 hj).1
      rw [out _ _ (by rw [h6 j (by omega)]; intro e; injection e with e; exact hkl e.symm)]
      exact h8 j v hj
  · exact h.tok
theorem Fr.store {B : Base} {wr : Wr} {g : Gh} {st : St} {w : World} (h : SR B g st w) {l off : Nat} {cs ns : List PV} {vs : List Value} (hl : locAt st l = some cs) (hvl : vs.length = ns.length) (hn : off + ns.length ≤ cs.length) (hw : wr.ok l = true) :
    Fr B wr g st w g { st with locs := st.locs.set l (some (setAt cs off ns)) } (w.setCells (g.base l).1 ((g.base l).2 + off) vs) where
  obj := fun k o h1 h2 => obj_setCells h1 h2 _ _ (by
    cases hvs : vs with
    | nil => exact .inl rfl
    | cons v vs' =>
      obtain ⟨_, h4, _⟩ := h.loc l cs hl
      refine .inr ⟨(g.base l).2 + off, (h.mloc _ _ l (h4 off ?_)).2.2.1⟩
      have := (h.loc l cs hl).1
      rw [hvs] at hvl
      simp at hvl
      omega)
  le := Le.refl g
  below := by
    obtain ⟨h1, h2, _⟩ := h.loc l cs hl
    rcases Nat.eq_zero_or_pos vs.length with h0 | h0
    · have : vs = [] := List.eq_nil_of_length_eq_zero h0
      subst this
      exact Below.refl B w
    · have := (h.mloc _ _ l (h2 0 (by omega))).2.1
      exact Below.setCells (b := (g.base l).1) (o := 0) (Below.refl B w) this vs _ w (Below.refl B w)
  len := by simp
  locs := fun k hk hok => locAt_set_other (fun e => by subst e; rw [hw] at hok; cases hok)
  dead := fun k hk hn => by
    by_cases e : l = k
    · subst e; rw [hl] at hn; cases hn
    · rw [locAt_set_other e]; exact hn
  live := fun _ _ h => h
  keep := fun b o hb hf => by
    obtain ⟨h1, h2, us, h3, h4⟩ := h.loc l cs hl
    refine ⟨rfl, World.cell?_setCells_out _ _ _ _ _ (fun hb _ => ?_)⟩
    simp only at hb
    subst hb
    rcases Nat.lt_or_ge o ((g.base l).2 + off) with h5 | h5
    · exact .inl h5
    · rcases Nat.lt_or_ge o ((g.base l).2 + off + vs.length) with h6 | h6
      · have := h2 (o - (g.base l).2) (by omega)
        rw [show (g.base l).2 + (o - (g.base l).2) = o by omega] at this
        rw [this] at hf
        rcases hf with hf | hf
        · rw [hw] at hf; cases hf
        · rw [hl] at hf; cases hf
      · exact .inr h6
  fz := fun b o hb => World.frozen?_setCells _ _ _ _ _
  there := fun b o h => isSome_setCells _ _ _ _ _ h
  ol := fun _ _ _ h => .inl h
end Go.Proofs.YthngeddaeoeimaaDoorVE
