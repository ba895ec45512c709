import Derived.Test.YthngeddaeoeimaaDoorVeI
import Derived.CallsIn
import Derived.LoopNIn
import Derived.RangeFuncCalls
namespace Go.Proofs.YthngeddaeoeimaaDoorVE
open Go Go.RowKit
set_option linter.unusedVariables false
set_option linter.unusedSimpArgs false

/-! What is left of a call's ghost, for its caller. -/
section merge
variable {B : Base} {g g' gc : Gh} {st stc s st' : St} {w w' : World} {wr wrc : Wr}
/-- Of the ghost all but locations and tokens. -/
def Gh.bare (g : Gh) : Gh := { own := fun b o => match g.own b o with | .im v => .im v | _ => .other, base := g.base, ext := g.ext, reg := g.reg, nl := 0, nt := 0, obj := fun _ => none }
theorem SR.bare (h : SR B g st w) : SR B g.bare St.nil w := by
  have own' : ∀ b o, g.bare.own b o = match g.own b o with | .im v => .im v | _ => .other := fun _ _ => rfl
  refine ⟨rfl, rfl, h.old, fun b o v ho => ?_, fun b o l ho => ?_, fun b o t ho => ?_, fun l cs hl => ?_, fun t ht => ?_, fun l r hr => by cases hr⟩
  · rw [own'] at ho
    split at ho
    · rename_i u hu; cases ho; exact h.im b o _ hu
    · cases ho
  · rw [own'] at ho; split at ho <;> cases ho
  · rw [own'] at ho; split at ho <;> cases ho
  · simp [locAt, St.nil] at hl
  · cases ht
def Gh.backA (g g' : Gh) (n : Nat) : Gh :=
  { g with own := fun b o => if b < n then g.own b o else match g'.own b o with | .im v => .im v | _ => .other }
theorem mergeA (hs : SR B g st w) (hs' : SR B g' s w') (hf : Fr B ⟨0, none⟩ g.bare St.nil w g' s w') (wr : Wr) :
    Fr B wr g st w (g.backA g' w.heap.size) st w' ∧ SR B (g.backA g' w.heap.size) st w' ∧ Cut g' (g.backA g' w.heap.size) 0 0 := by
  have own' : ∀ b o, (g.backA g' w.heap.size).own b o = if b < w.heap.size then g.own b o else match g'.own b o with | .im v => .im v | _ => .other := fun _ _ => rfl
  have fixed : ∀ b o, b < w.heap.size → g'.own b o = g.bare.own b o ∧ w'.cell? ⟨b, o, none⟩ = w.cell? ⟨b, o, none⟩ := fun b o hb => hf.keep b o hb (by
    show Fixed _ _ (match g.own b o with | .im v => Owner.im v | _ => .other)
    cases g.own b o <;> trivial)
  have hle : Le g (g.backA g' w.heap.size) := ⟨fun b o v hv => by
    rw [own', if_pos (hs.size (by rw [hv]; exact fun e => by cases e))]; exact hv, Nat.le_refl _, Nat.le_refl _, fun _ _ => rfl, fun _ _ => rfl, fun _ _ => rfl, fun _ _ h => h⟩
  refine ⟨⟨hle, hf.below, Nat.le_refl _, fun _ _ _ => rfl, fun _ _ h => h, fun _ _ h => h, fun b o hb _ => ⟨by rw [own', if_pos hb], (fixed b o hb).2⟩, hf.fz, hf.there, fun b o l hx => ?_, hf.obj⟩, ⟨hs.nl, hs.nt, hs.old.trans hf.below, fun b o v ho => ?_, fun b o l ho => ?_, fun b o t ho => ?_, fun l cs hl => ?_, fun t ht => ?_, fun k r hr => ⟨(hs.obj k r hr).1, hf.obj k _ (hs.obj k r hr).2 rfl⟩⟩, ⟨fun b o v hv => ?_, Nat.zero_le _, Nat.zero_le _, fun l hl => by omega, fun l hl => by omega, fun t ht => by omega⟩⟩
  · rw [own'] at hx
    split at hx
    · exact .inl hx
    · split at hx <;> cases hx
  · rw [own'] at ho
    split at ho
    · rename_i hb
      rw [(fixed b o hb).2]
      exact hs.im b o v ho
    · split at ho
      · rename_i u hu; cases ho; exact hs'.im b o _ hu
      · cases ho
  · rw [own'] at ho
    split at ho
    · rename_i hb
      obtain ⟨h1, h2, h3, h4⟩ := hs.mloc b o l ho
      exact ⟨h1, h2, by rw [(fixed b o hb).2]; exact h3, by rw [hf.fz b o hb]; exact h4⟩
    · split at ho <;> cases ho
  · rw [own'] at ho
    split at ho
    · rename_i hb
      obtain ⟨h1, h2, h3, h4⟩ := hs.mspare b o t ho
      exact ⟨h1, h2, by rw [(fixed b o hb).2]; exact h3, by rw [hf.fz b o hb]; exact h4⟩
    · split at ho <;> cases ho
  · obtain ⟨h1, h2, us, h3, h4⟩ := hs.loc l cs hl
    refine ⟨h1, fun j hj => ?_, us, Reps.mono hle _ _ h3, fun j v hj => ?_⟩
    · have h5 : g.own (g.base l).1 ((g.base l).2 + j) = .loc l := h2 j hj
      show (g.backA g' w.heap.size).own (g.base l).1 ((g.base l).2 + j) = _
      rw [own', if_pos (hs.size (by rw [h5]; exact fun e => by cases e))]
      exact h5
    · have h5 := h4 j v hj
      show w'.cell? ⟨(g.base l).1, (g.base l).2 + j, none⟩ = _
      rw [(fixed _ _ (World.block_lt_of_cell? w _ h5)).2]
      exact h5
  · obtain ⟨h1, h2⟩ := hs.tok t ht
    refine ⟨h1, fun o h3 h4 => ?_⟩
    have h5 : g.own (g.reg t).1 o = .spare t := h2 o h3 h4
    show (g.backA g' w.heap.size).own (g.reg t).1 o = _
    rw [own', if_pos (hs.size (by rw [h5]; exact fun e => by cases e))]
    exact h5
  · rw [own']
    split
    · rename_i hb
      rw [(fixed b o hb).1] at hv
      have hv' : (match g.own b o with | .im v => Owner.im v | _ => .other) = .im v := hv
      split at hv'
      · rename_i u hu; cases hv'; exact hu
      · cases hv'
    · rw [hv]
def Gh.backB (g g' : Gh) (N : Nat) : Gh :=
  { g' with own := fun b o => match g'.own b o with | .spare t => if t < g.nt then .spare t else .other | .loc l => if l < N then .loc l else .other | x => x, nl := N, nt := g.nt }
theorem mergeB (hs : SR B g st w) (hs' : SR B g' s w') (hf : Fr B wrc g { st with live := [] } w g' s w') {N : Nat} (hN : st.locs.length ≤ N) (hN' : N ≤ s.locs.length)
    (hlen : st'.locs.length = N) (hlive : st'.live = st.live) (hnext : st'.next = st.next)
    (hloc : ∀ l cs, locAt st' l = some cs → (l < st.locs.length ∧ locAt st l = some cs ∧ wrc.ok l = false) ∨ ∃ ds, locAt s l = some ds ∧ cs = ds.map (stripFrom st.next) ∧ safes N st.next cs = true)
    (hkeep : ∀ l, l < st.locs.length → wr.ok l = false → wrc.ok l = false ∧ locAt st' l = locAt st l) (hdead : ∀ l, l < st.locs.length → locAt st l = none → locAt st' l = none) :
    Fr B wr g st w (g.backB g' N) st' w' ∧ SR B (g.backB g' N) st' w' ∧ Cut g' (g.backB g' N) N st.next := by
  have own' : ∀ b o, (g.backB g' N).own b o = match g'.own b o with | .spare t => if t < g.nt then .spare t else .other | .loc l => if l < N then .loc l else .other | x => x := fun _ _ => rfl
  have hgn := hs.nl
  have hgt := hs.nt
  -- what the call could not touch
  have fixed : ∀ b o, b < w.heap.size → (match g.own b o with | .loc l => wrc.ok l = false ∨ locAt st l = none | _ => True) → g'.own b o = g.own b o ∧ w'.cell? ⟨b, o, none⟩ = w.cell? ⟨b, o, none⟩ := fun b o hb hx => hf.keep b o hb (by
    cases ho : g.own b o with
    | other => trivial
    | im v => trivial
    | loc l => rw [ho] at hx; exact hx
    | spare t => exact fun hm => by cases hm)
  have same : ∀ b o, (match g.own b o with | .other => False | .loc l => wrc.ok l = false ∨ locAt st l = none | _ => True) → (g.backB g' N).own b o = g.own b o ∧ w'.cell? ⟨b, o, none⟩ = w.cell? ⟨b, o, none⟩ := fun b o hx => by
    have hb : b < w.heap.size := hs.size (by intro e; rw [e] at hx; exact hx)
    obtain ⟨h1, h2⟩ := fixed b o hb (by cases ho : g.own b o <;> rw [ho] at hx <;> first | trivial | exact hx)
    refine ⟨?_, h2⟩
    rw [own', h1]
    cases ho : g.own b o with
    | other => rfl
    | im v => rfl
    | loc l => simp only; rw [if_pos (by have := (hs.mloc b o l ho).1; omega)]
    | spare t => simp only; rw [if_pos (hs.mspare b o t ho).1]
  have hle : Le g (g.backB g' N) := by
    refine ⟨fun b o v hv => ?_, by show g.nl ≤ N; omega, Nat.le_refl _, fun l hl => hf.le.base l hl, fun l hl => hf.le.ext l hl, fun t ht => hf.le.reg t ht, hf.le.obj⟩
    rw [own', hf.le.im b o v hv]
  have hcut : Cut g' (g.backB g' N) N st.next := by
    refine ⟨fun b o v hv => by rw [own', hv], Nat.le_refl _, by show st.next ≤ g.nt; omega, fun _ _ => rfl, fun _ _ => rfl, fun _ _ => rfl⟩
  refine ⟨⟨hle, hf.below, by omega, fun l hl ho => (hkeep l hl ho).2, hdead, fun t _ hm => by rw [hlive] at hm; exact hm, fun b o hb hx => ?_, hf.fz, hf.there, fun b o l hx => ?_, hf.obj⟩, ⟨hlen.symm, by show g.nt = _; omega, hs.old.trans hf.below, fun b o v ho => ?_, fun b o l ho => ?_, fun b o t ho => ?_, fun l cs hl => ?_, fun t ht => ?_, hs'.obj⟩, hcut⟩
  · have hx' : (match g.own b o with | .loc l => wrc.ok l = false ∨ locAt st l = none | _ => True) := by
      cases ho : g.own b o with
      | loc l =>
        rw [ho] at hx
        have hl := (hs.mloc b o l ho).1
        exact hx.imp (fun h => (hkeep l (by omega) h).1) id
      | _ => trivial
    obtain ⟨h1, h2⟩ := fixed b o hb hx'
    refine ⟨?_, h2⟩
    rw [own', h1]
    cases ho : g.own b o with
    | other => rfl
    | im v => rfl
    | loc l => simp only; rw [if_pos (by have := (hs.mloc b o l ho).1; omega)]
    | spare t => simp only; rw [if_pos (hs.mspare b o t ho).1]
  · rw [own'] at hx
    split at hx
    · split at hx <;> cases hx
    · rename_i k hk
      split at hx
      · cases hx; exact hf.ol b o _ hk
      · cases hx
    · rename_i h1 h2
      exact absurd hx (h2 l)
  · rw [own'] at ho
    split at ho
    · split at ho <;> cases ho
    · split at ho <;> cases ho
    · exact hs'.im b o v ho
  · rw [own'] at ho
    split at ho
    · split at ho <;> cases ho
    · rename_i k hk
      split at ho
      · rename_i hkN
        cases ho
        obtain ⟨h1, h2, h3, h4⟩ := hs'.mloc b o _ hk
        exact ⟨hkN, h2, h3, h4⟩
      · cases ho
    · rename_i h1 h2
      exact absurd ho (h2 l)
  · rw [own'] at ho
    split at ho
    · rename_i k hk
      split at ho
      · rename_i hkt
        cases ho
        obtain ⟨h1, h2, h3, h4⟩ := hs'.mspare b o _ hk
        exact ⟨hkt, h2, h3, h4⟩
      · cases ho
    · split at ho <;> cases ho
    · rename_i h1 h2
      exact absurd ho (h1 t)
  · rcases hloc l cs hl with ⟨hlt, hl', hwr⟩ | ⟨ds, hds, rfl, hsafe⟩
    · obtain ⟨h1, h2, us, h3, h4⟩ := hs.loc l cs hl'
      rw [hle.ext l (by omega), hle.base l (by omega)]
      refine ⟨h1, fun j hj => ?_, us, Reps.mono hle _ _ h3, fun j v hj => ?_⟩
      · have h5 := h2 j hj
        rw [(same _ _ (by rw [h5]; exact .inl hwr)).1]; exact h5
      · have hj2 : j < cs.length := by rw [← h3.length]; exact (List.getElem?_eq_some_iff.1 hj).1
        have h5 := h2 j (by omega)
        rw [(same _ _ (by rw [h5]; exact .inl hwr)).2]
        exact h4 j v hj
    · obtain ⟨h1, h2, us, h3, h4⟩ := hs'.loc l ds hds
      have hlN : l < N := by rw [← hlen]; exact locAt_lt hl
      refine ⟨by show (ds.map (stripFrom st.next)).length ≤ g'.ext l; simpa using h1, fun j hj => ?_, us, ?_, h4⟩
      · have h5 : g'.own (g'.base l).1 ((g'.base l).2 + j) = .loc l := h2 j hj
        show (g.backB g' N).own (g'.base l).1 ((g'.base l).2 + j) = _
        rw [own', h5]
        simp [hlN]
      · exact Reps.cut hcut _ _ hsafe (h3.map fun _ _ h => h.stripFrom)
  · rw [hlive] at ht
    obtain ⟨h1, h2⟩ := hs.tok t ht
    rw [hle.reg t h1]
    refine ⟨h1, fun o h3 h4 => ?_⟩
    have h5 := h2 o h3 h4
    rw [(same _ _ (by rw [h5]; trivial)).1]
    exact h5
end merge


/-! What lay in a location is left unchanged from here on. -/
def Gh.still (g : Gh) (l : Nat) (w : World) : Gh :=
  { g with own := fun b o => if b = (g.base l).1 ∧ (g.base l).2 ≤ o ∧ o < (g.base l).2 + g.ext l then (match w.cell? ⟨b, o, none⟩ with | some v => .im v | none => .other) else g.own b o }
section still
variable {B : Base} {g : Gh} {st : St} {w : World} {l : Nat} {cs : List PV}
theorem still_loc (h : SR B g st w) (hl : locAt st l = some cs) {b o : Nat} (hb : b = (g.base l).1 ∧ (g.base l).2 ≤ o ∧ o < (g.base l).2 + g.ext l) : g.own b o = .loc l := by
  obtain ⟨h1, h2, _⟩ := h.loc l cs hl
  obtain ⟨rfl, h3, h4⟩ := hb
  have := h2 (o - (g.base l).2) (by omega)
  rwa [show (g.base l).2 + (o - (g.base l).2) = o by omega] at this
theorem le_still (h : SR B g st w) (hl : locAt st l = some cs) : Le g (g.still l w) where
  im := fun b o v hv => by
    simp only [Gh.still]
    split
    · rename_i hb; rw [still_loc h hl hb] at hv; cases hv
    · exact hv
  nl := Nat.le_refl _
  nt := Nat.le_refl _
  base := fun _ _ => rfl
  ext := fun _ _ => rfl
  reg := fun _ _ => rfl
  obj := fun _ _ h => h
theorem SR.still (h : SR B g st w) (hl : locAt st l = some cs) : SR B (g.still l w) (killSt st l) w where
  nl := by simp [Gh.still, killSt, h.nl]
  nt := h.nt
  old := h.old
  obj := h.obj
  im := fun b o v hv => by
    simp only [Gh.still] at hv
    split at hv
    · split at hv
      · rename_i u hu; cases hv; exact hu
      · cases hv
    · exact h.im b o v hv
  mloc := fun b o k hk => by
    simp only [Gh.still] at hk
    split at hk
    · split at hk <;> cases hk
    · exact h.mloc b o k hk
  mspare := fun b o k hk => by
    simp only [Gh.still] at hk
    split at hk
    · split at hk <;> cases hk
    · exact h.mspare b o k hk
  loc := fun k ds hk => by
    by_cases e : l = k
    · subst e; rw [locAt_kill_same] at hk; cases hk
    · rw [locAt_kill_other e] at hk
      obtain ⟨h1, h2, vals, h3, h4⟩ := h.loc k ds hk
      refine ⟨h1, fun j hj => ?_, vals, Reps.mono (le_still h hl) _ _ h3, h4⟩
      have := h2 j hj
      simp only [Gh.still]
      split
      · rename_i hb; have h5 := still_loc h hl hb; rw [h2 j hj] at h5; simp only [Owner.loc.injEq] at h5; exact absurd h5.symm e
      · exact this
  tok := fun t ht => by
    obtain ⟨h1, h2⟩ := h.tok t ht
    refine ⟨h1, fun o ho ho' => ?_⟩
    have := h2 o ho ho'
    simp only [Gh.still]
    split
    · rename_i hb; rw [still_loc h hl hb] at this; cases this
    · exact this
theorem Fr.still {wr : Wr} (h : SR B g st w) (hl : locAt st l = some cs) (hw : wr.ok l = true) : Fr B wr g st w (g.still l w) (killSt st l) w where
  le := le_still h hl
  below := Below.refl B w
  len := by simp [killSt]
  locs := fun k hk hok => locAt_kill_other (fun e => by subst e; rw [hw] at hok; cases hok)
  dead := fun k hk hn => by
    by_cases e : l = k
    · subst e; exact locAt_kill_same st l
    · rw [locAt_kill_other e]; exact hn
  live := fun _ _ h => h
  keep := fun b o _ hf => by
    refine ⟨?_, rfl⟩
    simp only [Gh.still]
    split
    · rename_i hb
      rw [still_loc h hl hb] at hf
      simp only [Fixed, hl, hw, reduceCtorEq, or_self] at hf
    · rfl
  obj := fun _ _ h _ => h
  fz := fun _ _ _ => rfl
  there := fun _ _ h => h
  ol := fun b o k hk => by
    simp only [Gh.still] at hk
    split at hk
    · split at hk <;> cases hk
    · exact .inl hk
theorem frz1_ok {wr : Wr} (h : SR B g st w) {p q : PV} {v : Value} {st' : St} (hr : Rep g p v) (he : frz1 wr p st = (q, st')) : ∃ g', Fr B wr g st w g' st' w ∧ SR B g' st' w ∧ Rep g' q v := by
  have triv : (p, st) = (q, st') → ∃ g', Fr B wr g st w g' st' w ∧ SR B g' st' w ∧ Rep g' q v := fun he => by
    cases he; exact ⟨g, Fr.refl .., h, hr⟩
  unfold frz1 at he
  split at he
  · rename_i l sz off len
    split at he
    · rename_i cs hl
      split at he
      · rename_i hc
        simp only [Prod.mk.injEq] at he
        obtain ⟨rfl, rfl⟩ := he
        refine ⟨g.still l w, Fr.still h hl hc.1, SR.still h hl, ?_⟩
        obtain ⟨h1, h2, vals, h3, h4⟩ := h.loc l cs hl
        rw [Rep] at hr
        obtain ⟨cap, rfl, h5, h6, h7⟩ := hr
        obtain ⟨c1, c2, c3⟩ := chunk_ok sz len (cs.drop off) (by simp; omega)
        rw [Rep]
        refine .inr ⟨(g.base l).1, (g.base l).2 + off, sz, cap, (vals.drop off).take (len * sz), ?_, ?_, ?_, ?_, ?_, trivial⟩
        · simp only [stripRow, List.length_map, c3]
        · intro c hc
          simp only [stripRow, List.mem_map] at hc
          obtain ⟨d, hd, rfl⟩ := hc
          simpa using c2 d hd
        · intro j v hv
          rw [List.getElem?_take] at hv
          split at hv
          · rename_i hj
            rw [List.getElem?_drop] at hv
            have hle := (List.getElem?_eq_some_iff.1 hv).1
            rw [h3.length] at hle
            have hcell := h4 (off + j) v hv
            rw [← Nat.add_assoc] at hcell
            simp only [Gh.still]
            rw [if_pos ⟨trivial, by omega, by omega⟩, hcell]
          · cases hv
        · rw [Repss_iff]
          refine Reps.stripRow ?_
          rw [c1]
          exact ((Reps.mono (le_still h hl) _ _ h3).drop off).take _
        · simp only [stripRow, List.length_map, c3]; exact h6
      · exact triv he
    · exact triv he
  · exact triv he
theorem frzs_ok {wr : Wr} {f : PV → St → PV × St} {fs : List PV → St → List PV × St} (hnil : ∀ st, fs [] st = ([], st)) (hcons : ∀ p ps st, fs (p :: ps) st = (match f p st with | (q, st1) => match fs ps st1 with | (qs, st2) => (q :: qs, st2)))
    (hf : ∀ {g : Gh} {st : St} {p q : PV} {v : Value} {st' : St}, SR B g st w → Rep g p v → f p st = (q, st') → ∃ g', Fr B wr g st w g' st' w ∧ SR B g' st' w ∧ Rep g' q v) : ∀ (ps : List PV) (g : Gh) (st : St) (qs : List PV) (vs : List Value) (st' : St), SR B g st w → Reps g ps vs → fs ps st = (qs, st') → ∃ g', Fr B wr g st w g' st' w ∧ SR B g' st' w ∧ Reps g' qs vs
  | [], g, st, qs, vs, st', h, hr, he => by
    rw [hnil] at he
    cases he
    exact ⟨g, Fr.refl .., h, hr⟩
  | p :: ps, g, st, qs, vs, st', h, hr, he => by
    simp only [Reps] at hr
    obtain ⟨v, vs', rfl, h1, h2⟩ := hr
    rw [hcons] at he
    cases e1 : f p st with
    | mk q st1 =>
      rw [e1] at he
      simp only at he
      cases e2 : fs ps st1 with
      | mk qs2 st2 =>
        rw [e2] at he
        simp only [Prod.mk.injEq] at he
        obtain ⟨rfl, rfl⟩ := he
        obtain ⟨g1, f1, s1, r1⟩ := hf h h1 e1
        obtain ⟨g2, f2, s2, r2⟩ := frzs_ok hnil hcons hf ps g1 st1 qs2 vs' st2 s1 (Reps.mono f1.le _ _ h2) e2
        exact ⟨g2, f1.trans h s1 f2, s2, by simp only [Reps]; exact ⟨v, vs', rfl, Rep.mono f2.le _ _ r1, r2⟩⟩
theorem frz2_ok {wr : Wr} {g : Gh} {st : St} (h : SR B g st w) {p q : PV} {v : Value} {st' : St} (hr : Rep g p v) (he : frz2 wr p st = (q, st')) : ∃ g', Fr B wr g st w g' st' w ∧ SR B g' st' w ∧ Rep g' q v := by
  unfold frz2 at he
  split at he
  · rename_i cs
    cases e : frzs wr cs st with
    | mk qs s =>
      rw [e] at he
      simp only [Prod.mk.injEq] at he
      obtain ⟨rfl, rfl⟩ := he
      rw [Rep] at hr
      obtain ⟨vs, rfl, hv⟩ := hr
      obtain ⟨g', f1, s1, r1⟩ := frzs_ok (wr := wr) (f := frz1 wr) (fs := frzs wr) (fun _ => rfl) (fun _ _ _ => rfl) (fun h hr he => frz1_ok h hr he) cs g st qs vs s h hv e
      exact ⟨g', f1, s1, by rw [Rep]; exact ⟨vs, rfl, r1⟩⟩
  · exact frz1_ok h hr he
theorem frz3_ok {wr : Wr} {g : Gh} {st : St} (h : SR B g st w) {p q : PV} {v : Value} {st' : St} (hr : Rep g p v) (he : frz3 wr p st = (q, st')) : ∃ g', Fr B wr g st w g' st' w ∧ SR B g' st' w ∧ Rep g' q v := by
  unfold frz3 at he
  split at he
  · rename_i cs
    cases e : frzs2 wr cs st with
    | mk qs s =>
      rw [e] at he
      simp only [Prod.mk.injEq] at he
      obtain ⟨rfl, rfl⟩ := he
      rw [Rep] at hr
      obtain ⟨vs, rfl, hv⟩ := hr
      obtain ⟨g', f1, s1, r1⟩ := frzs_ok (wr := wr) (f := frz2 wr) (fs := frzs2 wr) (fun _ => rfl) (fun _ _ _ => rfl) (fun h hr he => frz2_ok h hr he) cs g st qs vs s h hv e
      exact ⟨g', f1, s1, by rw [Rep]; exact ⟨vs, rfl, r1⟩⟩
  · exact frz2_ok h hr he
end still

/-- What a call answers. -/
def Post (B : Base) (wr : Wr) (g : Gh) (st : St) (w : World) (p : PV) (st' : St) (e : Ending) (w' : World) : Prop :=
  ∃ v g', e = .returned v ∧ Fr B wr g st w g' st' w' ∧ SR B g' st' w' ∧ Rep g' p v
def CallOk (P : Program) (call : Call) (B : Base) : Prop := ∀ f args wr st p st', call (.fn f) args wr st = some (p, st') → ∀ g w vs, SR B g st w → Reps g args vs → Calls P f vs.toArray w (Post B wr g st w p st')
def PrimOk (C : Cfg) (B : Base) : Prop := ∀ f args p, C.prim f args = some p → ∀ wr g st w vs, SR B g st w → Reps g args vs → Calls C.P f vs.toArray w (Post B wr g st w p st)

theorem Calls.post {P : Program} {f : FuncId} {args : Array Value} {w : World} {R R' : Ending → World → Prop} (h : Calls P f args w R) (k : ∀ e w', R e w' → R' e w') : Calls P f args w R' := h.mono k

section calls
variable {C : Cfg} {call : Call} {B : Base} {g : Gh} {st st' : St} {w : World} {wr : Wr}
theorem rd_merge (hs : SR B g st w) {g' : Gh} {s : St} {w' : World} (hs' : SR B g' s w') (hf : Fr B ⟨st.locs.length, none⟩ g { st with live := [] } w g' s w') (wr : Wr) :
    Fr B wr g st w (g.backB g' st.locs.length) st w' ∧ SR B (g.backB g' st.locs.length) st w' ∧ Cut g' (g.backB g' st.locs.length) st.locs.length st.next := by
  refine mergeB hs hs' hf (Nat.le_refl _) hf.len rfl rfl rfl (fun l cs hl => .inl ⟨locAt_lt hl, hl, ?_⟩) (fun l hl _ => ⟨?_, rfl⟩) (fun _ _ h => h)
  · have := locAt_lt hl
    simp [Wr.ok]; omega
  · simp [Wr.ok]; omega
theorem locAt_map {st : St} {l : Nat} {f : List PV → List PV} : (((st.locs.map (Option.map f))[l]?).join) = (locAt st l).map f := by
  unfold locAt
  rw [List.getElem?_map]
  cases st.locs[l]? with
  | none => rfl
  | some o => cases o <;> rfl
theorem locAt_append_left {ls ms : List (Option (List PV))} {l : Nat} (h : l < ls.length) : ((ls ++ ms)[l]?).join = (ls[l]?).join := by rw [List.getElem?_append_left h]
theorem callBy_ok (hc : CallOk C.P call B) (hp : PrimOk C B) {f : FuncId} {args : List PV} {p : PV} (h : callBy C call wr f args st = some (p, st')) (hs : SR B g st w) {vs : List Value} (ha : Reps g args vs) :
    Calls C.P f vs.toArray w (Post B wr g st w p st') := by
  have ha2 : Reps g (args.map PV.strip2) vs := ha.map fun _ _ h => h.strip2
  unfold callBy at h
  split at h
  · rename_i r hr
    simp only [Option.some.injEq, Prod.mk.injEq] at h
    obtain ⟨rfl, rfl⟩ := h
    exact hp _ _ _ hr wr g st w vs hs ha2
  · split at h
    · -- pure
      split at h
      · rename_i hsafe
        split at h
        · rename_i r s hcall
          split at h
          · rename_i hr
            simp only [Option.some.injEq, Prod.mk.injEq] at h
            obtain ⟨rfl, rfl⟩ := h
            have hab : Reps g.bare (args.map PV.strip2) vs := by
              refine Reps.cut (n := 0) (t := 0) ⟨fun b o v hv => ?_, Nat.zero_le _, Nat.zero_le _, fun _ h => by omega, fun _ h => by omega, fun _ h => by omega⟩ _ _ hsafe ha2
              show (match g.own b o with | .im v => Owner.im v | _ => .other) = _
              rw [hv]
            refine Calls.post (hc _ _ _ _ _ _ hcall g.bare w vs hs.bare hab) ?_
            rintro e w' ⟨v, g', rfl, hf, hs', hrep⟩
            obtain ⟨h1, h2, h3⟩ := mergeA hs hs' hf wr
            exact ⟨v, _, rfl, h1, h2, Rep.cut h3 _ _ hr hrep.strip2⟩
          · cases h
        · cases h
      · cases h
    · -- rd
      split at h
      · rename_i r s hcall
        split at h
        · rename_i hr
          simp only [Option.some.injEq, Prod.mk.injEq] at h
          obtain ⟨rfl, rfl⟩ := h
          refine Calls.post (hc _ _ _ _ _ _ hcall g w vs (hs.less fun t ht => by cases ht) ha2) ?_
          rintro e w' ⟨v, g', rfl, hf, hs', hrep⟩
          obtain ⟨h1, h2, h3⟩ := rd_merge hs hs' hf wr
          exact ⟨v, _, rfl, h1, h2, Rep.cut h3 _ _ hr hrep.strip2⟩
        · cases h
      · cases h
    · -- loc
      split at h
      · rename_i l hl
        unfold callLoc at h
        split at h
        · rename_i hok
          obtain ⟨hok, hlt⟩ := hok
          split at h
          · rename_i r s hcall
            split at h
            · rename_i cs hcs
              have okc : ∀ k, (⟨st.locs.length, some l⟩ : Wr).ok k = false ↔ k < st.locs.length ∧ k ≠ l := fun k => by
                simp only [Wr.ok, Bool.or_eq_false_iff, decide_eq_false_iff_not, Nat.not_le, beq_eq_false_iff_ne, ne_eq, Option.some.injEq]
                exact ⟨fun h => ⟨h.1, fun e => h.2 e.symm⟩, fun h => ⟨h.1, fun e => h.2 e.symm⟩⟩
              split at h
              · rename_i hsafe
                simp only [Bool.and_eq_true] at hsafe
                simp only [Option.some.injEq, Prod.mk.injEq] at h
                obtain ⟨rfl, rfl⟩ := h
                refine Calls.post (hc _ _ _ _ _ _ hcall g w vs (hs.less fun t ht => by cases ht) ha2) ?_
                rintro e w' ⟨v, g', rfl, hf, hs', hrep⟩
                obtain ⟨h1, h2, h3⟩ := mergeB (wr := wr) (N := st.locs.length) (st' := { st with locs := st.locs.set l (some (cs.map (stripFrom st.next))) }) hs hs' hf (Nat.le_refl _) hf.len (by simp) rfl rfl
                  (fun k ds hk => by
                    by_cases e : l = k
                    · subst e
                      rw [locAt_set_same hlt] at hk
                      simp only [Option.some.injEq] at hk
                      subst hk
                      exact .inr ⟨cs, hcs, rfl, hsafe.2⟩
                    · rw [locAt_set_other e] at hk
                      exact .inl ⟨locAt_lt hk, hk, (okc k).2 ⟨locAt_lt hk, fun h => e h.symm⟩⟩)
                  (fun k hk hkw => by
                    have e : l ≠ k := fun e => by subst e; rw [hok] at hkw; cases hkw
                    exact ⟨(okc k).2 ⟨hk, fun h => e h.symm⟩, locAt_set_other e⟩)
                  (fun k hk hn => by
                    by_cases e : l = k
                    · subst e
                      have := hf.dead l hk hn
                      rw [hcs] at this; cases this
                    · rw [locAt_set_other e]; exact hn)
                exact ⟨v, _, rfl, h1, h2, Rep.cut h3 _ _ hsafe.1 hrep.strip2⟩
              · split at h
                · rename_i hsafe
                  simp only [Bool.and_eq_true] at hsafe
                  obtain ⟨hs1, hs2⟩ := hsafe
                  simp only [Option.some.injEq, Prod.mk.injEq] at h
                  obtain ⟨rfl, rfl⟩ := h
                  refine Calls.post (hc _ _ _ _ _ _ hcall g w vs (hs.less fun t ht => by cases ht) ha2) ?_
                  rintro e w' ⟨v, g', rfl, hf, hs', hrep⟩
                  have hlen := hf.len
                  simp only at hlen
                  -- the locations behind the call
                  have hsl : ∀ k ds, locAt s k = some ds → safes s.locs.length st.next (ds.map (stripFrom st.next)) = true := fun k ds hk => by
                    rw [List.all_eq_true] at hs2
                    have hm : (some (ds.map (stripFrom st.next))) ∈ s.locs.map (Option.map (List.map (stripFrom st.next))) := by
                      rw [List.mem_map]
                      refine ⟨some ds, ?_, rfl⟩
                      unfold locAt at hk
                      cases hx : s.locs[k]? with
                      | none => rw [hx] at hk; cases hk
                      | some o =>
                        rw [hx] at hk
                        have : o = some ds := hk
                        rw [← this]
                        exact List.mem_of_getElem? hx
                    exact hs2 _ hm
                  have at1 : ∀ k, k < st.locs.length → locAt { st with locs := st.locs.set l (some (cs.map (stripFrom st.next))) ++ (s.locs.drop st.locs.length).map (Option.map (List.map (stripFrom st.next))) } k = locAt { st with locs := st.locs.set l (some (cs.map (stripFrom st.next))) } k := fun k hk => by
                    unfold locAt
                    exact locAt_append_left (by simpa using hk)
                  have at2 : ∀ k ds, st.locs.length ≤ k → locAt { st with locs := st.locs.set l (some (cs.map (stripFrom st.next))) ++ (s.locs.drop st.locs.length).map (Option.map (List.map (stripFrom st.next))) } k = some ds → ∃ es, locAt s k = some es ∧ ds = es.map (stripFrom st.next) := fun k ds hk hx => by
                    unfold locAt at hx
                    rw [List.getElem?_append_right (by simpa using hk), List.getElem?_map, List.getElem?_drop, List.length_set, show st.locs.length + (k - st.locs.length) = k by omega] at hx
                    unfold locAt
                    cases ho : s.locs[k]? with
                    | none => rw [ho] at hx; cases hx
                    | some o =>
                      rw [ho] at hx
                      cases o with
                      | none => cases hx
                      | some es =>
                        refine ⟨es, rfl, ?_⟩
                        have : some (es.map (stripFrom st.next)) = some ds := hx
                        exact (Option.some.inj this).symm
                  obtain ⟨h1, h2, h3⟩ := mergeB (wr := wr) (N := s.locs.length) (st' := { st with locs := st.locs.set l (some (cs.map (stripFrom st.next))) ++ (s.locs.drop st.locs.length).map (Option.map (List.map (stripFrom st.next))) }) hs hs' hf hlen (Nat.le_refl _) (by simp; omega) rfl rfl
                    (fun k ds hk => by
                      rcases Nat.lt_or_ge k st.locs.length with hkl | hkl
                      · rw [at1 k hkl] at hk
                        by_cases e : l = k
                        · subst e
                          rw [locAt_set_same hlt] at hk
                          simp only [Option.some.injEq] at hk
                          subst hk
                          exact .inr ⟨cs, hcs, rfl, hsl _ _ hcs⟩
                        · rw [locAt_set_other e] at hk
                          exact .inl ⟨hkl, hk, (okc k).2 ⟨hkl, fun h => e h.symm⟩⟩
                      · obtain ⟨es, h4, h5⟩ := at2 k ds hkl hk
                        exact .inr ⟨es, h4, h5, by rw [h5]; exact hsl _ _ h4⟩)
                    (fun k hk hkw => by
                      have e : l ≠ k := fun e => by subst e; rw [hok] at hkw; cases hkw
                      exact ⟨(okc k).2 ⟨hk, fun h => e h.symm⟩, by rw [at1 k hk, locAt_set_other e]⟩)
                    (fun k hk hn => by
                      rw [at1 k hk]
                      by_cases e : l = k
                      · subst e
                        have := hf.dead l hk hn
                        rw [hcs] at this; cases this
                      · rw [locAt_set_other e]; exact hn)
                  exact ⟨v, _, rfl, h1, h2, Rep.cut h3 _ _ hs1 hrep.strip2⟩
                · cases h
            · cases h
          · cases h
        · cases h
      · cases h
    · -- keep
      exact hc _ _ _ _ _ _ h g w vs hs ha
end calls
end Go.Proofs.YthngeddaeoeimaaDoorVE
