import Derived.Test.YtlkaoiceehlkmaaVeF1
import Derived.CallsIn
import Derived.LoopNIn
import Derived.RangeFuncCalls
import Derived.RangeFuncRecord
import Derived.RangeFuncIn
import Derived.RangeFuncLeaves
namespace Go.Proofs.YtlkaoiceehlkmaaVE
open Go Go.RowKit
set_option linter.unusedVariables false
set_option linter.unusedSimpArgs false

/-! What is left of a call's ghost, for its caller. -/
section merge
variable {B : Base} {g g' gc : Gh} {st stc s st' : St} {w w' : World} {wr wrc : Wr}
/-- Of the ghost all but locations and tokens. -/
def Gh.bare (g : Gh) : Gh := { own := fun b o => match g.own b o with | .im v => .im v | _ => .other, base := g.base, ext := g.ext, reg := g.reg, nl := 0, nt := 0, obj := fun _ => none }
theorem SR.bare (h : SR B g st w) : SR B g.bare St.nil w := by
  have own' : ∀ b o, g.bare.own b o = match g.own b o with | .im v => .im v | _ => .other := fun _ _ => rfl
  refine ⟨rfl, rfl, h.old, fun b o v ho => ?_, fun b o l ho => ?_, fun b o t ho => ?_, fun l cs hl => ?_, fun t ht => ?_, fun l r hr => by cases hr⟩
  · rw [own'] at ho
    split at ho
    · rename_i u hu; cases ho; exact h.im b o _ hu
    · cases ho
  · rw [own'] at ho; split at ho <;> cases ho
  · rw [own'] at ho; split at ho <;> cases ho
  · simp [locAt, St.nil] at hl
  · cases ht
def Gh.backA (g g' : Gh) (n : Nat) : Gh :=
  { g with own := fun b o => if b < n then g.own b o else match g'.own b o with | .im v => .im v | _ => .other }
theorem mergeA (hs : SR B g st w) (hs' : SR B g' s w') (hf : Fr B ⟨0, none⟩ g.bare St.nil w g' s w') (wr : Wr) :
    Fr B wr g st w (g.backA g' w.heap.size) st w' ∧ SR B (g.backA g' w.heap.size) st w' ∧ Cut g' (g.backA g' w.heap.size) 0 0 := by
  have own' : ∀ b o, (g.backA g' w.heap.size).own b o = if b < w.heap.size then g.own b o else match g'.own b o with | .im v => .im v | _ => .other := fun _ _ => rfl
  have fixed : ∀ b o, b < w.heap.size → g'.own b o = g.bare.own b o ∧ w'.cell? ⟨b, o, none⟩ = w.cell? ⟨b, o, none⟩ := fun b o hb => hf.keep b o hb (by
    show Fixed _ _ (match g.own b o with | .im v => Owner.im v | _ => .other)
    cases g.own b o <;> trivial)
  have hle : Le g (g.backA g' w.heap.size) := ⟨fun b o v hv => by
    rw [own', if_pos (hs.size (by rw [hv]; exact fun e => by cases e))]; exact hv, Nat.le_refl _, Nat.le_refl _, fun _ _ => rfl, fun _ _ => rfl, fun _ _ => rfl, fun _ _ h => h⟩
  refine ⟨⟨hle, hf.below, Nat.le_refl _, fun _ _ _ => rfl, fun _ _ h => h, fun _ _ h => h, fun b o hb _ => ⟨by rw [own', if_pos hb], (fixed b o hb).2⟩, hf.fz, hf.there, fun b o l hx => ?_, hf.obj⟩, ⟨hs.nl, hs.nt, hs.old.trans hf.below, fun b o v ho => ?_, fun b o l ho => ?_, fun b o t ho => ?_, fun l cs hl => ?_, fun t ht => ?_, fun k r hr => ⟨(hs.obj k r hr).1, hf.obj k _ (hs.obj k r hr).2 rfl⟩⟩, ⟨fun b o v hv => ?_, Nat.zero_le _, Nat.zero_le _, fun l hl => by omega, fun l hl => by omega, fun t ht => by omega⟩⟩
  · rw [own'] at hx
    split at hx
    · exact .inl hx
    · split at hx <;> cases hx
  · rw [own'] at ho
    split at ho
    · rename_i hb
      rw [(fixed b o hb).2]
      exact hs.im b o v ho
    · split at ho
      · rename_i u hu; cases ho; exact hs'.im b o _ hu
      · cases ho
  · rw [own'] at ho
    split at ho
    · rename_i hb
      obtain ⟨h1, h2, h3, h4⟩ := hs.mloc b o l ho
      exact ⟨h1, h2, by rw [(fixed b o hb).2]; exact h3, by rw [hf.fz b o hb]; exact h4⟩
    · split at ho <;> cases ho
  · rw [own'] at ho
    split at ho
    · rename_i hb
      obtain ⟨h1, h2, h3, h4⟩ := hs.mspare b o t ho
      exact ⟨h1, h2, by rw [(fixed b o hb).2]; exact h3, by rw [hf.fz b o hb]; exact h4⟩
    · split at ho <;> cases ho
  · obtain ⟨h1, h2, us, h3, h4⟩ := hs.loc l cs hl
    refine ⟨h1, fun j hj => ?_, us, Reps.mono hle _ _ h3, fun j v hj => ?_⟩
    · have h5 : g.own (g.base l).1 ((g.base l).2 + j) = .loc l := h2 j hj
      show (g.backA g' w.heap.size).own (g.base l).1 ((g.base l).2 + j) = _
      rw [own', if_pos (hs.size (by rw [h5]; exact fun e => by cases e))]
      exact h5
    · have h5 := h4 j v hj
      show w'.cell? ⟨(g.base l).1, (g.base l).2 + j, none⟩ = _
      rw [(fixed _ _ (World.block_lt_of_cell? w _ h5)).2]
      exact h5
  · obtain ⟨h1, h2⟩ := hs.tok t ht
    refine ⟨h1, fun o h3 h4 => ?_⟩
    have h5 : g.own (g.reg t).1 o = .spare t := h2 o h3 h4
    show (g.backA g' w.heap.size).own (g.reg t).1 o = _
    rw [own', if_pos (hs.size (by rw [h5]; exact fun e => by cases e))]
    exact h5
  · rw [own']
    split
    · rename_i hb
      rw [(fixed b o hb).1] at hv
      have hv' : (match g.own b o with | .im v => Owner.im v | _ => .other) = .im v := hv
      split at hv'
      · rename_i u hu; cases hv'; exact hu
      · cases hv'
    · rw [hv]
def Gh.backB (g g' : Gh) (N : Nat) : Gh :=
  { g' with own := fun b o => match g'.own b o with | .spare t => if t < g.nt then .spare t else .other | .loc l => if l < N then .loc l else .other | x => x, nl := N, nt := g.nt }
theorem mergeB (hs : SR B g st w) (hs' : SR B g' s w') (hf : Fr B wrc g { st with live := [] } w g' s w') {N : Nat} (hN : st.locs.length ≤ N) (hN' : N ≤ s.locs.length)
    (hlen : st'.locs.length = N) (hlive : st'.live = st.live) (hnext : st'.next = st.next)
    (hloc : ∀ l cs, locAt st' l = some cs → (l < st.locs.length ∧ locAt st l = some cs ∧ wrc.ok l = false) ∨ ∃ ds, locAt s l = some ds ∧ cs = ds.map (stripFrom st.next) ∧ safes N st.next cs = true)
    (hkeep : ∀ l, l < st.locs.length → wr.ok l = false → wrc.ok l = false ∧ locAt st' l = locAt st l) (hdead : ∀ l, l < st.locs.length → locAt st l = none → locAt st' l = none) :
    Fr B wr g st w (g.backB g' N) st' w' ∧ SR B (g.backB g' N) st' w' ∧ Cut g' (g.backB g' N) N st.next := by
  have own' : ∀ b o, (g.backB g' N).own b o = match g'.own b o with | .spare t => if t < g.nt then .spare t else .other | .loc l => if l < N then .loc l else .other | x => x := fun _ _ => rfl
  have hgn := hs.nl
  have hgt := hs.nt
  -- what the call could not touch
  have fixed : ∀ b o, b < w.heap.size → (match g.own b o with | .loc l => wrc.ok l = false ∨ locAt st l = none | _ => True) → g'.own b o = g.own b o ∧ w'.cell? ⟨b, o, none⟩ = w.cell? ⟨b, o, none⟩ := fun b o hb hx => hf.keep b o hb (by
    cases ho : g.own b o with
    | other => trivial
    | im v => trivial
    | loc l => rw [ho] at hx; exact hx
    | spare t => exact fun hm => by cases hm)
  have same : ∀ b o, (match g.own b o with | .other => False | .loc l => wrc.ok l = false ∨ locAt st l = none | _ => True) → (g.backB g' N).own b o = g.own b o ∧ w'.cell? ⟨b, o, none⟩ = w.cell? ⟨b, o, none⟩ := fun b o hx => by
    have hb : b < w.heap.size := hs.size (by intro e; rw [e] at hx; exact hx)
    obtain ⟨h1, h2⟩ := fixed b o hb (by cases ho : g.own b o <;> rw [ho] at hx <;> first | trivial | exact hx)
    refine ⟨?_, h2⟩
    rw [own', h1]
    cases ho : g.own b o with
    | other => rfl
    | im v => rfl
    | loc l => simp only; rw [if_pos (by have := (hs.mloc b o l ho).1; omega)]
    | spare t => simp only; rw [if_pos (hs.mspare b o t ho).1]
  have hle : Le g (g.backB g' N) := by
    refine ⟨fun b o v hv => ?_, by show g.nl ≤ N; omega, Nat.le_refl _, fun l hl => hf.le.base l hl, fun l hl => hf.le.ext l hl, fun t ht => hf.le.reg t ht, hf.le.obj⟩
    rw [own', hf.le.im b o v hv]
  have hcut : Cut g' (g.backB g' N) N st.next := by
    refine ⟨fun b o v hv => by rw [own', hv], Nat.le_refl _, by show st.next ≤ g.nt; omega, fun _ _ => rfl, fun _ _ => rfl, fun _ _ => rfl⟩
  refine ⟨⟨hle, hf.below, by omega, fun l hl ho => (hkeep l hl ho).2, hdead, fun t _ hm => by rw [hlive] at hm; exact hm, fun b o hb hx => ?_, hf.fz, hf.there, fun b o l hx => ?_, hf.obj⟩, ⟨hlen.symm, by show g.nt = _; omega, hs.old.trans hf.below, fun b o v ho => ?_, fun b o l ho => ?_, fun b o t ho => ?_, fun l cs hl => ?_, fun t ht => ?_, hs'.obj⟩, hcut⟩
  · have hx' : (match g.own b o with | .loc l => wrc.ok l = false ∨ locAt st l = none | _ => True) := by
      cases ho : g.own b o with
      | loc l =>
        rw [ho] at hx
        have hl := (hs.mloc b o l ho).1
        exact hx.imp (fun h => (hkeep l (by omega) h).1) id
      | _ => trivial
    obtain ⟨h1, h2⟩ := fixed b o hb hx'
    refine ⟨?_, h2⟩
    rw [own', h1]
    cases ho : g.own b o with
    | other => rfl
    | im v => rfl
    | loc l => simp only; rw [if_pos (by have := (hs.mloc b o l ho).1; omega)]
    | spare t => simp only; rw [if_pos (hs.mspare b o t ho).1]
  · rw [own'] at hx
    split at hx
    · split at hx <;> cases hx
    · rename_i k hk
      split at hx
      · cases hx; exact hf.ol b o _ hk
      · cases hx
    · rename_i h1 h2
      exact absurd hx (h2 l)
  · rw [own'] at ho
    split at ho
    · split at ho <;> cases ho
    · split at ho <;> cases ho
    · exact hs'.im b o v ho
  · rw [own'] at ho
    split at ho
    · split at ho <;> cases ho
    · rename_i k hk
      split at ho
      · rename_i hkN
        cases ho
        obtain ⟨h1, h2, h3, h4⟩ := hs'.mloc b o _ hk
        exact ⟨hkN, h2, h3, h4⟩
      · cases ho
    · rename_i h1 h2
      exact absurd ho (h2 l)
  · rw [own'] at ho
    split at ho
    · rename_i k hk
      split at ho
      · rename_i hkt
        cases ho
        obtain ⟨h1, h2, h3, h4⟩ := hs'.mspare b o _ hk
        exact ⟨hkt, h2, h3, h4⟩
      · cases ho
    · split at ho <;> cases ho
    · rename_i h1 h2
      exact absurd ho (h1 t)
  · rcases hloc l cs hl with ⟨hlt, hl', hwr⟩ | ⟨ds, hds, rfl, hsafe⟩
    · obtain ⟨h1, h2, us, h3, h4⟩ := hs.loc l cs hl'
      rw [hle.ext l (by omega), hle.base l (by omega)]
      refine ⟨h1, fun j hj => ?_, us, Reps.mono hle _ _ h3, fun j v hj => ?_⟩
      · have h5 := h2 j hj
        rw [(same _ _ (by rw [h5]; exact .inl hwr)).1]; exact h5
      · have hj2 : j < cs.length := by rw [← h3.length]; exact (List.getElem?_eq_some_iff.1 hj).1
        have h5 := h2 j (by omega)
        rw [(same _ _ (by rw [h5]; exact .inl hwr)).2]
        exact h4 j v hj
    · obtain ⟨h1, h2, us, h3, h4⟩ := hs'.loc l ds hds
      have hlN : l < N := by rw [← hlen]; exact locAt_lt hl
      refine ⟨by show (ds.map (stripFrom st.next)).length ≤ g'.ext l; simpa using h1, fun j hj => ?_, us, ?_, h4⟩
      · have h5 : g'.own (g'.base l).1 ((g'.base l).2 + j) = .loc l := h2 j hj
        show (g.backB g' N).own (g'.base l).1 ((g'.base l).2 + j) = _
        rw [own', h5]
        simp [hlN]
      · exact Reps.cut hcut _ _ hsafe (h3.map fun _ _ h => h.stripFrom)
  · rw [hlive] at ht
    obtain ⟨h1, h2⟩ := hs.tok t ht
    rw [hle.reg t h1]
    refine ⟨h1, fun o h3 h4 => ?_⟩
    have h5 := h2 o h3 h4
    rw [(same _ _ (by rw [h5]; trivial)).1]
    exact h5
end merge


/-! What lay in a location is left unchanged from here on. -/
def Gh.still (g : Gh) (l : Nat) (w : World) : Gh :=
  { g with own := fun b o => if b = (g.base l).1 ∧ (g.base l).2 ≤ o ∧ o < (g.base l).2 + g.ext l then (match w.cell? ⟨b, o, none⟩ with | some v => .im v | none => .other) else g.own b o }
section still
variable {B : Base} {g : Gh} {st : St} {w : World} {l : Nat} {cs : List PV}
theorem still_loc (h : SR B g st w) (hl : locAt st l = some cs) {b o : Nat} (hb : b = (g.base l).1 ∧ (g.base l).2 ≤ o ∧ o < (g.base l).2 + g.ext l) : g.own b o = .loc l := by
  obtain ⟨h1, h2, _⟩ := h.loc l cs hl
  obtain ⟨rfl, h3, h4⟩ := hb
  have := h2 (o - (g.base l).2) (by omega)
  rwa [show (g.base l).2 + (o - (g.base l).2) = o by omega] at this
theorem le_still (h : SR B g st w) (hl : locAt st l = some cs) : Le g (g.still l w) where
  im := fun b o v hv => by
    simp only [Gh.still]
    split
    · rename_i hb; rw [still_loc h hl hb] at hv; cases hv
    · exact hv
  nl := Nat.le_refl _
  nt := Nat.le_refl _
  base := fun _ _ => rfl
  ext := fun _ _ => rfl
  reg := fun _ _ => rfl
  obj := fun _ _ h => h
theorem SR.still (h : SR B g st w) (hl : locAt st l = some cs) : SR B (g.still l w) (killSt st l) w where
  nl := by simp [Gh.still, killSt, h.nl]
  nt := h.nt
  old := h.old
  obj := h.obj
  im := fun b o v hv => by
    simp only [Gh.still] at hv
    split at hv
    · split at hv
      · rename_i u hu; cases hv; exact hu
      · cases hv
    · exact h.im b o v hv
  mloc := fun b o k hk => by
    simp only [Gh.still] at hk
    split at hk
    · split at hk <;> cases hk
    · exact h.mloc b o k hk
  mspare := fun b o k hk => by
    simp only [Gh.still] at hk
    split at hk
    · split at hk <;> cases hk
    · exact h.mspare b o k hk
  loc := fun k ds hk => by
    by_cases e : l = k
    · subst e; rw [locAt_kill_same] at hk; cases hk
    · rw [locAt_kill_other e] at hk
      obtain ⟨h1, h2, vals, h3, h4⟩ := h.loc k ds hk
      refine ⟨h1, fun j hj => ?_, vals, Reps.mono (le_still h hl) _ _ h3, h4⟩
      have := h2 j hj
      simp only [Gh.still]
      split
      · rename_i hb; have h5 := still_loc h hl hb; rw [h2 j hj] at h5; simp only [Owner.loc.injEq] at h5; exact absurd h5.symm e
      · exact this
  tok := fun t ht => by
    obtain ⟨h1, h2⟩ := h.tok t ht
    refine ⟨h1, fun o ho ho' => ?_⟩
    have := h2 o ho ho'
    simp only [Gh.still]
    split
    · rename_i hb; rw [still_loc h hl hb] at this; cases this
    · exact this
theorem Fr.still {wr : Wr} (h : SR B g st w) (hl : locAt st l = some cs) (hw : wr.ok l = true) : Fr B wr g st w (g.still l w) (killSt st l) w where
  le := le_still h hl
  below := Below.refl B w
  len := by simp [killSt]
  locs := fun k hk hok => locAt_kill_other (fun e => by subst e; rw [hw] at hok; cases hok)
  dead := fun k hk hn => by
    by_cases e : l = k
    · subst e; exact locAt_kill_same st l
    · rw [locAt_kill_other e]; exact hn
  live := fun _ _ h => h
  keep := fun b o _ hf => by
    refine ⟨?_, rfl⟩
    simp only [Gh.still]
    split
    · rename_i hb
      rw [still_loc h hl hb] at hf
      simp only [Fixed, hl, hw, reduceCtorEq, or_self] at hf
    · rfl
  obj := fun _ _ h _ => h
  fz := fun _ _ _ => rfl
  there := fun _ _ h => h
  ol := fun b o k hk => by
    simp only [Gh.still] at hk
    split at hk
    · split at hk <;> cases hk
    · exact .inl hk
theorem frz1_ok {wr : Wr} (h : SR B g st w) {p q : PV} {v : Value} {st' : St} (hr : Rep g p v) (he : frz1 wr p st = (q, st')) : ∃ g', Fr B wr g st w g' st' w ∧ SR B g' st' w ∧ Rep g' q v := by
  have triv : (p, st) = (q, st') → ∃ g', Fr B wr g st w g' st' w ∧ SR B g' st' w ∧ Rep g' q v := fun he => by
    cases he; exact ⟨g, Fr.refl .., h, hr⟩
  unfold frz1 at he
  split at he
  · rename_i l sz off len
    split at he
    · rename_i cs hl
      split at he
      · rename_i hc
        simp only [Prod.mk.injEq] at he
        obtain ⟨rfl, rfl⟩ := he
        refine ⟨g.still l w, Fr.still h hl hc.1, SR.still h hl, ?_⟩
        obtain ⟨h1, h2, vals, h3, h4⟩ := h.loc l cs hl
        rw [Rep] at hr
        obtain ⟨cap, rfl, h5, h6, h7⟩ := hr
        obtain ⟨c1, c2, c3⟩ := chunk_ok sz len (cs.drop off) (by simp; omega)
        rw [Rep]
        refine .inr ⟨(g.base l).1, (g.base l).2 + off, sz, cap, (vals.drop off).take (len * sz), ?_, ?_, ?_, ?_, ?_, trivial⟩
        · simp only [stripRow, List.length_map, c3]
        · intro c hc
          simp only [stripRow, List.mem_map] at hc
          obtain ⟨d, hd, rfl⟩ := hc
          simpa using c2 d hd
        · intro j v hv
          rw [List.getElem?_take] at hv
          split at hv
          · rename_i hj
            rw [List.getElem?_drop] at hv
            have hle := (List.getElem?_eq_some_iff.1 hv).1
            rw [h3.length] at hle
            have hcell := h4 (off + j) v hv
            rw [← Nat.add_assoc] at hcell
            simp only [Gh.still]
            rw [if_pos ⟨trivial, by omega, by omega⟩, hcell]
          · cases hv
        · rw [Repss_iff]
          refine Reps.stripRow ?_
          rw [c1]
          exact ((Reps.mono (le_still h hl) _ _ h3).drop off).take _
        · simp only [stripRow, List.length_map, c3]; exact h6
      · exact triv he
    · exact triv he
  · exact triv he
theorem frzs_ok {wr : Wr} {f : PV → St → PV × St} {fs : List PV → St → List PV × St} (hnil : ∀ st, fs [] st = ([], st)) (hcons : ∀ p ps st, fs (p :: ps) st = (match f p st with | (q, st1) => match fs ps st1 with | (qs, st2) => (q :: qs, st2)))
    (hf : ∀ {g : Gh} {st : St} {p q : PV} {v : Value} {st' : St}, SR B g st w → Rep g p v → f p st = (q, st') → ∃ g', Fr B wr g st w g' st' w ∧ SR B g' st' w ∧ Rep g' q v) : ∀ (ps : List PV) (g : Gh) (st : St) (qs : List PV) (vs : List Value) (st' : St), SR B g st w → Reps g ps vs → fs ps st = (qs, st') → ∃ g', Fr B wr g st w g' st' w ∧ SR B g' st' w ∧ Reps g' qs vs
  | [], g, st, qs, vs, st', h, hr, he => by
    rw [hnil] at he
    cases he
    exact ⟨g, Fr.refl .., h, hr⟩
  | p :: ps, g, st, qs, vs, st', h, hr, he => by
    simp only [Reps] at hr
    obtain ⟨v, vs', rfl, h1, h2⟩ := hr
    rw [hcons] at he
    cases e1 : f p st with
    | mk q st1 =>
      rw [e1] at he
      simp only at he
      cases e2 : fs ps st1 with
      | mk qs2 st2 =>
        rw [e2] at he
        simp only [Prod.mk.injEq] at he
        obtain ⟨rfl, rfl⟩ := he
        obtain ⟨g1, f1, s1, r1⟩ := hf h h1 e1
        obtain ⟨g2, f2, s2, r2⟩ := frzs_ok hnil hcons hf ps g1 st1 qs2 vs' st2 s1 (Reps.mono f1.le _ _ h2) e2
        exact ⟨g2, f1.trans h s1 f2, s2, by simp only [Reps]; exact ⟨v, vs', rfl, Rep.mono f2.le _ _ r1, r2⟩⟩
theorem frz2_ok {wr : Wr} {g : Gh} {st : St} (h : SR B g st w) {p q : PV} {v : Value} {st' : St} (hr : Rep g p v) (he : frz2 wr p st = (q, st')) : ∃ g', Fr B wr g st w g' st' w ∧ SR B g' st' w ∧ Rep g' q v := by
  unfold frz2 at he
  split at he
  · rename_i cs
    cases e : frzs wr cs st with
    | mk qs s =>
      rw [e] at he
      simp only [Prod.mk.injEq] at he
      obtain ⟨rfl, rfl⟩ := he
      rw [Rep] at hr
      obtain ⟨vs, rfl, hv⟩ := hr
      obtain ⟨g', f1, s1, r1⟩ := frzs_ok (wr := wr) (f := frz1 wr) (fs := frzs wr) (fun _ => rfl) (fun _ _ _ => rfl) (fun h hr he => frz1_ok h hr he) cs g st qs vs s h hv e
      exact ⟨g', f1, s1, by rw [Rep]; exact ⟨vs, rfl, r1⟩⟩
  · exact frz1_ok h hr he
theorem frz3_ok {wr : Wr} {g : Gh} {st : St} (h : SR B g st w) {p q : PV} {v : Value} {st' : St} (hr : Rep g p v) (he : frz3 wr p st = (q, st')) : ∃ g', Fr B wr g st w g' st' w ∧ SR B g' st' w ∧ Rep g' q v := by
  unfold frz3 at he
  split at he
  · rename_i cs
    cases e : frzs2 wr cs st with
    | mk qs s =>
      rw [e] at he
      simp only [Prod.mk.injEq] at he
      obtain ⟨rfl, rfl⟩ := he
      rw [Rep] at hr
      obtain ⟨vs, rfl, hv⟩ := hr
      obtain ⟨g', f1, s1, r1⟩ := frzs_ok (wr := wr) (f := frz2 wr) (fs := frzs2 wr) (fun _ => rfl) (fun _ _ _ => rfl) (fun h hr he => frz2_ok h hr he) cs g st qs vs s h hv e
      exact ⟨g', f1, s1, by rw [Rep]; exact ⟨vs, rfl, r1⟩⟩
  · exact frz2_ok h hr he
end still

/-- What a call answers. -/
def Post (B : Base) (wr : Wr) (g : Gh) (st : St) (w : World) (p : PV) (st' : St) (e : Ending) (w' : World) : Prop :=
  ∃ v g', e = .returned v ∧ Fr B wr g st w g' st' w' ∧ SR B g' st' w' ∧ Rep g' p v
def CallOk (P : Program) (call : Call) (B : Base) : Prop := ∀ f args wr st p st', call (.fn f) args wr st = some (p, st') → ∀ g w vs, SR B g st w → Reps g args vs → Calls P f vs.toArray w (Post B wr g st w p st')
def PrimOk (C : Cfg) (B : Base) : Prop := ∀ f args p, C.prim f args = some p → ∀ wr g st w vs, SR B g st w → Reps g args vs → Calls C.P f vs.toArray w (Post B wr g st w p st)

theorem Calls.post {P : Program} {f : FuncId} {args : Array Value} {w : World} {R R' : Ending → World → Prop} (h : Calls P f args w R) (k : ∀ e w', R e w' → R' e w') : Calls P f args w R' := h.mono k

section calls
variable {C : Cfg} {call : Call} {B : Base} {g : Gh} {st st' : St} {w : World} {wr : Wr}
theorem rd_merge (hs : SR B g st w) {g' : Gh} {s : St} {w' : World} (hs' : SR B g' s w') (hf : Fr B ⟨st.locs.length, none⟩ g { st with live := [] } w g' s w') (wr : Wr) :
    Fr B wr g st w (g.backB g' st.locs.length) st w' ∧ SR B (g.backB g' st.locs.length) st w' ∧ Cut g' (g.backB g' st.locs.length) st.locs.length st.next := by
  refine mergeB hs hs' hf (Nat.le_refl _) hf.len rfl rfl rfl (fun l cs hl => .inl ⟨locAt_lt hl, hl, ?_⟩) (fun l hl _ => ⟨?_, rfl⟩) (fun _ _ h => h)
  · have := locAt_lt hl
    simp [Wr.ok]; omega
  · simp [Wr.ok]; omega
theorem locAt_map {st : St} {l : Nat} {f : List PV → List PV} : (((st.locs.map (Option.map f))[l]?).join) = (locAt st l).map f := by
  unfold locAt
  rw [List.getElem?_map]
  cases st.locs[l]? with
  | none => rfl
  | some o => cases o <;> rfl
theorem locAt_append_left {ls ms : List (Option (List PV))} {l : Nat} (h : l < ls.length) : ((ls ++ ms)[l]?).join = (ls[l]?).join := by rw [List.getElem?_append_left h]
theorem callBy_ok (hc : CallOk C.P call B) (hp : PrimOk C B) {f : FuncId} {args : List PV} {p : PV} (h : callBy C call wr f args st = some (p, st')) (hs : SR B g st w) {vs : List Value} (ha : Reps g args vs) :
    Calls C.P f vs.toArray w (Post B wr g st w p st') := by
  have ha2 : Reps g (args.map PV.strip2) vs := ha.map fun _ _ h => h.strip2
  unfold callBy at h
  split at h
  · rename_i r hr
    simp only [Option.some.injEq, Prod.mk.injEq] at h
    obtain ⟨rfl, rfl⟩ := h
    exact hp _ _ _ hr wr g st w vs hs ha2
  · split at h
    · -- pure
      split at h
      · rename_i hsafe
        split at h
        · rename_i r s hcall
          split at h
          · rename_i hr
            simp only [Option.some.injEq, Prod.mk.injEq] at h
            obtain ⟨rfl, rfl⟩ := h
            have hab : Reps g.bare (args.map PV.strip2) vs := by
              refine Reps.cut (n := 0) (t := 0) ⟨fun b o v hv => ?_, Nat.zero_le _, Nat.zero_le _, fun _ h => by omega, fun _ h => by omega, fun _ h => by omega⟩ _ _ hsafe ha2
              show (match g.own b o with | .im v => Owner.im v | _ => .other) = _
              rw [hv]
            refine Calls.post (hc _ _ _ _ _ _ hcall g.bare w vs hs.bare hab) ?_
            rintro e w' ⟨v, g', rfl, hf, hs', hrep⟩
            obtain ⟨h1, h2, h3⟩ := mergeA hs hs' hf wr
            exact ⟨v, _, rfl, h1, h2, Rep.cut h3 _ _ hr hrep.strip2⟩
          · cases h
        · cases h
      · cases h
    · -- rd
      split at h
      · rename_i r s hcall
        split at h
        · rename_i hr
          simp only [Option.some.injEq, Prod.mk.injEq] at h
          obtain ⟨rfl, rfl⟩ := h
          refine Calls.post (hc _ _ _ _ _ _ hcall g w vs (hs.less fun t ht => by cases ht) ha2) ?_
          rintro e w' ⟨v, g', rfl, hf, hs', hrep⟩
          obtain ⟨h1, h2, h3⟩ := rd_merge hs hs' hf wr
          exact ⟨v, _, rfl, h1, h2, Rep.cut h3 _ _ hr hrep.strip2⟩
        · cases h
      · cases h
    · -- loc
      split at h
      · rename_i l hl
        unfold callLoc at h
        split at h
        · rename_i hok
          obtain ⟨hok, hlt⟩ := hok
          split at h
          · rename_i r s hcall
            split at h
            · rename_i cs hcs
              have okc : ∀ k, (⟨st.locs.length, some l⟩ : Wr).ok k = false ↔ k < st.locs.length ∧ k ≠ l := fun k => by
                simp only [Wr.ok, Bool.or_eq_false_iff, decide_eq_false_iff_not, Nat.not_le, beq_eq_false_iff_ne, ne_eq, Option.some.injEq]
                exact ⟨fun h => ⟨h.1, fun e => h.2 e.symm⟩, fun h => ⟨h.1, fun e => h.2 e.symm⟩⟩
              split at h
              · rename_i hsafe
                simp only [Bool.and_eq_true] at hsafe
                simp only [Option.some.injEq, Prod.mk.injEq] at h
                obtain ⟨rfl, rfl⟩ := h
                refine Calls.post (hc _ _ _ _ _ _ hcall g w vs (hs.less fun t ht => by cases ht) ha2) ?_
                rintro e w' ⟨v, g', rfl, hf, hs', hrep⟩
                obtain ⟨h1, h2, h3⟩ := mergeB (wr := wr) (N := st.locs.length) (st' := { st with locs := st.locs.set l (some (cs.map (stripFrom st.next))) }) hs hs' hf (Nat.le_refl _) hf.len (by simp) rfl rfl
                  (fun k ds hk => by
                    by_cases e : l = k
                    · subst e
                      rw [locAt_set_same hlt] at hk
                      simp only [Option.some.injEq] at hk
                      subst hk
                      exact .inr ⟨cs, hcs, rfl, hsafe.2⟩
                    · rw [locAt_set_other e] at hk
                      exact .inl ⟨locAt_lt hk, hk, (okc k).2 ⟨locAt_lt hk, fun h => e h.symm⟩⟩)
                  (fun k hk hkw => by
                    have e : l ≠ k := fun e => by subst e; rw [hok] at hkw; cases hkw
                    exact ⟨(okc k).2 ⟨hk, fun h => e h.symm⟩, locAt_set_other e⟩)
                  (fun k hk hn => by
                    by_cases e : l = k
                    · subst e
                      have := hf.dead l hk hn
                      rw [hcs] at this; cases this
                    · rw [locAt_set_other e]; exact hn)
                exact ⟨v, _, rfl, h1, h2, Rep.cut h3 _ _ hsafe.1 hrep.strip2⟩
              · split at h
                · rename_i hsafe
                  simp only [Bool.and_eq_true] at hsafe
                  obtain ⟨hs1, hs2⟩ := hsafe
                  simp only [Option.some.injEq, Prod.mk.injEq] at h
                  obtain ⟨rfl, rfl⟩ := h
                  refine Calls.post (hc _ _ _ _ _ _ hcall g w vs (hs.less fun t ht => by cases ht) ha2) ?_
                  rintro e w' ⟨v, g', rfl, hf, hs', hrep⟩
                  have hlen := hf.len
                  simp only at hlen
                  -- the locations behind the call
                  have hsl : ∀ k ds, locAt s k = some ds → safes s.locs.length st.next (ds.map (stripFrom st.next)) = true := fun k ds hk => by
                    rw [List.all_eq_true] at hs2
                    have hm : (some (ds.map (stripFrom st.next))) ∈ s.locs.map (Option.map (List.map (stripFrom st.next))) := by
                      rw [List.mem_map]
                      refine ⟨some ds, ?_, rfl⟩
                      unfold locAt at hk
                      cases hx : s.locs[k]? with
                      | none => rw [hx] at hk; cases hk
                      | some o =>
                        rw [hx] at hk
                        have : o = some ds := hk
                        rw [← this]
                        exact List.mem_of_getElem? hx
                    exact hs2 _ hm
                  have at1 : ∀ k, k < st.locs.length → locAt { st with locs := st.locs.set l (some (cs.map (stripFrom st.next))) ++ (s.locs.drop st.locs.length).map (Option.map (List.map (stripFrom st.next))) } k = locAt { st with locs := st.locs.set l (some (cs.map (stripFrom st.next))) } k := fun k hk => by
                    unfold locAt
                    exact locAt_append_left (by simpa using hk)
                  have at2 : ∀ k ds, st.locs.length ≤ k → locAt { st with locs := st.locs.set l (some (cs.map (stripFrom st.next))) ++ (s.locs.drop st.locs.length).map (Option.map (List.map (stripFrom st.next))) } k = some ds → ∃ es, locAt s k = some es ∧ ds = es.map (stripFrom st.next) := fun k ds hk hx => by
                    unfold locAt at hx
                    rw [List.getElem?_append_right (by simpa using hk), List.getElem?_map, List.getElem?_drop, List.length_set, show st.locs.length + (k - st.locs.length) = k by omega] at hx
                    unfold locAt
                    cases ho : s.locs[k]? with
                    | none => rw [ho] at hx; cases hx
                    | some o =>
                      rw [ho] at hx
                      cases o with
                      | none => cases hx
                      | some es =>
                        refine ⟨es, rfl, ?_⟩
                        have : some (es.map (stripFrom st.next)) = some ds := hx
                        exact (Option.some.inj this).symm
                  obtain ⟨h1, h2, h3⟩ := mergeB (wr := wr) (N := s.locs.length) (st' := { st with locs := st.locs.set l (some (cs.map (stripFrom st.next))) ++ (s.locs.drop st.locs.length).map (Option.map (List.map (stripFrom st.next))) }) hs hs' hf hlen (Nat.le_refl _) (by simp; omega) rfl rfl
                    (fun k ds hk => by
                      rcases Nat.lt_or_ge k st.locs.length with hkl | hkl
                      · rw [at1 k hkl] at hk
                        by_cases e : l = k
                        · subst e
                          rw [locAt_set_same hlt] at hk
                          simp only [Option.some.injEq] at hk
                          subst hk
                          exact .inr ⟨cs, hcs, rfl, hsl _ _ hcs⟩
                        · rw [locAt_set_other e] at hk
                          exact .inl ⟨hkl, hk, (okc k).2 ⟨hkl, fun h => e h.symm⟩⟩
                      · obtain ⟨es, h4, h5⟩ := at2 k ds hkl hk
                        exact .inr ⟨es, h4, h5, by rw [h5]; exact hsl _ _ h4⟩)
                    (fun k hk hkw => by
                      have e : l ≠ k := fun e => by subst e; rw [hok] at hkw; cases hkw
                      exact ⟨(okc k).2 ⟨hk, fun h => e h.symm⟩, by rw [at1 k hk, locAt_set_other e]⟩)
                    (fun k hk hn => by
                      rw [at1 k hk]
                      by_cases e : l = k
                      · subst e
                        have := hf.dead l hk hn
                        rw [hcs] at this; cases this
                      · rw [locAt_set_other e]; exact hn)
                  exact ⟨v, _, rfl, h1, h2, Rep.cut h3 _ _ hs1 hrep.strip2⟩
                · cases h
            · cases h
          · cases h
        · cases h
      · cases h
    · -- keep
      exact hc _ _ _ _ _ _ h g w vs hs ha
end calls
end Go.Proofs.YtlkaoiceehlkmaaVE

namespace Go.Proofs.YtlkaoiceehlkmaaVE
open Go Go.RowKit
set_option linter.unusedVariables false
set_option linter.unusedSimpArgs false

/-- All functions, any depth; in a round or in none. -/
def Fw (r : Option Nat) : Fence := { fn := fun _ => True, depth := none, alive := false, round := r }
theorem Fw_calls {r : Option Nat} {n : Nat} {P : Program} {f : FuncId} {args : Array Value} {w : World} {R : Ending → World → Prop} (h : Calls P f args w R) : CallsIn (Fw r) n P f args w R :=
  (callsIn_wide (n := n)).2 h

/-- What a round answers. -/
def YlOk (P : Program) (call : Call) (B : Base) : Prop := ∀ f tm ps asg bd args wr st p st', call (.yl f tm ps asg bd) args wr st = some (p, st') →
  ∀ (r : Option Nat) (n : Nat) g w l (rec : Go.Loop), SR B g st w → g.obj l = some rec → rec.state = .ready → rec.pending = none → rec.params = ps → rec.assign = asg → rec.body = bd → Reps g tm rec.tmps.toList →
  ∀ vs, Reps g args vs → vs.length = ps.size ∧ RoundIn (Fw r) n P l rec.fn ((rec.params.zip vs.toArray).foldl (fun tmps x => tmps.setIfInBounds x.1 x.2) rec.tmps) rec.assign rec.body w (Post B wr g st w p st')
/-- A function with a body. -/
def Bodied (P : Program) (f : FuncId) : Prop := ∃ fn, P.funcs[f]? = some fn ∧ fn.body.isNone = false
def CallHas (P : Program) (call : Call) : Prop := ∀ f args wr st r, call (.fn f) args wr st = some r → Bodied P f
def PrimHas (C : Cfg) : Prop := ∀ f args p, C.prim f args = some p → Bodied C.P f
def Plain (P : Program) : Prop := ∀ (f : FuncId) (fn : Func), P.funcs[f]? = some fn → fn.name ≠ "runtime.NumGoroutine"
theorem callBy_has {C : Cfg} {call : Call} (hc : CallHas C.P call) (hp : PrimHas C) {wr : Wr} {f : FuncId} {args : List PV} {st : St} {r : PV × St} (h : callBy C call wr f args st = some r) : Bodied C.P f := by
  unfold callBy at h
  split at h
  · rename_i p hp'; exact hp _ _ _ hp'
  · split at h
    · split at h
      · split at h
        · rename_i hcall; exact hc _ _ _ _ _ hcall
        · cases h
      · cases h
    · split at h
      · rename_i hcall; exact hc _ _ _ _ _ hcall
      · cases h
    · split at h
      · unfold callLoc at h
        split at h
        · split at h
          · rename_i hcall; exact hc _ _ _ _ _ hcall
          · cases h
        · cases h
      · cases h
    · exact hc _ _ _ _ _ h

section ops
variable {C : Cfg} {call : Call} {B : Base} {g : Gh} {st st' : St} {w : World} {wr : Wr} {tm : List PV} {a : Act} {o : Oper}
theorem wp_value {r : Option Nat} {n : Nat} {K : Act → World → Prop} {Q : Exit → Act → World → Prop} (hd : ∀ c, o.op ≠ .defer c) {v : Value} {w' : World} (h : (execOp a.eval o).run C.P w = .ok (.value v) w') (hK : K (a.put o.dst v) w') : o.wpIn (Fw r) n C.P a w K Q := by
  refine ⟨fun _ _ => trivial, ?_⟩
  rw [Oper.semAt_eq _ _ _ hd, h]
  exact hK
theorem wp_unit {r : Option Nat} {n : Nat} {K : Act → World → Prop} {Q : Exit → Act → World → Prop} (hd : ∀ c, o.op ≠ .defer c) {w' : World} (h : (execOp a.eval o).run C.P w = .ok .skip w') (hK : K (a.put o.dst undef) w') : o.wpIn (Fw r) n C.P a w K Q := by
  refine ⟨fun _ _ => trivial, ?_⟩
  rw [Oper.semAt_eq _ _ _ hd, h]
  exact hK
theorem parts_rep (ht : Reps g tm a.tmps.toList) (ps : Array (Nat × Operand)) : (ps.toList.map fun p => (p.1, PV.ev tm p.2)).length = (ps.map fun (i, x) => (i, a.eval x)).size ∧
    ∀ (j : Nat) (p : Nat × PV) (v : Nat × Value), (ps.toList.map fun p => (p.1, PV.ev tm p.2))[j]? = some p → (ps.map fun (i, x) => (i, a.eval x))[j]? = some v → p.1 = v.1 ∧ Rep g p.2 v.2 := by
  refine ⟨by simp, fun j p v hp hv => ?_⟩
  rw [List.getElem?_map] at hp
  rw [Array.getElem?_map] at hv
  simp only [Array.getElem?_toList, Option.map_eq_some_iff] at hp hv
  obtain ⟨q, hq, rfl⟩ := hp
  obtain ⟨q', hq', rfl⟩ := hv
  rw [hq] at hq'
  cases hq'
  exact ⟨rfl, Rep.ev ht _⟩
theorem reps_ev (ht : Reps g tm a.tmps.toList) : ∀ l : List Operand, Reps g (l.map (PV.ev tm)) (l.map a.eval)
  | [] => rfl
  | x :: l => by simp only [List.map_cons, Reps]; exact ⟨_, _, rfl, Rep.ev ht x, reps_ev ht l⟩
theorem optRep_ev (ht : Reps g tm a.tmps.toList) : ∀ x : Option Operand, OptRep g (x.map (PV.ev tm)) (x.map a.eval)
  | none => trivial
  | some x => Rep.ev ht x
theorem evOp_ok (hc : CallOk C.P call B) (hy : YlOk C.P call B) (hp : PrimOk C B) (hch : CallHas C.P call) (hph : PrimHas C) (hpl : Plain C.P) {f : FuncId} {p : PV} (h : evOp C call f wr tm st o = some (p, st')) (hs : SR B g st w) (ht : Reps g tm a.tmps.toList)
    {r : Option Nat} {n : Nat} {K : Act → World → Prop} {Q : Exit → Act → World → Prop} (hK : ∀ v w' g', Fr B wr g st w g' st' w' → SR B g' st' w' → Rep g' p v → K (a.put o.dst v) w') : o.wpIn (Fw r) n C.P a w K Q := by
  -- an operation that leaves world and state alone
  have quiet : ∀ {q : Option PV}, withSt st q = some (p, st') → (∀ c, o.op ≠ .defer c) → (∀ p', q = some p' → ∃ v, (execOp a.eval o).run C.P w = .ok (.value v) w ∧ Rep g p' v) → o.wpIn (Fw r) n C.P a w K Q := by
    intro q hq hd hv
    unfold withSt at hq
    rw [Option.map_eq_some_iff] at hq
    obtain ⟨p', hq', heq⟩ := hq
    simp only [Prod.mk.injEq] at heq
    obtain ⟨rfl, rfl⟩ := heq
    obtain ⟨v, h1, h2⟩ := hv _ hq'
    exact wp_value hd h1 (hK v w g (Fr.refl ..) hs h2)
  have quiet1 : (∀ c, o.op ≠ .defer c) → (∃ v, (execOp a.eval o).run C.P w = .ok (.value v) w ∧ Rep g p v) → st' = st → o.wpIn (Fw r) n C.P a w K Q := by
    rintro hd ⟨v, h1, h2⟩ rfl
    exact wp_value hd h1 (hK v w g (Fr.refl ..) hs h2)
  have flat : evFlat C.P tm o = some p → flatKind o.op = true → ∃ v, (execOp a.eval o).run C.P w = .ok (.value v) w ∧ Rep g p v := fun h1 h2 => flat_ok h1 h2 ht
  unfold evOp at h
  split at h
  case h_1 x ho =>
    simp only [Option.some.injEq, Prod.mk.injEq] at h
    obtain ⟨rfl, rfl⟩ := h
    exact quiet1 (by simp [ho]) ⟨a.eval x, by simp [execOp, ho], Rep.ev ht x⟩ rfl
  case h_2 x ho =>
    simp only [Option.some.injEq, Prod.mk.injEq] at h
    obtain ⟨rfl, rfl⟩ := h
    exact quiet1 (by simp [ho]) ⟨a.eval x, by simp [execOp, ho], Rep.ev ht x⟩ rfl
  case h_3 t ho =>
    obtain ⟨v, w', g', h1, h2, h3, h4⟩ := alloc_ok (P := C.P) hs wr h
    exact wp_value (by simp [ho]) (v := v) (w' := w') (by simp [execOp, ho, h1]) (hK v w' g' h2 h3 h4)
  case h_4 t x ho =>
    obtain ⟨v, w', g', h1, h2, h3, h4⟩ := box_ok (P := C.P) (t := t) hs wr h (Rep.ev ht x)
    exact wp_value (by simp [ho]) (v := v) (w' := w') (by simp [execOp, ho, h1]) (hK v w' g' h2 h3 h4)
  case h_5 t ps ho =>
    refine quiet h (by simp [ho]) fun p' hp' => ?_
    obtain ⟨hl, hpp⟩ := parts_rep ht ps
    obtain ⟨v, h1, h2⟩ := build_ok hp' hl hpp w
    exact ⟨v, by simp only [execOp, ho, Sem.run_bind, h1, Result.andThen_ok, Sem.run_pure], h2⟩
  case h_6 t len ps ho =>
    obtain ⟨hl, hpp⟩ := parts_rep ht ps
    obtain ⟨v, w', g', h1, h2, h3, h4⟩ := buildSlice_ok (P := C.P) hs wr h hl hpp
    exact wp_value (by simp [ho]) (v := v) (w' := w') (by simp only [execOp, ho, Sem.run_bind, h1, Result.andThen_ok, Sem.run_pure]) (hK v w' g' h2 h3 h4)
  case h_7 t x ho =>
    refine quiet h (by simp [ho]) fun p' hp' => ?_
    obtain ⟨v, h1, h2⟩ := load_ok hs hp' (Rep.ev ht x)
    exact ⟨v, by simp [execOp, ho, h1], h2⟩
  case h_8 t x y ho =>
    rw [Option.map_eq_some_iff] at h
    obtain ⟨s, h1, h2⟩ := h
    simp only [Prod.mk.injEq] at h2
    obtain ⟨rfl, rfl⟩ := h2
    obtain ⟨w', h3, h4, h5⟩ := store_ok hs h1 (Rep.ev ht x) (Rep.ev ht y)
    exact wp_unit (by simp [ho]) (w' := w') (by simp [execOp, ho, h3]) (hK undef w' g h4 h5 (Rep.ofFlat rfl))
  case h_9 x ho =>
    refine quiet h (by simp [ho]) fun p' hp' => ?_
    exact ⟨_, nilCheck_ok hp' (Rep.ev ht x) ho rfl⟩
  case h_10 t x ho =>
    split at h
    · cases h
    · cases h
    · rename_i d hnot hu
      split at h
      · simp only [Option.some.injEq, Prod.mk.injEq] at h
        obtain ⟨rfl, rfl⟩ := h
        refine quiet1 (by simp [ho]) ⟨.iface t (a.eval x), ?_, by rw [Rep]; exact ⟨_, rfl, Rep.ev ht x⟩⟩ rfl
        simp only [execOp, ho, Instr.makeInterface, Sem.run_bind, run_underlying hu, Result.andThen_ok]
        cases d <;> first | rfl | (rename_i ms; exact absurd hu (hnot ms))
      · cases h
  case h_11 fn first cap ho =>
    simp only [Option.some.injEq, Prod.mk.injEq] at h
    obtain ⟨rfl, rfl⟩ := h
    refine quiet1 (by simp [ho]) ⟨.func fn (first.map a.eval) (cap.map a.eval), ?_, ?_⟩ rfl
    · simp [execOp, ho, Instr.makeFunc]
    · rw [Rep]
      exact ⟨first.toList.map a.eval, cap.toList.map a.eval, by congr 1 <;> (apply Array.ext'; simp), reps_ev ht _, reps_ev ht _⟩
  case h_12 t l c ho =>
    obtain ⟨v, w', g', h1, h2, h3, h4⟩ := makeSlice_ok (P := C.P) hs wr h (Rep.ev ht l) (Rep.ev ht c)
    exact wp_value (by simp [ho]) (v := v) (w' := w') (by simp [execOp, ho, h1]) (hK v w' g' h2 h3 h4)
  case h_13 t x lo hi mx ho =>
    split at h
    · exact quiet h (by simp [ho]) fun p' hp' => flat_ok hp' (by simp [ho, flatKind]) ht
    · refine quiet h (by simp [ho]) fun p' hp' => ?_
      unfold evSl at hp'
      split at hp'
      · rename_i hmh
        obtain ⟨v, h1, h2⟩ := slice_ok (w := w) hp' (Rep.ev ht x) (optRep_ev ht lo) (optRep_ev ht hi) (optRep_ev ht mx) (by cases mx <;> cases hi <;> simp_all)
        exact ⟨v, by simp [execOp, ho, h1], h2⟩
      · cases hp'
  case h_14 s x i ho =>
    refine quiet h (by simp [ho]) fun p' hp' => ?_
    obtain ⟨v, h1, h2⟩ := fieldAddr_ok (w := w) hp' (Rep.ev ht x)
    exact ⟨v, by simp [execOp, ho, h1], h2⟩
  case h_15 s x i ho =>
    refine quiet h (by simp [ho]) fun p' hp' => ?_
    obtain ⟨v, h1, h2⟩ := field_ok (w := w) hp' (Rep.ev ht x)
    exact ⟨v, by simp [execOp, ho, h1], h2⟩
  case h_16 t x i ho =>
    refine quiet h (by simp [ho]) fun p' hp' => ?_
    obtain ⟨v, h1, h2⟩ := indexAddr_ok (w := w) hp' (Rep.ev ht x) (Rep.ev ht i)
    exact ⟨v, by simp [execOp, ho, h1], h2⟩
  case h_17 t x i ho =>
    split at h
    · exact quiet h (by simp [ho]) fun p' hp' => flat_ok hp' (by simp [ho, flatKind]) ht
    · refine quiet h (by simp [ho]) fun p' hp' => ?_
      obtain ⟨v, h1, h2⟩ := index_ok (w := w) hp' (Rep.ev ht x) (Rep.ev ht i)
      exact ⟨v, by simp [execOp, ho, h1], h2⟩
  case h_18 x i ho =>
    split at h
    · rename_i vs hvs
      refine quiet h (by simp [ho]) fun p' hp' => ?_
      have hx := Rep.ev ht x
      rw [hvs] at hx
      simp only [Rep] at hx
      obtain ⟨us, hxu, hr⟩ := hx
      have hlt := (List.getElem?_eq_some_iff.1 hp').1
      have hu : us[i]? = some (us.getD i undef) := by
        have : i < us.length := by rw [hr.length]; exact hlt
        simp [List.getD, this]
      refine ⟨us.getD i undef, ?_, hr.get hp' hu⟩
      have hex : (Instr.extract (a.eval x) i).run C.P w = .ok (us.getD i undef) w := by
        rw [hxu]
        simp only [Instr.extract, List.getElem?_toArray, hu]
        rfl
      simp only [execOp, ho, Sem.run_bind, hex, Result.andThen_ok, Sem.run_pure]
    · cases h
  case h_19 s d x ho =>
    split at h
    · exact quiet h (by simp [ho]) fun p' hp' => flat_ok hp' (by simp [ho, flatKind]) ht
    · refine quiet h (by simp [ho]) fun p' hp' => ?_
      obtain ⟨v, h1, h2⟩ := convert_ok hs hp' (Rep.ev ht x)
      exact ⟨v, by simp [execOp, ho, h1], h2⟩
  case h_20 op t x y t' ho =>
    split at h
    · rename_i q hq
      simp only [Option.some.injEq, Prod.mk.injEq] at h
      obtain ⟨rfl, rfl⟩ := h
      exact quiet1 (by simp [ho]) (evNilCmp_ok ho hq ht) rfl
    · exact quiet h (by simp [ho]) fun p' hp' => flat_ok hp' (by simp [ho, flatKind]) ht
  case h_21 op t x ho => exact quiet h (by simp [ho]) fun p' hp' => flat_ok hp' (by simp [ho, flatKind]) ht
  case h_22 c x y ho => exact quiet h (by simp [ho]) fun p' hp' => flat_ok hp' (by simp [ho, flatKind]) ht
  case h_23 c ho =>
    split at h
    · rename_i hb
      split at h
      · rename_i s x hargs
        have hargs' : c.args = #[s, x] := by apply Array.ext'; simpa using hargs
        obtain ⟨v, w', g', h1, h2, h3, h4⟩ := append_ok (P := C.P) (ty := o.type) hs h (Rep.ev ht s) (Rep.ev ht x)
        refine wp_value (by simp [ho]) (v := v) (w' := w') ?_ (hK v w' g' h2 h3 h4)
        have h1' : (Builtin.append_ c.argTypes o.type #[a.eval s, a.eval x]).run C.P w = .ok v w' := by simpa using h1
        simp [execOp, ho, resolve, hb, invoke, builtin, hargs', h1']
      · cases h
    · rename_i hb
      split at h
      · rename_i x hargs
        have hargs' : c.args = #[x] := by apply Array.ext'; simpa using hargs
        split at h
        · exact quiet h (by simp [ho]) fun p' hp' => flat_ok hp' (by simp [ho, flatKind, hb]) ht
        · split at h
          · rename_i t hts
            refine quiet h (by simp [ho]) fun p' hp' => ?_
            obtain ⟨v, h1, h2⟩ := len_ok (w := w) (ty := o.type) hp' hts (Rep.ev ht x)
            refine ⟨v, ?_, h2⟩
            simp [execOp, ho, resolve, hb, invoke, builtin, hargs', h1]
          · cases h
      · cases h
    · rename_i hb
      exact quiet h (by simp [ho]) fun p' hp' => flat_ok hp' (by simp [ho, flatKind, hb]) ht
    · rename_i hb
      exact quiet h (by simp [ho]) fun p' hp' => flat_ok hp' (by simp [ho, flatKind, hb]) ht
    · rename_i gf hb
      split at h
      · rename_i hf fa fb hg
        have hrep := Rep.ev ht gf
        rw [hg] at hrep
        simp only [Rep] at hrep
        obtain ⟨va, vb, hgv, ha1, ha2⟩ := hrep
        obtain ⟨fn, hfn, hbody⟩ := callBy_has hch hph h
        have hcall := callBy_ok hc hp h hs (vs := va ++ c.args.toList.map a.eval ++ vb) ((ha1.append (reps_ev ht _)).append ha2)
        have hname := hpl _ _ hfn
        obtain ⟨bc, hbc⟩ : ∃ bc, fn.body = some bc := by
          cases hx : fn.body with
          | none => rw [hx] at hbody; cases hbody
          | some bc => exact ⟨bc, rfl⟩
        have hrun : (execOp a.eval o).run C.P w = .ok (.enter hf (va ++ c.args.toList.map a.eval ++ vb).toArray) w := by
          have harr : va.toArray ++ c.args.map a.eval ++ vb.toArray = (va ++ c.args.toList.map a.eval ++ vb).toArray := by apply Array.ext'; simp
          simp only [execOp, ho, resolve, hb, hgv, Deferred.ofValue, Sem.run_bind, Sem.run_pure, Result.andThen_ok, invoke, callFunc, harr]
          simp [program, Sem.run, hfn, hname, hbc]
        refine ⟨fun _ _ => trivial, ?_⟩
        rw [Oper.semAt_eq _ _ _ (by simp [ho]), hrun, Oper.uponIn_enter]
        refine ⟨(fun hx => by cases hx), Fw_calls (Calls.post hcall ?_)⟩
        rintro e w' ⟨v, g', rfl, h1, h2, h3⟩
        exact hK v w' g' h1 h2 h3
      · rename_i fo to ps asg bd hg
        have hrep := Rep.ev ht gf
        rw [hg] at hrep
        simp only [Rep] at hrep
        obtain ⟨l, rec, vals, hgv, hobj, ⟨r1, r2, r4, r5, r6, rfl⟩, hrt⟩ := hrep
        obtain ⟨hsz, hround⟩ := hy _ _ _ _ _ _ _ _ _ _ h r (n - 1) g w l rec hs hobj r1 r2 r4 r5 r6 hrt (c.args.toList.map a.eval) (reps_ev ht _)
        have hrun : (execOp a.eval o).run C.P w = .ok (.round l rec.fn ((rec.params.zip (c.args.toList.map a.eval).toArray).foldl (fun tmps x => tmps.setIfInBounds x.1 x.2) rec.tmps) rec.assign rec.body) w := by
          have harr : c.args.map a.eval = (c.args.toList.map a.eval).toArray := by apply Array.ext'; simp
          have hy2 := run_yield (P := C.P) (args := (c.args.toList.map a.eval).toArray) (hs.obj l rec hobj).2 (by rw [r4, ← hsz]; simp)
          simp only [execOp, ho, resolve, hb, hgv, Deferred.ofValue, Sem.run_bind, Sem.run_pure, Result.andThen_ok, invoke, harr]
          simpa using hy2
        refine ⟨fun _ _ => trivial, ?_⟩
        rw [Oper.semAt_eq _ _ _ (by simp [ho]), hrun, Oper.uponIn_round]
        refine ⟨(fun hx => by cases hx), RoundIn.mono hround ?_⟩
        rintro e w' ⟨v, g', rfl, h1, h2, h3⟩
        exact hK v w' g' h1 h2 h3
      · cases h
    · cases h
  case h_24 => cases h
end ops
end Go.Proofs.YtlkaoiceehlkmaaVE

namespace Go.Proofs.YtlkaoiceehlkmaaVE
open Go Go.RowKit
set_option linter.unusedVariables false
set_option linter.unusedSimpArgs false

/-! Regions in their order. -/
section region
variable {C : Cfg} {call : Call} {B : Base} {g : Gh} {st st' : St} {w : World} {wr : Wr} {tm tm' : List PV} {a : Act} {o : Oper}
theorem wanted_ok {ops : Array Oper} {b : Bool} (h : wantedP ops.toList tm o = some b) (ht : Reps g tm a.tmps.toList) : Region.wanted o (yielded ops a.tmps) = b := by
  unfold wantedP at h
  unfold Region.wanted
  split at h
  · rename_i hg
    simp only [Option.some.injEq] at h
    subst h
    rw [hg]
  · rename_i j want hg
    rw [hg]
    simp only
    unfold yielded
    rw [Array.getElem?_toList] at h
    split at h
    · rename_i hd
      simp only [Option.some.injEq] at h
      subst h
      rw [hd]
      simp
    · rename_i d hd
      rw [hd]
      simp only [Option.bind_some]
      have hget : ∀ x : Value, tm.getD d .any = .v x → a.tmps[d]? = some x := fun x hx => by
        rcases Nat.lt_or_ge d tm.length with hl | hl
        · have h1 : tm[d]? = some (.v x) := by rw [← hx]; simp [List.getD, hl]
          have h2 : d < a.tmps.size := by rw [← Array.length_toList, ht.length]; exact hl
          have h3 : a.tmps.toList[d]? = some a.tmps[d] := by simp [h2]
          have := ht.get h1 h3
          simp only [Rep] at this
          rw [Array.getElem?_eq_getElem h2, this.1]
        · have : tm.getD d .any = .any := by simp [List.getD, List.getElem?_eq_none hl]
          rw [this] at hx; cases hx
      unfold wantV at h
      split at h
      · rename_i c hc
        rw [hget _ hc]
        simp only [Option.some.injEq] at h
        subst h
        simp
      · rename_i x hnb hx
        rw [hget _ hx]
        simp only [Option.some.injEq] at h
        subst h
        cases x <;> first | rfl | (rename_i c; exact absurd rfl (hnb c))
      · cases h
theorem put_ok {p : PV} {v : Value} (ht : Reps g tm a.tmps.toList) (hp : Rep g p v) (d : Option Tmp) : Reps g (putP tm d p) (a.put d v).tmps.toList := by
  cases d with
  | none => exact ht
  | some d =>
    simp only [putP, Act.put, Array.toList_setIfInBounds]
    exact ht.set hp
theorem put_defers (d : Option Tmp) (v : Value) : (a.put d v).defers = a.defers := by cases d <;> rfl
theorem wipe_ok : ∀ {ks : List Bool} {tm : List PV} {vs : List Value}, Reps g tm vs → Reps g (wipe ks tm) vs
  | [], tm, vs, h => by
    cases tm <;> exact h
  | b :: ks, [], vs, h => h
  | b :: ks, p :: tm, vs, h => by
    simp only [Reps] at h
    obtain ⟨v, vs', rfl, h1, h2⟩ := h
    simp only [wipe, Reps]
    refine ⟨v, vs', rfl, ?_, wipe_ok h2⟩
    cases b
    · simp only [Bool.false_eq_true, if_false, Rep]
    · exact h1
/-- What is asked behind a region, or a piece of code. -/
def After (B : Base) (wr : Wr) (g : Gh) (st : St) (w : World) (tm' : List PV) (st' : St) (ds : List Deferred) (a' : Act) (w' : World) : Prop :=
  ∃ g', Fr B wr g st w g' st' w' ∧ SR B g' st' w' ∧ Reps g' tm' a'.tmps.toList ∧ a'.defers = ds
structure Ok (C : Cfg) (call : Call) (B : Base) : Prop where
  ok : CallOk C.P call B
  yl : YlOk C.P call B
  prim : PrimOk C B
  callHas : CallHas C.P call
  primHas : PrimHas C
  plain : Plain C.P
theorem ops_ok (hok : Ok C call B) {f : FuncId} {ops : Array Oper} {r : Option Nat} {n : Nat} {Q : Exit → Act → World → Prop} :
    ∀ (os : List Oper) (k : Nat) (tm : List PV) (st : St) (g : Gh) (a : Act) (w : World), (∀ j, os[j]? = ops[k + j]?) → evOps C call f wr ops.toList os tm st = some (tm', st') → SR B g st w → Reps g tm a.tmps.toList →
      (∀ a' w', After B wr g st w tm' st' a.defers a' w' → Q .normal a' w') → wpOpsIn (Fw r) n C.P ops Q (List.range' k os.length) a w
  | [], k, tm, st, g, a, w, _, h, hs, ht, hQ => by
    simp only [evOps, Option.some.injEq, Prod.mk.injEq] at h
    obtain ⟨rfl, rfl⟩ := h
    simp only [List.length_nil, List.range'_zero, wpOpsIn]
    exact hQ a w ⟨g, Fr.refl .., hs, ht, rfl⟩
  | o :: os, k, tm, st, g, a, w, hk, h, hs, ht, hQ => by
    have h0 : ops[k]? = some o := by simpa using (hk 0).symm
    have hk' : ∀ j, os[j]? = ops[k + 1 + j]? := fun j => by have := hk (j + 1); simpa [Nat.add_assoc, Nat.add_comm 1 j] using this
    simp only [List.length_cons, List.range'_succ, wpOpsIn, h0]
    simp only [evOps, wantR, bindR] at h
    split at h
    · rename_i hw
      rw [if_pos (wanted_ok hw ht)]
      split at h
      · rename_i p st1 he
        refine evOp_ok hok.ok hok.yl hok.prim hok.callHas hok.primHas hok.plain he hs ht fun v w1 g1 hf1 hs1 hp1 => ?_
        refine ops_ok hok os (k + 1) _ st1 g1 _ w1 hk' h hs1 (put_ok (Reps.mono hf1.le _ _ ht) hp1 _) fun a' w' hA => ?_
        obtain ⟨g', h2, h3, h4, h5⟩ := hA
        exact hQ a' w' ⟨g', hf1.trans hs hs1 h2, h3, h4, by rw [h5, put_defers]⟩
      · cases h
    · rename_i hw
      rw [wanted_ok hw ht, if_neg (by simp)]
      refine ⟨fun _ _ => trivial, ?_⟩
      refine ops_ok hok os (k + 1) _ st g _ w hk' h hs (put_ok ht (Rep.ofFlat rfl) _) fun a' w' hA => ?_
      obtain ⟨g', h2, h3, h4, h5⟩ := hA
      exact hQ a' w' ⟨g', h2, h3, h4, by rw [h5, put_defers]⟩
    · cases h
theorem region_ok (hok : Ok C call B) {f : FuncId} {ops : Array Oper} {id : Nat} {r : Option Nat} {n : Nat} {Q : Exit → Act → World → Prop} (h : evOps C call f wr ops.toList ops.toList tm st = some (tm', st')) (hs : SR B g st w) (ht : Reps g tm a.tmps.toList)
    (hQ : ∀ a' w', After B wr g st w tm' st' a.defers a' w' → Q .normal a' w') : (Code.region id ops false).wpIn (Fw r) n C.P Q a w := by
  refine wpIn_region ?_
  rw [List.range_eq_range', ← Array.length_toList]
  exact ops_ok hok ops.toList 0 tm st g a w (by simp) h hs ht hQ
end region

/-! Every order lists what it can. -/
section orders
def up (L : Nat → Bool) (i : Nat) : Nat → Bool := fun j => if j = i then true else L j
theorem up_self (L : Nat → Bool) (i : Nat) : up L i i = true := by simp [up]
theorem up_ne {L : Nat → Bool} {i j : Nat} (h : j ≠ i) : up L i j = L j := by simp [up, h]
/-- What each operation waits for, whatever the mode, is listed ahead of it. -/
def Direct (ops : Array Oper) (L : Nat → Bool) (i : Nat) : Prop := ∀ o, ops[i]? = some o → ∀ e ∈ o.after.toList, plainEdge e = true → L e.on = true
inductive Good (ops : Array Oper) : (Nat → Bool) → List Nat → Prop
  | nil {L : Nat → Bool} (h : ∀ i, i < ops.size → L i = true) : Good ops L []
  | cons {L : Nat → Bool} {i : Nat} {l : List Nat} (hi : i < ops.size) (hL : L i = false) (hd : Direct ops L i) (h : Good ops (up L i) l) : Good ops L (i :: l)
theorem plain_binds {e : Edge} (md : Region.Mode) (h : plainEdge e = true) : Region.binds md e = true := by
  unfold plainEdge at h
  unfold Region.binds
  split at h <;> simp_all
theorem chk_ready {md : Region.Mode} {ops : Array Oper} {listed : Array Bool} (hsz : listed.size = ops.size) : ∀ (l seen : List Nat), chkOrder md ops seen l = true → (∀ i ∈ seen, i < ops.size ∧ listed.getD i true = true) →
    (∀ i, i < ops.size → listed.getD i true = true) ∨ ∃ i ∈ (List.range ops.size).filter (fun i => !listed.getD i true && ((ops[i]?).map (·.after.all fun e => !Region.binds md e || listed.getD e.on false)).getD false), True
  | [], seen, h, hs => by
    simp only [chkOrder, List.all_eq_true, List.mem_range] at h
    exact .inl fun i hi => (hs i (by simpa using h i hi)).2
  | i :: l, seen, h, hs => by
    simp only [chkOrder, Bool.and_eq_true] at h
    obtain ⟨h1, h2⟩ := h
    split at h1
    · rename_i o ho
      by_cases hi : listed.getD i true = true
      · exact chk_ready hsz l (i :: seen) h2 fun j hj => by
          rcases List.mem_cons.1 hj with rfl | hj
          · exact ⟨(Array.getElem?_eq_some_iff.1 ho).1, hi⟩
          · exact hs j hj
      · right
        have hlt : i < ops.size := (Array.getElem?_eq_some_iff.1 ho).1
        refine ⟨i, List.mem_filter.2 ⟨List.mem_range.2 hlt, ?_⟩, trivial⟩
        rw [ho]
        simp only [Option.map_some, Option.getD_some, Bool.and_eq_true, Bool.not_eq_true']
        refine ⟨by simpa using hi, ?_⟩
        rw [← Array.all_toList, List.all_eq_true]
        rw [List.all_eq_true] at h1
        intro e he
        have := h1 e he
        simp only [Bool.or_eq_true] at this ⊢
        rcases this with h3 | h3
        · exact .inl h3
        · right
          obtain ⟨h4, h5⟩ := hs e.on (by simpa using h3)
          rw [Array.getD_eq_getD_getElem?, Array.getElem?_eq_getElem (by omega)] at h5 ⊢
          exact h5
    · cases h1
/-- How many are not listed yet. -/
def left (O : List Nat) (L : Nat → Bool) : Nat := O.countP fun j => !L j
theorem left_out {i : Nat} {L : Nat → Bool} : ∀ {O : List Nat}, i ∉ O → left O (up L i) = left O L
  | [], _ => rfl
  | x :: O, h => by
    have h1 : x ≠ i := fun e => h (by simp [e])
    have h2 := left_out (L := L) (fun e : i ∈ O => h (by simp [e]))
    unfold left at h2 ⊢
    rw [List.countP_cons, List.countP_cons, h2, up_ne h1]
theorem left_up {i : Nat} {L : Nat → Bool} (hL : L i = false) : ∀ {O : List Nat}, O.Nodup → i ∈ O → left O (up L i) + 1 = left O L
  | x :: O, hn, hi => by
    rw [List.nodup_cons] at hn
    by_cases hx : x = i
    · subst hx
      have h2 := left_out (L := L) hn.1
      unfold left at h2 ⊢
      rw [List.countP_cons, List.countP_cons, h2, up_self, hL]
      simp
    · have h2 := left_up hL hn.2 (by rcases List.mem_cons.1 hi with e | e; exact absurd e.symm hx; exact e)
      unfold left at h2 ⊢
      rw [List.countP_cons, List.countP_cons, up_ne hx]
      omega
def seen (listed : Array Bool) : Nat → Bool := fun j => listed.getD j true
theorem seen_set (listed : Array Bool) {i : Nat} (hi : i < listed.size) : seen (listed.setIfInBounds i true) = up (seen listed) i := by
  funext j
  unfold seen up
  simp only [Array.getD_eq_getD_getElem?]
  by_cases hj : j = i
  · subst hj
    rw [if_pos rfl, Array.getElem?_setIfInBounds_self_of_lt hi]
    rfl
  · rw [if_neg hj, Array.getElem?_setIfInBounds_ne (fun e => hj e.symm)]
theorem go_good {md : Region.Mode} {ops : Array Oper} {l0 : List Nat} (hck : chkOrder md ops [] l0 = true) : ∀ (fuel t : Nat) (listed : Array Bool) (acc : List Nat), listed.size = ops.size → left (List.range ops.size) (seen listed) = fuel →
    ∃ l, Region.linearise.go md ops fuel t listed acc = acc.reverse ++ l ∧ Good ops (seen listed) l
  | 0, t, listed, acc, hsz, hl => by
    refine ⟨[], by simp [Region.linearise.go], .nil fun i hi => ?_⟩
    unfold left at hl
    rw [List.countP_eq_zero] at hl
    simpa using hl i (List.mem_range.2 hi)
  | fuel + 1, t, listed, acc, hsz, hl => by
    unfold Region.linearise.go
    simp only
    generalize hrs : (List.range ops.size).filter (fun i => !listed.getD i true && ((ops[i]?).map (·.after.all fun e => !Region.binds md e || listed.getD e.on false)).getD false) = rs
    cases hr : rs[t % rs.length]? with
    | none =>
      simp only
      refine ⟨[], by simp, .nil fun i hi => ?_⟩
      rcases chk_ready hsz l0 [] hck (fun _ h => by cases h) with h | ⟨j, hj, _⟩
      · exact h i hi
      · exfalso
        rw [hrs] at hj
        have hpos : 0 < rs.length := List.length_pos_of_mem hj
        rw [List.getElem?_eq_none_iff] at hr
        have := Nat.mod_lt t hpos
        omega
    | some i =>
      simp only
      have hi : i ∈ rs := List.mem_of_getElem? hr
      rw [← hrs, List.mem_filter, List.mem_range, Bool.and_eq_true] at hi
      obtain ⟨hin, h1, h2⟩ := hi
      have hLi : seen listed i = false := by simpa [seen] using h1
      obtain ⟨l, h3, h4⟩ := go_good hck fuel (t / rs.length) (listed.setIfInBounds i true) (i :: acc) (by simpa using hsz) (by
        rw [seen_set listed (by omega)]
        have := left_up hLi List.nodup_range (List.mem_range.2 hin)
        omega)
      refine ⟨i :: l, by rw [h3]; simp, .cons hin hLi (fun o ho e he hp => ?_) (by rw [← seen_set listed (by omega)]; exact h4)⟩
      rw [ho, Option.map_some, Option.getD_some, ← Array.all_toList, List.all_eq_true] at h2
      have := h2 e he
      rw [plain_binds md hp, Bool.not_true, Bool.false_or] at this
      unfold seen
      rw [Array.getD_eq_getD_getElem?] at this ⊢
      cases hx : listed[e.on]? with
      | none => rw [hx] at this; cases this
      | some b => rw [hx] at this; exact this
theorem left_none (n : Nat) : left (List.range n) (seen (Array.replicate n false)) = n := by
  unfold left
  have : ∀ i ∈ List.range n, (!seen (Array.replicate n false) i) = true := fun i hi => by
    have := List.mem_range.1 hi
    simp [seen, Array.getD_eq_getD_getElem?, this]
  rw [List.countP_eq_length.2 this, List.length_range]
theorem linearise_good {md : Region.Mode} {ops : Array Oper} {l0 : List Nat} (hck : chkOrder md ops [] l0 = true) (t : Nat) : Good ops (seen (Array.replicate ops.size false)) (Region.linearise md ops t) := by
  obtain ⟨l, h1, h2⟩ := go_good hck ops.size t (Array.replicate ops.size false) [] (by simp) (left_none _)
  unfold Region.linearise
  rw [h1]
  exact h2
theorem schedule_good {ops : Array Oper} (h : ordersOk ops = true) (mixed : Bool) (t : Nat) : Good ops (seen (Array.replicate ops.size false)) (Region.schedule mixed ops t) := by
  simp only [ordersOk, Bool.and_eq_true] at h
  obtain ⟨⟨h1, h2⟩, h3⟩ := h
  unfold Region.schedule
  split
  · exact linearise_good h1 t
  · split
    · exact linearise_good h2 _
    · exact linearise_good h3 _
end orders
end Go.Proofs.YtlkaoiceehlkmaaVE

namespace Go.Proofs.YtlkaoiceehlkmaaVE
open Go Go.RowKit
set_option linter.unusedVariables false
set_option linter.unusedSimpArgs false

/-! What an operation's outcome hangs on. -/
section hang
variable {C : Cfg} {call : Call} {f : FuncId} {wr : Wr} {tm tm2 : List PV} {st st' : St} {o : Oper} {p : PV}
theorem evFlat_congr {P : Program} (h : ∀ x ∈ o.op.operands.toList, PV.ev tm x = PV.ev tm2 x) (hk : flatKind o.op = true) : evFlat P tm o = evFlat P tm2 o := by
  unfold evFlat
  have h1 : (o.op.operands.toList.all fun x => (toV (PV.ev tm x)).isSome) = (o.op.operands.toList.all fun x => (toV (PV.ev tm2 x)).isSome) := by
    rw [Bool.eq_iff_iff, List.all_eq_true, List.all_eq_true]
    exact ⟨fun k x hx => by rw [← h x hx]; exact k x hx, fun k x hx => by rw [h x hx]; exact k x hx⟩
  have h2 : execOp (fun x => (toV (PV.ev tm x)).getD undef) o = execOp (fun x => (toV (PV.ev tm2 x)).getD undef) o := execOp_congr hk fun x hx => by rw [h x hx]
  rw [h1, h2]
theorem evOp_congr (h : ∀ x ∈ o.op.operands.toList, PV.ev tm x = PV.ev tm2 x) : evOp C call f wr tm st o = evOp C call f wr tm2 st o := by
  have fl := fun hk => evFlat_congr (P := C.P) (o := o) (tm := tm) (tm2 := tm2) h hk
  cases ho : o.op <;> rw [ho] at h <;> simp only [evOp, ho] <;> simp only [Op.operands, List.mem_cons, List.not_mem_nil, or_false, Array.toList_append, List.mem_append] at h
  case move x => rw [h x rfl]
  case assign x => rw [h x rfl]
  case box t x => rw [h x rfl]
  case build t ps =>
    congr 2
    apply List.map_congr_left
    intro q hq
    rw [h q.2 (List.mem_map.2 ⟨q, hq, rfl⟩)]
  case buildSlice t len ps =>
    congr 1
    apply List.map_congr_left
    intro q hq
    rw [h q.2 (List.mem_map.2 ⟨q, hq, rfl⟩)]
  case load t x => rw [h x rfl]
  case store t x y => rw [h x (.inl rfl), h y (.inr rfl)]
  case nilCheck x => rw [h x rfl]
  case makeInterface t x => rw [h x rfl]
  case makeFunc g a b =>
    have h1 : a.toList.map (PV.ev tm) = a.toList.map (PV.ev tm2) := List.map_congr_left fun x hx => h x (.inl hx)
    have h2 : b.toList.map (PV.ev tm) = b.toList.map (PV.ev tm2) := List.map_congr_left fun x hx => h x (.inr hx)
    rw [h1, h2]
  case makeSlice t l c => rw [h l (.inl rfl), h c (.inr rfl)]
  case slice t x lo hi mx =>
    have h1 : PV.ev tm x = PV.ev tm2 x := h x (by simp)
    have h2 : lo.map (PV.ev tm) = lo.map (PV.ev tm2) := by cases lo with | none => rfl | some l => simp only [Option.map_some]; rw [h l (by simp)]
    have h3 : hi.map (PV.ev tm) = hi.map (PV.ev tm2) := by cases hi with | none => rfl | some l => simp only [Option.map_some]; rw [h l (by simp)]
    have h4 : mx.map (PV.ev tm) = mx.map (PV.ev tm2) := by cases mx with | none => rfl | some l => simp only [Option.map_some]; rw [h l (by simp)]
    rw [h1, h2, h3, h4, fl (by simp [ho, flatKind])]
  case fieldAddr s x i => rw [h x rfl]
  case field s x i => rw [h x rfl]
  case indexAddr t x i => rw [h x (.inl rfl), h i (.inr rfl)]
  case index t x i => rw [h x (.inl rfl), h i (.inr rfl), fl (by simp [ho, flatKind])]
  case extract x i => rw [h x rfl]
  case convert s d x => rw [h x rfl, fl (by simp [ho, flatKind])]
  case binOp op t x y t' => rw [h x (.inl rfl), h y (.inr rfl), fl (by simp [ho, flatKind])]
  case unOp op t x => rw [fl (by simp [ho, flatKind])]
  case pick c x y => rw [fl (by simp [ho, flatKind])]
  case call c =>
    have hm : ∀ x ∈ c.args.toList, PV.ev tm x = PV.ev tm2 x := fun x hx => h x (by simp [Call.operands]; exact .inr (by simpa using hx))
    split
    · split
      · rename_i s x hargs
        rw [hargs] at hm
        rw [hm s (by simp), hm x (by simp)]
      · rfl
    · rename_i hb
      split
      · rename_i x hargs
        rw [hargs] at hm
        rw [hm x (by simp), fl (by simp [ho, flatKind, hb])]
      · rfl
    · rename_i hb
      rw [fl (by simp [ho, flatKind, hb])]
    · rename_i hb
      rw [fl (by simp [ho, flatKind, hb])]
    · rename_i g hb
      have h1 : PV.ev tm g = PV.ev tm2 g := h g (by simp [Call.operands, hb])
      have h2 : c.args.toList.map (PV.ev tm) = c.args.toList.map (PV.ev tm2) := List.map_congr_left hm
      rw [h1, h2]
    · rfl
theorem withSt_some {st : St} {q : Option PV} (h : withSt st q = some (p, st')) : q = some p ∧ st' = st := by
  unfold withSt at h
  rw [Option.map_eq_some_iff] at h
  obtain ⟨p', h1, h2⟩ := h
  simp only [Prod.mk.injEq] at h2
  exact ⟨by rw [h1, h2.1], h2.2.symm⟩
theorem withSt_mk {q : Option PV} (h : q = some p) (st : St) : withSt st q = some (p, st) := by rw [h]; rfl
/-- The outcome asks nothing of the locations. -/
def Still (C : Cfg) (call : Call) (f : FuncId) (wr : Wr) (tm : List PV) (o : Oper) (p : PV) : Prop := ∀ st, evOp C call f wr tm st o = some (p, st)
theorem free_ok (h : evOp C call f wr tm st o = some (p, st')) (hk : clsOf C f tm st o = .free) : st' = st ∧ Still C call f wr tm o p := by
  unfold Still
  have quiet : ∀ {q : Option PV}, withSt st q = some (p, st') → st' = st ∧ ∀ s, withSt s q = some (p, s) := fun hq => ⟨(withSt_some hq).2, fun s => withSt_mk (withSt_some hq).1 s⟩
  cases ho : o.op <;> simp only [evOp, ho] at h ⊢ <;> simp only [clsOf, ho] at hk <;> (try (cases h; done)) <;> (try (exact quiet h)) <;> (try (cases hk; done))
  case move x => simp only [Option.some.injEq, Prod.mk.injEq] at h; exact ⟨h.2.symm, fun s => by rw [h.1]⟩
  case assign x => simp only [Option.some.injEq, Prod.mk.injEq] at h; exact ⟨h.2.symm, fun s => by rw [h.1]⟩
  case makeFunc g a b => simp only [Option.some.injEq, Prod.mk.injEq] at h; exact ⟨h.2.symm, fun s => by rw [h.1]⟩
  case makeInterface t x =>
    split at h
    · cases h
    · cases h
    · split at h
      · rename_i hone
        simp only [Option.some.injEq, Prod.mk.injEq] at h
        refine ⟨h.2.symm, fun s => ?_⟩
        rw [if_pos hone, h.1]
      · cases h
  case buildSlice t len ps =>
    split at hk
    · cases hk
    · rename_i hrf
      have hrf' : rfOf C f o = false := by simpa using hrf
      rw [hrf'] at h
      unfold evBuildSlice at h
      split at h
      · rename_i e he
        split at h
        · rename_i n z hn hz
          split at h
          · rename_i hc
            rw [Option.map_eq_some_iff] at h
            obtain ⟨xs, h1, h2⟩ := h
            simp only [mkRow, Bool.false_eq_true, if_false, Prod.mk.injEq] at h2
            refine ⟨h2.2.symm, fun s => ?_⟩
            rw [hrf']
            unfold evBuildSlice
            rw [he]
            simp only [hn, hz]
            rw [if_pos hc, h1]
            simp [mkRow, h2.1]
          · cases h
        · cases h
      · cases h
  case makeSlice t l c =>
    split at hk
    · cases hk
    · rename_i hrf
      have hrf' : rfOf C f o = false := by simpa using hrf
      rw [hrf'] at h
      unfold evMakeSlice at h
      split at h
      · rename_i e l' c' he hl hc
        split at h
        · rename_i i z hi hz
          split at h
          · rename_i hcond
            simp only [mkRow, Bool.false_eq_true, if_false, Option.some.injEq, Prod.mk.injEq] at h
            refine ⟨h.2.symm, fun s => ?_⟩
            rw [hrf']
            unfold evMakeSlice
            rw [he, hl, hc]
            simp only [hi, hz]
            rw [if_pos hcond]
            simp [mkRow, h.1]
          · cases h
        · cases h
      · cases h
  case load t x =>
    obtain ⟨h1, h2⟩ := withSt_some h
    refine ⟨h2, fun s => withSt_mk ?_ s⟩
    rw [← h1]
    unfold evLoad
    have : ∀ n, rdCells s n (PV.ev tm x) = rdCells st n (PV.ev tm x) := fun n => by
      split at hk
      · cases hk
      · rename_i hx
        unfold rdCells
        split
        · rename_i l off he; exact absurd he (hx l off)
        · rfl
        · rfl
    simp only [this]
  case store t x y => split at hk <;> cases hk
  case slice t x lo hi mx => split at h <;> rename_i hx <;> (try rw [hx]) <;> first | exact quiet h | (obtain ⟨h1, h2⟩ := quiet h; refine ⟨h1, fun s => ?_⟩; rw [← h2 s])
  case index t x i => split at h <;> rename_i hx <;> (try rw [hx]) <;> first | exact quiet h | (obtain ⟨h1, h2⟩ := quiet h; refine ⟨h1, fun s => ?_⟩; rw [← h2 s])
  case convert s' d x => split at h <;> rename_i hx <;> (try rw [hx]) <;> first | exact quiet h | (obtain ⟨h1, h2⟩ := quiet h; refine ⟨h1, fun s => ?_⟩; rw [← h2 s])
  case extract x i =>
    split at h
    · rename_i vs hx; exact quiet h
    · cases h
  case binOp op t x y t' =>
    split at h
    · rename_i q hq
      simp only [Option.some.injEq, Prod.mk.injEq] at h
      exact ⟨h.2.symm, fun s => by rw [h.1]⟩
    · exact quiet h
  case call c =>
    split at h
    · rename_i hb
      rw [hb] at hk
      simp only at hk
      split at hk
      · split at hk <;> cases hk
      · cases hk
    · rename_i hb
      split at h
      · rename_i x hargs
        split at h
        · exact quiet h
        · split at h
          · rename_i t ht
            exact quiet h
          · cases h
      · cases h
    · exact quiet h
    · exact quiet h
    · rename_i g hb
      rw [hb] at hk
      simp only at hk
      split at h
      · rename_i hf a b hg
        rw [hg] at hk
        simp only at hk
        unfold callBy at h ⊢
        split at hk
        · rename_i r hr
          rw [hr] at h
          simp only [Option.some.injEq, Prod.mk.injEq] at h
          refine ⟨h.2.symm, fun s => ?_⟩
          rw [h.1]
        · rename_i hr
          rw [hr] at h
          simp only at h
          split at hk
          · rename_i hm
            rw [hm] at h
            simp only at h
            split at h
            · rename_i hsafe
              split at h
              · rename_i r s0 hcall
                split at h
                · rename_i hrs
                  simp only [Option.some.injEq, Prod.mk.injEq] at h
                  refine ⟨h.2.symm, fun s => ?_⟩
                  rw [if_pos hsafe, if_pos hrs, h.1]
                · cases h
              · cases h
            · cases h
          · cases hk
          · split at hk <;> cases hk
          · cases hk
      · rename_i hg
        rw [hg] at hk
        cases hk
      · cases h
    · cases h
theorem reads_ok {l : Nat} (h : evOp C call f wr tm st o = some (p, st')) (hk : clsOf C f tm st o = .reads l) : st' = st ∧ ∀ s, locAt s l = locAt st l → evOp C call f wr tm s o = some (p, s) := by
  cases ho : o.op <;> simp only [clsOf, ho] at hk <;> (try (cases hk; done))
  case load t x =>
    simp only [evOp, ho] at h ⊢
    obtain ⟨h1, h2⟩ := withSt_some h
    refine ⟨h2, fun s hs => withSt_mk ?_ s⟩
    rw [← h1]
    split at hk
    · rename_i l' off hx
      cases hk
      unfold evLoad
      have : ∀ n, rdCells s n (PV.ev tm x) = rdCells st n (PV.ev tm x) := fun n => by
        rw [hx]
        simp only [rdCells, hs]
      simp only [this]
    · cases hk
  case store t x y => split at hk <;> cases hk
  case buildSlice t len ps => split at hk <;> cases hk
  case makeSlice t a b => split at hk <;> cases hk
  case call c =>
    split at hk
    · split at hk
      · split at hk <;> cases hk
      · cases hk
    · cases hk
    · split at hk
      · split at hk
        · cases hk
        · split at hk
          · cases hk
          · cases hk
          · split at hk <;> cases hk
          · cases hk
      · cases hk
    · cases hk
theorem oldLoc_lt {st : St} {k : Nat} (h : oldLoc st k = true) : k < st.locs.length := by simpa [oldLoc] using h
theorem keeps_ok {kp : Nat → Bool} (h : evOp C call f wr tm st o = some (p, st')) (hk : clsOf C f tm st o = .state kp) {l : Nat} (hl : kp l = true) : locAt st' l = locAt st l := by
  have two : ∀ {k : Nat}, (oldLoc st l && l != k) = true → l < st.locs.length ∧ l ≠ k := fun hx => by
    simp only [Bool.and_eq_true, bne_iff_ne, ne_eq] at hx
    exact ⟨oldLoc_lt hx.1, hx.2⟩
  cases ho : o.op <;> simp only [clsOf, ho] at hk <;> (try (cases hk; done)) <;> simp only [evOp, ho] at h
  case alloc t =>
    cases hk
    unfold evAlloc at h
    split at h
    · split at h
      · simp only [Option.some.injEq, Prod.mk.injEq] at h
        rw [← h.2]; exact locAt_newLoc_old (oldLoc_lt hl)
      · cases h
    · cases h
  case box t x =>
    cases hk
    unfold evBox at h
    split at h
    · simp only [Option.some.injEq, Prod.mk.injEq] at h
      rw [← h.2]; exact locAt_newLoc_old (oldLoc_lt hl)
    · cases h
  case load t x => split at hk <;> cases hk
  case store t x y =>
    rw [Option.map_eq_some_iff] at h
    obtain ⟨s, h1, h2⟩ := h
    simp only [Prod.mk.injEq] at h2
    rw [← h2.2]
    unfold evStore at h1
    split at hk
    · rename_i l' off hx
      cases hk
      obtain ⟨h3, h4⟩ := two hl
      rw [hx] at h1
      split at h1
      · rename_i n l'' off' hn he
        cases he
        split at h1
        · split at h1
          · simp only [Option.some.injEq] at h1
            rw [← h1]; exact locAt_set_other (fun e => h4 e.symm)
          · cases h1
        · cases h1
      · cases h1
    · cases hk; cases hl
  case buildSlice t len ps =>
    split at hk
    · rename_i hrf
      cases hk
      unfold evBuildSlice at h
      split at h
      · split at h
        · split at h
          · rw [Option.map_eq_some_iff] at h
            obtain ⟨xs, h1, h2⟩ := h
            simp only [mkRow, hrf, if_true, Prod.mk.injEq] at h2
            rw [← h2.2]; exact locAt_newLoc_old (oldLoc_lt hl)
          · cases h
        · cases h
      · cases h
    · cases hk
  case makeSlice t a b =>
    split at hk
    · rename_i hrf
      cases hk
      unfold evMakeSlice at h
      split at h
      · split at h
        · split at h
          · simp only [mkRow, hrf, if_true, Option.some.injEq, Prod.mk.injEq] at h
            rw [← h.2]; exact locAt_newLoc_old (oldLoc_lt hl)
          · cases h
        · cases h
      · cases h
    · cases hk
  case call c =>
    split at hk
    · rename_i hb
      rw [hb] at h
      simp only at h
      split at hk
      · rename_i s rest hargs
        rw [hargs] at h
        split at h
        · rename_i s' x he
          simp only [List.cons.injEq] at he
          obtain ⟨rfl, rfl⟩ := he
          unfold evAppend at h
          split at h
          · split at h
            · cases h
            · split at h
              · cases h
              · split at h
                · cases h
                · split at h
                  · cases h
                  · split at h
                    · rename_i xs fl hx
                      rw [hx] at hk
                      cases hk
                      have hlt := oldLoc_lt hl
                      split at h
                      · simp only [Option.some.injEq, Prod.mk.injEq] at h; rw [← h.2]
                      · split at h
                        · cases h
                        · split at h
                          · cases h
                          · split at h
                            · simp only [Option.some.injEq, Prod.mk.injEq] at h; rw [← h.2]; rfl
                            · cases h
                          · split at h
                            · simp only [Option.some.injEq, Prod.mk.injEq] at h; rw [← h.2]; exact locAt_newLoc_old hlt
                            · simp only [Option.some.injEq, Prod.mk.injEq] at h; rw [← h.2]; rfl
                    · rename_i l' n off len hx
                      rw [hx] at hk
                      cases hk
                      obtain ⟨h3, h4⟩ := two hl
                      split at h
                      · split at h
                        · simp only [Option.some.injEq, Prod.mk.injEq] at h; rw [← h.2]
                        · split at h
                          · simp only [Option.some.injEq, Prod.mk.injEq] at h
                            rw [← h.2, locAt_newLoc_old (by simpa using h3)]
                            exact locAt_set_other (fun e => h4 e.symm)
                          · cases h
                      · cases h
                    · cases h
          · cases h
        · cases h
      · cases hk; cases hl
    · cases hk
    · rename_i g hb
      rw [hb] at h
      simp only at h
      split at hk
      · rename_i hf a b hg
        rw [hg] at h
        simp only at h
        unfold callBy at h
        split at hk
        · cases hk
        · rename_i hr
          rw [hr] at h
          simp only at h
          split at hk
          · cases hk
          · rename_i hm
            rw [hm] at h
            simp only at h
            split at h
            · split at h
              · simp only [Option.some.injEq, Prod.mk.injEq] at h; rw [← h.2]
              · cases h
            · cases h
          · rename_i hm
            rw [hm] at h
            simp only at h
            split at hk
            · rename_i l' hl'
              cases hk
              obtain ⟨h3, h4⟩ := two hl
              rw [hl'] at h
              simp only at h
              unfold callLoc at h
              split at h
              · split at h
                · split at h
                  · split at h
                    · simp only [Option.some.injEq, Prod.mk.injEq] at h
                      rw [← h.2]; exact locAt_set_other (fun e => h4 e.symm)
                    · split at h
                      · simp only [Option.some.injEq, Prod.mk.injEq] at h
                        rw [← h.2]
                        unfold locAt
                        rw [locAt_append_left (by simpa using h3)]
                        exact locAt_set_other (st := st) (fun e => h4 e.symm)
                      · cases h
                  · cases h
                · cases h
              · cases h
            · cases hk; cases hl
          · cases hk; cases hl
      · cases hk; cases hl
    · cases hk; cases hl
end hang
end Go.Proofs.YtlkaoiceehlkmaaVE
