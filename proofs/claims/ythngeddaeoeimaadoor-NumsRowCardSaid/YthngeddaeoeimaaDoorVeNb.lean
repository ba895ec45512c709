import Derived.Test.YthngeddaeoeimaaDoorVeN
import Derived.Scope
namespace Go.Proofs.YthngeddaeoeimaaDoorVE
open Go Go.RowKit
set_option linter.unusedVariables false
set_option linter.unusedSimpArgs false

/-! The record of a loop over a function turns: what speaks of no yield stays. -/
def Gh.withObj (g : Gh) (o : Nat → Option Go.Loop) : Gh := { g with obj := o }
mutual
theorem Rep.withObj {g : Gh} {o : Nat → Option Go.Loop} : ∀ (p : PV) (v : Value), nof p = true → Rep g p v → Rep (g.withObj o) p v
  | .any, v, _, h => by simp only [Rep]
  | .v x, v, _, h => by simp only [Rep] at h ⊢; exact h
  | .row xs f, v, hn, h => by
    simp only [nof] at hn
    simp only [Rep] at h ⊢
    rcases h with h | ⟨b, of, sz, cap, vals, h1, h2, h3, h4, h5, h6⟩
    · exact .inl h
    · exact .inr ⟨b, of, sz, cap, vals, h1, h2, h3, Repss.withObj xs vals hn h4, h5, by cases f <;> exact h6⟩
  | .ref l sz off len, v, _, h => by simp only [Rep] at h ⊢; exact h
  | .ptr l off, v, _, h => by simp only [Rep] at h ⊢; exact h
  | .eptr cs, v, hn, h => by
    simp only [nof] at hn
    simp only [Rep] at h ⊢
    obtain ⟨b, of, vals, h1, h2, h3⟩ := h
    exact ⟨b, of, vals, h1, h2, Reps.withObj cs vals hn h3⟩
  | .agg cs, v, hn, h => by
    simp only [nof] at hn
    simp only [Rep] at h ⊢
    obtain ⟨vs, h1, h2⟩ := h
    exact ⟨vs, h1, Reps.withObj cs vs hn h2⟩
  | .fn f a b, v, hn, h => by
    simp only [nof, Bool.and_eq_true] at hn
    simp only [Rep] at h ⊢
    obtain ⟨va, vb, h1, h2, h3⟩ := h
    exact ⟨va, vb, h1, Reps.withObj a va hn.1 h2, Reps.withObj b vb hn.2 h3⟩
  | .iface t p, v, hn, h => by
    simp only [nof] at hn
    simp only [Rep] at h ⊢
    obtain ⟨u, h1, h2⟩ := h
    exact ⟨u, h1, Rep.withObj p u hn h2⟩
  | .tuple ps, v, hn, h => by
    simp only [nof] at hn
    simp only [Rep] at h ⊢
    obtain ⟨vs, h1, h2⟩ := h
    exact ⟨vs, h1, Reps.withObj ps vs hn h2⟩
  | .yld .., v, hn, h => by simp only [nof] at hn; cases hn
theorem Reps.withObj {g : Gh} {o : Nat → Option Go.Loop} : ∀ (ps : List PV) (vs : List Value), nofs ps = true → Reps g ps vs → Reps (g.withObj o) ps vs
  | [], vs, _, h => by simp only [Reps] at h ⊢; exact h
  | p :: ps, vs, hn, h => by
    simp only [nofs, Bool.and_eq_true] at hn
    simp only [Reps] at h ⊢
    obtain ⟨v, vs', h1, h2, h3⟩ := h
    exact ⟨v, vs', h1, Rep.withObj p v hn.1 h2, Reps.withObj ps vs' hn.2 h3⟩
theorem Repss.withObj {g : Gh} {o : Nat → Option Go.Loop} : ∀ (cs : List (List PV)) (vs : List Value), nofss cs = true → Repss g cs vs → Repss (g.withObj o) cs vs
  | [], vs, _, h => by simp only [Repss] at h ⊢; exact h
  | c :: cs, vs, hn, h => by
    simp only [nofss, Bool.and_eq_true] at hn
    simp only [Repss] at h ⊢
    obtain ⟨v1, v2, h1, h2, h3⟩ := h
    exact ⟨v1, v2, h1, Reps.withObj c v1 hn.1 h2, Repss.withObj cs v2 hn.2 h3⟩
end
theorem Rep.clean {g : Gh} {o : Nat → Option Go.Loop} {p : PV} {v : Value} (h : Rep g p v) : Rep (g.withObj o) (clean p) v := by
  unfold YthngeddaeoeimaaDoorVE.clean
  split
  · rename_i hn; exact Rep.withObj p v hn h
  · simp only [Rep]
theorem Reps.clean {g : Gh} {o : Nat → Option Go.Loop} : ∀ {ps : List PV} {vs : List Value}, Reps g ps vs → Reps (g.withObj o) (ps.map YthngeddaeoeimaaDoorVE.clean) vs
  | [], vs, h => h
  | p :: ps, vs, h => by
    simp only [Reps] at h
    obtain ⟨v, vs', rfl, h1, h2⟩ := h
    simp only [List.map_cons, Reps]
    exact ⟨v, vs', rfl, h1.clean, h2.clean⟩
theorem locAt_clean (st : St) (l : Nat) : locAt (cleanSt st) l = (locAt st l).map (List.map YthngeddaeoeimaaDoorVE.clean) := by
  unfold locAt cleanSt
  rw [List.getElem?_map]
  cases st.locs[l]? with
  | none => rfl
  | some o => cases o <;> rfl

section putObj
variable {w : World} {l : Nat} {r r' : Go.Loop}
theorem lt_of_obj {k : Nat} {o : Obj} (h : w.heap[k]? = some o) : k < w.heap.size := by
  rcases Nat.lt_or_ge k w.heap.size with h1 | h1
  · exact h1
  · rw [Array.getElem?_eq_none h1] at h; cases h
theorem cell_put {o : Obj} (h : w.heap[l]? = some (.loop r)) (ho : still o = true) (a : Addr) : (w.putObj l o).cell? a = w.cell? a := by
  unfold World.cell?
  by_cases e : a.block = l
  · rw [e, World.putObj_heap_same (lt_of_obj h), h]
    cases o <;> simp_all [still]
  · rw [World.putObj_heap_other e]
theorem froz_put {o : Obj} (h : w.heap[l]? = some (.loop r)) (ho : still o = true) (a : Addr) : (w.putObj l o).frozen? a = w.frozen? a := by
  unfold World.frozen?
  by_cases e : a.block = l
  · rw [e, World.putObj_heap_same (lt_of_obj h), h]
    cases o <;> simp_all [still]
  · rw [World.putObj_heap_other e]
theorem below_put {B : Nat} {o : Obj} (hl : B ≤ l) : Below B w (w.putObj l o) :=
  ⟨rfl, rfl, rfl, by simp, fun k hk => World.putObj_heap_other (by omega)⟩
end putObj

/-- The ghost in which a record is another one, or is not known. -/
def Gh.setObj (g : Gh) (l : Nat) (r : Option Go.Loop) : Gh := g.withObj fun k => if k = l then r else g.obj k
theorem SR.setObj {B : Base} {g : Gh} {st : St} {w : World} {l : Nat} {r r' : Go.Loop} (h : SR B g st w) (hl : B.n ≤ l) (hw : w.heap[l]? = some (.loop r)) (q : Option Go.Loop) (hq : q = some r' ∨ q = none) :
    SR B (g.setObj l q) (cleanSt st) (w.putObj l (.loop r')) where
  nl := by simp [Gh.setObj, Gh.withObj, cleanSt, h.nl]
  nt := h.nt
  old := h.old.trans (below_put hl)
  im := fun b o v hv => by rw [cell_put hw rfl]; exact h.im b o v hv
  mloc := fun b o k hk => by rw [cell_put hw rfl, froz_put hw rfl]; exact h.mloc b o k hk
  mspare := fun b o k hk => by rw [cell_put hw rfl, froz_put hw rfl]; exact h.mspare b o k hk
  loc := fun k cs hk => by
    rw [locAt_clean, Option.map_eq_some_iff] at hk
    obtain ⟨ds, hk, rfl⟩ := hk
    obtain ⟨h1, h2, vals, h3, h4⟩ := h.loc k ds hk
    refine ⟨by rw [List.length_map]; exact h1, h2, vals, h3.clean, fun j v hj => ?_⟩
    rw [cell_put hw rfl]
    exact h4 j v hj
  tok := h.tok
  obj := fun k x hx => by
    simp only [Gh.setObj, Gh.withObj] at hx
    by_cases e : k = l
    · subst e
      rw [if_pos rfl] at hx
      rcases hq with hq | hq
      · rw [hq] at hx
        simp only [Option.some.injEq] at hx
        subst hx
        exact ⟨hl, World.putObj_heap_same (lt_of_obj hw)⟩
      · rw [hq] at hx; cases hx
    · rw [if_neg e] at hx
      exact ⟨(h.obj k x hx).1, by rw [World.putObj_heap_other e]; exact (h.obj k x hx).2⟩

/-- From one moment to a later one, but for one record. -/
structure FrX (B : Base) (wr : Wr) (l : Nat) (g : Gh) (st : St) (w : World) (g' : Gh) (st' : St) (w' : World) : Prop where
  im : ∀ b o v, g.own b o = .im v → g'.own b o = .im v
  nl : g.nl ≤ g'.nl
  nt : g.nt ≤ g'.nt
  base : ∀ l, l < g.nl → g'.base l = g.base l
  ext : ∀ l, l < g.nl → g'.ext l = g.ext l
  reg : ∀ t, t < g.nt → g'.reg t = g.reg t
  objs : ∀ k r, k ≠ l → g.obj k = some r → g'.obj k = some r
  below : Below B w w'
  len : st.locs.length ≤ st'.locs.length
  dead : ∀ l, l < st.locs.length → locAt st l = none → locAt st' l = none
  live : ∀ t, t < st.next → t ∈ st'.live → t ∈ st.live
  keep : ∀ b o, b < w.heap.size → Fixed wr st (g.own b o) → g'.own b o = g.own b o ∧ w'.cell? ⟨b, o, none⟩ = w.cell? ⟨b, o, none⟩
  fz : ∀ b o, b < w.heap.size → w'.frozen? ⟨b, o, none⟩ = w.frozen? ⟨b, o, none⟩
  there : ∀ b o, (w.cell? ⟨b, o, none⟩).isSome = true → (w'.cell? ⟨b, o, none⟩).isSome = true
  ol : ∀ b o l, g'.own b o = .loc l → g.own b o = .loc l ∨ g.nl ≤ l
  obj : ∀ (k : Nat) (o : Obj), k ≠ l → w.heap[k]? = some o → still o = true → w'.heap[k]? = some o
section frx
variable {B : Base} {wr : Wr} {l : Nat} {g g1 g2 : Gh} {st st1 st2 : St} {w w1 w2 : World}
theorem Fr.x (h : Fr B wr g st w g1 st1 w1) (l : Nat) : FrX B wr l g st w g1 st1 w1 :=
  ⟨h.le.im, h.le.nl, h.le.nt, h.le.base, h.le.ext, h.le.reg, fun k r _ hr => h.le.obj k r hr, h.below, h.len, h.dead, h.live, h.keep, h.fz, h.there, h.ol, fun k o _ h1 h2 => h.obj k o h1 h2⟩
theorem FrX.fr (h : FrX B wr l g st w g1 st1 w1) (hw : wr.flr = 0) (h1 : ∀ r, g.obj l = some r → g1.obj l = some r) (h2 : ∀ o : Obj, w.heap[l]? = some o → still o = true → w1.heap[l]? = some o) : Fr B wr g st w g1 st1 w1 :=
  ⟨⟨h.im, h.nl, h.nt, h.base, h.ext, h.reg, fun k r hr => by
      by_cases e : k = l
      · subst e; exact h1 r hr
      · exact h.objs k r e hr⟩, h.below, h.len, fun k _ hk => by simp [Wr.ok, hw] at hk, h.dead, h.live, h.keep, h.fz, h.there, h.ol, fun k o ho hs => by
      by_cases e : k = l
      · subst e; exact h2 o ho hs
      · exact h.obj k o e ho hs⟩
theorem FrX.trans (hs : SR B g st w) (hs1 : SR B g1 st1 w1) (h : FrX B wr l g st w g1 st1 w1) (k : FrX B wr l g1 st1 w1 g2 st2 w2) : FrX B wr l g st w g2 st2 w2 where
  im := fun b o v hv => k.im _ _ _ (h.im _ _ _ hv)
  nl := Nat.le_trans h.nl k.nl
  nt := Nat.le_trans h.nt k.nt
  base := fun l hl => (k.base l (Nat.lt_of_lt_of_le hl h.nl)).trans (h.base l hl)
  ext := fun l hl => (k.ext l (Nat.lt_of_lt_of_le hl h.nl)).trans (h.ext l hl)
  reg := fun t ht => (k.reg t (Nat.lt_of_lt_of_le ht h.nt)).trans (h.reg t ht)
  objs := fun i r hi hr => k.objs i r hi (h.objs i r hi hr)
  below := h.below.trans k.below
  len := Nat.le_trans h.len k.len
  dead := fun l hl hn => k.dead l (Nat.lt_of_lt_of_le hl h.len) (h.dead l hl hn)
  live := fun t ht hm => h.live t ht (k.live t (by have := h.nt; have := hs.nt; have := hs1.nt; omega) hm)
  keep := fun b o hb hf => by
    obtain ⟨h1, h2⟩ := h.keep b o hb hf
    have hf1 : Fixed wr st1 (g1.own b o) := by
      rw [h1]
      cases ho : g.own b o with
      | other => trivial
      | im v => trivial
      | loc l =>
        rw [ho] at hf
        have hl := (hs.mloc b o l ho).1
        rw [hs.nl] at hl
        exact hf.imp id (h.dead l hl)
      | spare t =>
        rw [ho] at hf
        have ht := (hs.mspare b o t ho).1
        rw [hs.nt] at ht
        exact fun hm => hf (h.live t ht hm)
    obtain ⟨h3, h4⟩ := k.keep b o (Nat.lt_of_lt_of_le hb h.below.size) hf1
    exact ⟨h3.trans h1, h4.trans h2⟩
  fz := fun b o hb => (k.fz b o (Nat.lt_of_lt_of_le hb h.below.size)).trans (h.fz b o hb)
  there := fun b o hx => k.there b o (h.there b o hx)
  ol := fun b o l hx => (k.ol b o l hx).elim (h.ol b o l) fun h2 => .inr (Nat.le_trans h.nl h2)
  obj := fun i o hi h1 h2 => k.obj i o hi (h.obj i o hi h1 h2) h2
/-- The record is put anew. -/
theorem FrX.put {r : Go.Loop} {o : Obj} (hl : B.n ≤ l) (hw : w.heap[l]? = some (.loop r)) (ho : still o = true) (q : Option Go.Loop) : FrX B wr l g st w (g.setObj l q) (cleanSt st) (w.putObj l o) where
  im := fun _ _ _ h => h
  nl := Nat.le_refl _
  nt := Nat.le_refl _
  base := fun _ _ => rfl
  ext := fun _ _ => rfl
  reg := fun _ _ => rfl
  objs := fun k r hk hr => by simp only [Gh.setObj, Gh.withObj, if_neg hk]; exact hr
  below := below_put hl
  len := by simp [cleanSt]
  dead := fun k _ hn => by rw [locAt_clean, hn]; rfl
  live := fun _ _ h => h
  keep := fun b o _ _ => ⟨rfl, cell_put hw ho _⟩
  fz := fun b o _ => froz_put hw ho _
  there := fun b o h => by rw [cell_put hw ho]; exact h
  ol := fun _ _ _ h => .inl h
  obj := fun k o' hk h _ => by rw [World.putObj_heap_other hk]; exact h
/-- The record is laid, and a block for deferred calls. -/
theorem SR.enter (h : SR B g st w) (rec : Go.Loop) : SR B (g.setObj (w.heap.size + 1) (some rec)) st ((w.alloc (.deferred (some []))).alloc (.loop rec)) := by
  have hB := h.low
  have hnew : ∀ k r, g.obj k = some r → k < w.heap.size := fun k r hr => lt_of_obj (h.obj k r hr).2
  have hle : Le g (g.setObj (w.heap.size + 1) (some rec)) := ⟨fun _ _ _ h => h, Nat.le_refl _, Nat.le_refl _, fun _ _ => rfl, fun _ _ => rfl, fun _ _ => rfl, fun k r hr => by
    have := hnew k r hr
    simp only [Gh.setObj, Gh.withObj, if_neg (show ¬ k = w.heap.size + 1 by omega)]
    exact hr⟩
  have cell : ∀ b o, b < w.heap.size → ((w.alloc (.deferred (some []))).alloc (.loop rec)).cell? ⟨b, o, none⟩ = w.cell? ⟨b, o, none⟩ := fun b o hb => by
    rw [cell_alloc_old (by rw [World.size_alloc]; omega), cell_alloc_old (by omega)]
  have froz : ∀ b o, b < w.heap.size → ((w.alloc (.deferred (some []))).alloc (.loop rec)).frozen? ⟨b, o, none⟩ = w.frozen? ⟨b, o, none⟩ := fun b o hb => by
    rw [froz_alloc_old (by rw [World.size_alloc]; omega), froz_alloc_old (by omega)]
  have own : ∀ b o, g.own b o ≠ .other → b < w.heap.size := fun b o hb => h.size hb
  refine ⟨h.nl, h.nt, (h.old.alloc hB _).alloc (by rw [World.size_alloc]; omega) _, fun b o v hv => ?_, fun b o k hk => ?_, fun b o k hk => ?_, fun k cs hk => ?_, h.tok, fun k r hr => ?_⟩
  · rw [cell b o (own b o (by intro e; have hv' : g.own b o = .im v := hv; rw [e] at hv'; cases hv'))]
    exact h.im b o v hv
  · have hb := own b o (by intro e; have hk' : g.own b o = .loc k := hk; rw [e] at hk'; cases hk')
    rw [cell b o hb, froz b o hb]
    exact h.mloc b o k hk
  · have hb := own b o (by intro e; have hk' : g.own b o = .spare k := hk; rw [e] at hk'; cases hk')
    rw [cell b o hb, froz b o hb]
    exact h.mspare b o k hk
  · obtain ⟨h1, h2, vals, h3, h4⟩ := h.loc k cs hk
    refine ⟨h1, h2, vals, Reps.mono hle _ _ h3, fun j v hj => ?_⟩
    have h5 := h4 j v hj
    exact (cell _ _ (World.block_lt_of_cell? w _ h5)).trans h5
  · simp only [Gh.setObj, Gh.withObj] at hr
    by_cases e : k = w.heap.size + 1
    · rw [if_pos e] at hr
      simp only [Option.some.injEq] at hr
      subst hr
      subst e
      refine ⟨Nat.le_succ_of_le hB, ?_⟩
      have := World.alloc_heap_new (w.alloc (.deferred (some []))) (.loop rec)
      rwa [World.size_alloc] at this
    · rw [if_neg e] at hr
      exact ⟨(h.obj k r hr).1, obj_alloc (obj_alloc (h.obj k r hr).2)⟩
theorem Fr.enter (h : SR B g st w) (rec : Go.Loop) : Fr B wr g st w (g.setObj (w.heap.size + 1) (some rec)) st ((w.alloc (.deferred (some []))).alloc (.loop rec)) where
  le := ⟨fun _ _ _ h => h, Nat.le_refl _, Nat.le_refl _, fun _ _ => rfl, fun _ _ => rfl, fun _ _ => rfl, fun k r hr => by
    have := lt_of_obj (h.obj k r hr).2
    simp only [Gh.setObj, Gh.withObj, if_neg (show ¬ k = w.heap.size + 1 by omega)]
    exact hr⟩
  below := ((Below.refl B w).alloc h.low _).alloc (by have := h.low; rw [World.size_alloc]; omega) _
  len := Nat.le_refl _
  locs := fun _ _ _ => rfl
  dead := fun _ _ h => h
  live := fun _ _ h => h
  keep := fun b o hb _ => ⟨rfl, by rw [cell_alloc_old (by rw [World.size_alloc]; omega), cell_alloc_old (by omega)]⟩
  fz := fun b o hb => by rw [froz_alloc_old (by rw [World.size_alloc]; omega), froz_alloc_old (by omega)]
  there := fun b o h => there_alloc (there_alloc h)
  ol := fun _ _ _ h => .inl h
  obj := fun k o h _ => obj_alloc (obj_alloc h)
/-- A block of deferred calls is shut. -/
theorem SR.shut {b : Nat} (h : SR B g st w) (hb : B.n ≤ b) (hw : w.heap[b]? = some (.deferred (some []))) : SR B g st (w.putObj b (.deferred none)) := by
  have cell : ∀ a, (w.putObj b (.deferred none)).cell? a = w.cell? a := fun a => by
    unfold World.cell?
    by_cases e : a.block = b
    · rw [e, World.putObj_heap_same (lt_of_obj hw), hw]
    · rw [World.putObj_heap_other e]
  have froz : ∀ a, (w.putObj b (.deferred none)).frozen? a = w.frozen? a := fun a => by
    unfold World.frozen?
    by_cases e : a.block = b
    · rw [e, World.putObj_heap_same (lt_of_obj hw), hw]
    · rw [World.putObj_heap_other e]
  exact ⟨h.nl, h.nt, h.old.trans (below_put hb), fun x o v hv => by rw [cell]; exact h.im x o v hv, fun x o k hk => by rw [cell, froz]; exact h.mloc x o k hk, fun x o k hk => by rw [cell, froz]; exact h.mspare x o k hk,
    fun k cs hk => by
      obtain ⟨h1, h2, vals, h3, h4⟩ := h.loc k cs hk
      exact ⟨h1, h2, vals, h3, fun j v hj => by rw [cell]; exact h4 j v hj⟩, h.tok, fun k r hr => by
      obtain ⟨h1, h2⟩ := h.obj k r hr
      refine ⟨h1, ?_⟩
      rw [World.putObj_heap_other (fun e => by subst e; rw [hw] at h2; cases h2)]
      exact h2⟩
theorem Fr.shut {b : Nat} (h : Fr B wr g st w g1 st1 w1) (hb : w.heap.size ≤ b) (hB : B.n ≤ b) (hw : w1.heap[b]? = some (.deferred (some []))) : Fr B wr g st w g1 st1 (w1.putObj b (.deferred none)) := by
  have cell : ∀ a, (w1.putObj b (.deferred none)).cell? a = w1.cell? a := fun a => by
    unfold World.cell?
    by_cases e : a.block = b
    · rw [e, World.putObj_heap_same (lt_of_obj hw), hw]
    · rw [World.putObj_heap_other e]
  have froz : ∀ a, (w1.putObj b (.deferred none)).frozen? a = w1.frozen? a := fun a => by
    unfold World.frozen?
    by_cases e : a.block = b
    · rw [e, World.putObj_heap_same (lt_of_obj hw), hw]
    · rw [World.putObj_heap_other e]
  exact ⟨h.le, h.below.trans (below_put hB), h.len, h.locs, h.dead, h.live, fun x o hx hf => by rw [cell]; exact h.keep x o hx hf, fun x o hx => by rw [froz]; exact h.fz x o hx, fun x o hx => by rw [cell]; exact h.there x o hx, h.ol, fun k o ho hs => by
    have := lt_of_obj ho
    rw [World.putObj_heap_other (by omega)]
    exact h.obj k o ho hs⟩
end frx
end Go.Proofs.YthngeddaeoeimaaDoorVE
