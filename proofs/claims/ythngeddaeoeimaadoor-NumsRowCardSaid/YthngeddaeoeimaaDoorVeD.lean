import Derived.Test.YthngeddaeoeimaaDoorVeC
namespace Go.Proofs.YthngeddaeoeimaaDoorVE
open Go Go.RowKit
set_option linter.unusedVariables false
set_option linter.unusedSimpArgs false

/-! The spare room of a token is used. -/
def Gh.useTok (g : Gh) (t b e f : Nat) (vs : List Value) : Gh :=
  { g with own := fun b' o => if b' = b ∧ e ≤ o ∧ o < e + vs.length then (match vs[o - e]? with | some v => .im v | none => .other) else
             match g.own b' o with | .spare u => if u = t then .spare g.nt else .spare u | x => x,
           reg := fun u => if u = g.nt then (b, e + vs.length, f) else g.reg u, nt := g.nt + 1 }
def useSt (st : St) (t : Nat) : St := { st with live := st.next :: st.live.filter (fun u => u != t), next := st.next + 1 }
section useTok
variable {B : Base} {g : Gh} {st : St} {w : World} {t b e f : Nat} {vs : List Value}
theorem useTok_own (b' o : Nat) : (g.useTok t b e f vs).own b' o = if b' = b ∧ e ≤ o ∧ o < e + vs.length then (match vs[o - e]? with | some v => .im v | none => .other) else
             match g.own b' o with | .spare u => if u = t then .spare g.nt else .spare u | x => x := rfl
theorem le_useTok (h : SR B g st w) (ht : t ∈ st.live) (hr : g.reg t = (b, e, f)) (hf : e + vs.length ≤ f) : Le g (g.useTok t b e f vs) where
  im := fun b' o v hv => by
    have hs := (h.tok t ht).2
    rw [hr] at hs
    rw [useTok_own, if_neg, hv]
    rintro ⟨rfl, h1, h2⟩
    have := hs o h1 (by simp only at *; omega)
    simp only at this
    rw [hv] at this
    cases this
  nl := Nat.le_refl _
  nt := by simp [Gh.useTok]
  base := fun _ _ => rfl
  ext := fun _ _ => rfl
  reg := fun u hu => by simp only [Gh.useTok, if_neg (show ¬ u = g.nt by omega)]
  obj := fun _ _ h => h
theorem SR.useTok (h : SR B g st w) (ht : t ∈ st.live) (hr : g.reg t = (b, e, f)) (hf : e + vs.length ≤ f) : SR B (g.useTok t b e f vs) (useSt st t) (w.setCells b e vs) := by
  have hle := le_useTok h ht hr hf
  have hs0 := (h.tok t ht).2
  rw [hr] at hs0
  simp only at hs0
  have hs : ∀ o, e ≤ o → o < e + vs.length → g.own b o = .spare t := fun o h1 h2 => hs0 o h1 (by omega)
  have out : ∀ b' o, ¬ (b' = b ∧ e ≤ o ∧ o < e + vs.length) → (w.setCells b e vs).cell? ⟨b', o, none⟩ = w.cell? ⟨b', o, none⟩ := fun b' o ho => by
    refine World.cell?_setCells_out _ _ _ _ _ (fun hb _ => ?_)
    simp only at hb ⊢
    omega
  have hall : ∀ j, j < vs.length → (w.cell? ⟨b, e + j, none⟩).isSome = true := fun j hj => (h.mspare _ _ t (hs (e + j) (by omega) (by omega))).2.2.1
  have hbel : Below B.n B.w (w.setCells b e vs) := by
    rcases Nat.eq_zero_or_pos vs.length with h0 | h0
    · have : vs = [] := List.eq_nil_of_length_eq_zero h0
      subst this
      exact h.old
    · have := (h.mspare _ _ t (hs e (Nat.le_refl _) (by omega))).2.1
      exact Below.setCells (b := b) (o := 0) h.old this vs _ w h.old
  refine ⟨h.nl, by simp [Gh.useTok, useSt, h.nt], hbel, ?_, ?_, ?_, ?_, ?_, fun k r hr => ⟨(h.obj k r hr).1, obj_setCells (h.obj k r hr).2 rfl _ _ (by
    cases hvs : vs with
    | nil => exact .inl rfl
    | cons v vs' => exact .inr ⟨_, hall 0 (by rw [hvs]; simp)⟩)⟩⟩
  · intro b' o v ho
    rw [useTok_own] at ho
    split at ho
    · rename_i hin
      obtain ⟨rfl, h1, h2⟩ := hin
      split at ho
      · rename_i hu
        cases ho
        have := World.cell?_setCells_in b' vs e w hall (o - e) (by omega)
        rw [show e + (o - e) = o by omega] at this
        rw [this, ← hu]
        exact (List.getElem?_eq_getElem (by omega)).symm
      · cases ho
    · rename_i hin
      rw [out b' o hin]
      split at ho
      · split at ho <;> cases ho
      · exact h.im b' o v ho
  · intro b' o l ho
    rw [useTok_own] at ho
    split at ho
    · split at ho <;> cases ho
    · rename_i hin
      split at ho
      · split at ho <;> cases ho
      · obtain ⟨h1, h2, h3, h4⟩ := h.mloc b' o l ho
        exact ⟨h1, h2, by rw [out b' o hin]; exact h3, by rw [World.frozen?_setCells]; exact h4⟩
  · intro b' o u ho
    rw [useTok_own] at ho
    split at ho
    · split at ho <;> cases ho
    · rename_i hin
      split at ho
      · rename_i k hk
        obtain ⟨h1, h2, h3, h4⟩ := h.mspare b' o k hk
        refine ⟨?_, h2, by rw [out b' o hin]; exact h3, by rw [World.frozen?_setCells]; exact h4⟩
        split at ho
        · cases ho; simp [Gh.useTok]
        · cases ho; simp [Gh.useTok]; omega
      · rename_i hx
        exact absurd ho (hx u)
  · intro l ds hl
    obtain ⟨h1, h2, us, h3, h4⟩ := h.loc l ds hl
    have hnin : ∀ j, j < g.ext l → ¬ ((g.base l).1 = b ∧ e ≤ (g.base l).2 + j ∧ (g.base l).2 + j < e + vs.length) := fun j hj hin => by
      have h5 := h2 j hj
      rw [hin.1, hs _ hin.2.1 hin.2.2] at h5
      cases h5
    refine ⟨h1, fun j hj => ?_, us, Reps.mono hle _ _ h3, fun j v hj => ?_⟩
    · show (g.useTok t b e f vs).own (g.base l).1 ((g.base l).2 + j) = _
      rw [useTok_own, if_neg (hnin j hj), h2 j hj]
    · have hj2 : j < ds.length := by rw [← h3.length]; exact (List.getElem?_eq_some_iff.1 hj).1
      show (w.setCells b e vs).cell? ⟨(g.base l).1, (g.base l).2 + j, none⟩ = _
      rw [out _ _ (hnin j (by omega))]
      exact h4 j v hj
  · intro u hu
    simp only [useSt, List.mem_cons, List.mem_filter, bne_iff_ne, ne_eq] at hu
    by_cases hun : u = g.nt
    · subst hun
      refine ⟨by simp [Gh.useTok], fun o h1 h2 => ?_⟩
      simp only [Gh.useTok, if_true] at h1 h2
      show (g.useTok t b e f vs).own ((g.useTok t b e f vs).reg g.nt).1 o = _
      rw [useTok_own]
      simp only [Gh.useTok, if_true]
      rw [if_neg (by omega), hs0 o (by omega) h2]
      simp
    · have hu' : u ∈ st.live ∧ ¬ u = t := by
        rcases hu with rfl | hu
        · exact absurd h.nt.symm hun
        · exact hu
      obtain ⟨h1, h2⟩ := h.tok u hu'.1
      rw [hle.reg u h1]
      refine ⟨by simp [Gh.useTok]; omega, fun o h3 h4 => ?_⟩
      have h5 := h2 o h3 h4
      rw [useTok_own, if_neg]
      · rw [h5]; simp [hu'.2]
      · rintro ⟨h6, h7, h8⟩
        rw [h6, hs o h7 h8] at h5
        injection h5 with h5
        exact hu'.2 h5.symm
theorem Fr.useTok {wr : Wr} (h : SR B g st w) (ht : t ∈ st.live) (hr : g.reg t = (b, e, f)) (hf : e + vs.length ≤ f) : Fr B wr g st w (g.useTok t b e f vs) (useSt st t) (w.setCells b e vs) where
  le := le_useTok h ht hr hf
  below := by
    have hs0 := (h.tok t ht).2
    rw [hr] at hs0
    simp only at hs0
    rcases Nat.eq_zero_or_pos vs.length with h0 | h0
    · have : vs = [] := List.eq_nil_of_length_eq_zero h0
      subst this
      exact Below.refl B w
    · have := (h.mspare _ _ t (hs0 e (Nat.le_refl _) (by omega))).2.1
      exact Below.setCells (b := b) (o := 0) (Below.refl B w) this vs _ w (Below.refl B w)
  len := Nat.le_refl _
  locs := fun _ _ _ => rfl
  dead := fun _ _ h => h
  live := fun u hu hm => by
    simp only [useSt, List.mem_cons, List.mem_filter] at hm
    rcases hm with rfl | hm
    · omega
    · exact hm.1
  keep := fun b' o hb hx => by
    have hs0 := (h.tok t ht).2
    rw [hr] at hs0
    simp only at hs0
    have hnin : ¬ (b' = b ∧ e ≤ o ∧ o < e + vs.length) := by
      rintro ⟨rfl, h1, h2⟩
      rw [hs0 o h1 (by omega)] at hx
      exact hx ht
    refine ⟨?_, World.cell?_setCells_out _ _ _ _ _ (fun hb _ => by simp only at hb ⊢; omega)⟩
    rw [useTok_own, if_neg hnin]
    split
    · rename_i u hu
      rw [hu] at hx
      rw [if_neg (fun (e : u = t) => hx (by rw [e]; exact ht)), hu]
    · rfl
  obj := fun k o h1 h2 => obj_setCells h1 h2 _ _ (by
    cases hvs : vs with
    | nil => exact .inl rfl
    | cons v vs' =>
      have hs0 := (h.tok t ht).2
      rw [hr] at hs0
      simp only at hs0
      rw [hvs, List.length_cons] at hf
      exact .inr ⟨_, (h.mspare _ _ t (hs0 e (Nat.le_refl _) (by omega))).2.2.1⟩)
  fz := fun b o hb => World.frozen?_setCells _ _ _ _ _
  there := fun b o h => isSome_setCells _ _ _ _ _ h
  ol := fun b' o l hx => by
    rw [useTok_own] at hx
    split at hx
    · split at hx <;> cases hx
    · split at hx
      · split at hx <;> cases hx
      · exact .inl hx
theorem im_useTok (g : Gh) (t b e f : Nat) (vs : List Value) : Im (g.useTok t b e f vs) b e vs := fun j v hv => by
  have hj : j < vs.length := (List.getElem?_eq_some_iff.1 hv).1
  rw [useTok_own, if_pos ⟨rfl, by omega, by omega⟩, show e + j - e = j by omega, hv]
end useTok

/-! A location is given up. -/
def killSt (st : St) (l : Nat) : St := { st with locs := st.locs.set l none }
theorem locAt_kill_same (st : St) (l : Nat) : locAt (killSt st l) l = none := by
  unfold locAt killSt
  rcases Nat.lt_or_ge l st.locs.length with h | h
  · simp [h]
  · rw [List.getElem?_eq_none (by simpa using h)]; rfl
theorem locAt_kill_other {st : St} {l k : Nat} (h : l ≠ k) : locAt (killSt st l) k = locAt st k := locAt_set_other h
theorem SR.kill {B : Base} {g : Gh} {st : St} {w : World} (h : SR B g st w) (l : Nat) : SR B g (killSt st l) w :=
  ⟨by simp [killSt, h.nl], h.nt, h.old, h.im, h.mloc, h.mspare, fun k ds hk => by
    by_cases e : l = k
    · subst e; rw [locAt_kill_same] at hk; cases hk
    · rw [locAt_kill_other e] at hk; exact h.loc k ds hk, h.tok, h.obj⟩
theorem Fr.kill {B : Base} {wr : Wr} {g : Gh} {st : St} {w : World} {l : Nat} (hw : wr.ok l = true) : Fr B wr g st w g (killSt st l) w where
  le := Le.refl g
  below := Below.refl B w
  len := by simp [killSt]
  locs := fun k hk hok => locAt_kill_other (fun e => by subst e; rw [hw] at hok; cases hok)
  dead := fun k hk hn => by
    by_cases e : l = k
    · subst e; exact locAt_kill_same st l
    · rw [locAt_kill_other e]; exact hn
  live := fun _ _ h => h
  keep := fun _ _ _ _ => ⟨rfl, rfl⟩
  obj := fun _ _ h _ => h
  fz := fun _ _ _ => rfl
  there := fun _ _ h => h
  ol := fun _ _ _ h => .inl h
/-- A location goes over into a new one, from a place on, and is written behind so many cells. -/
def Gh.moveLoc (g : Gh) (l off : Nat) : Gh :=
  { g with own := fun b o => match g.own b o with | .loc k => if k = l then .loc g.nl else .loc k | x => x,
           base := fun k => if k = g.nl then ((g.base l).1, (g.base l).2 + off) else g.base k, ext := fun k => if k = g.nl then g.ext l - off else g.ext k, nl := g.nl + 1 }
section move
variable {B : Base} {g : Gh} {st : St} {w : World} {l off n : Nat} {cs ns : List PV} {vs : List Value}
theorem le_moveLoc (h : SR B g st w) (l off : Nat) : Le g (g.moveLoc l off) where
  im := fun b' o v hv => by
    show (match g.own b' o with | .loc k => if k = l then Owner.loc g.nl else Owner.loc k | x => x) = _
    rw [hv]
  nl := by simp [Gh.moveLoc]
  nt := Nat.le_refl _
  base := fun k hk => by simp only [Gh.moveLoc, if_neg (show ¬ k = g.nl by omega)]
  ext := fun k hk => by simp only [Gh.moveLoc, if_neg (show ¬ k = g.nl by omega)]
  reg := fun _ _ => rfl
  obj := fun _ _ h => h
theorem SR.moveLoc (h : SR B g st w) (hl : locAt st l = some cs) (hn : off + n ≤ cs.length) (hr : Reps g ns vs) (hx : off + n + vs.length ≤ g.ext l) :
    SR B (g.moveLoc l off) (YthngeddaeoeimaaDoorVE.newLoc (killSt st l) ((cs.drop off).take n ++ ns)) (w.setCells (g.base l).1 ((g.base l).2 + off + n) vs) := by
  have hle := le_moveLoc h l off
  obtain ⟨h1, h2, us, h3, h4⟩ := h.loc l cs hl
  have hlt := locAt_lt hl
  have hnl := h.nl
  have hul : us.length = cs.length := h3.length
  have hvl : vs.length = ns.length := hr.length
  have own' : ∀ b o, (g.moveLoc l off).own b o = match g.own b o with | .loc k => if k = l then .loc g.nl else .loc k | x => x := fun _ _ => rfl
  have klen : (killSt st l).locs.length = g.nl := by simp [killSt, hnl]
  have out : ∀ b o, g.own b o ≠ .loc l → (w.setCells (g.base l).1 ((g.base l).2 + off + n) vs).cell? ⟨b, o, none⟩ = w.cell? ⟨b, o, none⟩ := fun b o ho => by
    refine World.cell?_setCells_out _ _ _ _ _ (fun hb _ => ?_)
    simp only at hb
    subst hb
    simp only
    rcases Nat.lt_or_ge o ((g.base l).2 + off + n) with h5 | h5
    · exact .inl h5
    · rcases Nat.lt_or_ge o ((g.base l).2 + off + n + vs.length) with h6 | h6
      · have := h2 (o - (g.base l).2) (by omega)
        rw [show (g.base l).2 + (o - (g.base l).2) = o by omega] at this
        exact absurd this ho
      · exact .inr h6
  have hall : ∀ j, j < vs.length → (w.cell? ⟨(g.base l).1, (g.base l).2 + off + n + j, none⟩).isSome = true := fun j hj => by
    have := (h.mloc _ _ l (h2 (off + n + j) (by omega))).2.2.1
    rwa [show (g.base l).2 + (off + n + j) = (g.base l).2 + off + n + j by omega] at this
  have hbel : Below B.n B.w (w.setCells (g.base l).1 ((g.base l).2 + off + n) vs) := by
    rcases Nat.eq_zero_or_pos vs.length with h0 | h0
    · have : vs = [] := List.eq_nil_of_length_eq_zero h0
      subst this
      exact h.old
    · have := (h.mloc _ _ l (h2 0 (by omega))).2.1
      exact Below.setCells (b := (g.base l).1) (o := 0) h.old this vs _ w h.old
  refine ⟨by simp [Gh.moveLoc, YthngeddaeoeimaaDoorVE.newLoc, klen], h.nt, hbel, ?_, ?_, ?_, ?_, ?_, fun k r hr => ⟨(h.obj k r hr).1, obj_setCells (h.obj k r hr).2 rfl _ _ (by
    cases hvs : vs with
    | nil => exact .inl rfl
    | cons v vs' => exact .inr ⟨_, hall 0 (by rw [hvs]; simp)⟩)⟩⟩
  · intro b o v ho
    rw [own'] at ho
    split at ho
    · split at ho <;> cases ho
    · rw [out b o (by rw [ho]; exact fun e => by cases e)]
      exact h.im b o v ho
  · intro b o k ho
    rw [own'] at ho
    split at ho
    · rename_i k' hk'
      obtain ⟨h5, h6, h7, h8⟩ := h.mloc b o k' hk'
      refine ⟨?_, h6, isSome_setCells _ _ _ _ _ h7, by rw [World.frozen?_setCells]; exact h8⟩
      split at ho
      · cases ho; simp [Gh.moveLoc]
      · cases ho; simp [Gh.moveLoc]; omega
    · rename_i hx
      exact absurd ho (hx k)
  · intro b o t ho
    rw [own'] at ho
    split at ho
    · split at ho <;> cases ho
    · obtain ⟨h5, h6, h7, h8⟩ := h.mspare b o t ho
      exact ⟨h5, h6, isSome_setCells _ _ _ _ _ h7, by rw [World.frozen?_setCells]; exact h8⟩
  · intro k ds hk
    rcases locAt_newLoc_some hk with ⟨hkl, hk⟩ | ⟨rfl, rfl⟩
    · rw [klen] at hkl
      have hne : l ≠ k := fun e => by subst e; rw [locAt_kill_same] at hk; cases hk
      rw [locAt_kill_other hne] at hk
      obtain ⟨h5, h6, us', h7, h8⟩ := h.loc k ds hk
      rw [hle.ext k hkl, hle.base k hkl]
      refine ⟨h5, fun j hj => by rw [own', h6 j hj]; simp [Ne.symm hne], us', Reps.mono hle _ _ h7, fun j v hj => ?_⟩
      have hj2 : j < ds.length := by rw [← h7.length]; exact (List.getElem?_eq_some_iff.1 hj).1
      rw [out _ _ (by rw [h6 j (by omega)]; intro e; injection e with e; exact hne e.symm)]
      exact h8 j v hj
    · rw [klen]
      simp only [Gh.moveLoc, if_true]
      have hlen : ((cs.drop off).take n ++ ns).length = n + vs.length := by rw [List.length_append, List.length_take, List.length_drop]; omega
      refine ⟨by rw [hlen]; omega, fun j hj => ?_, (us.drop off).take n ++ vs, ?_, fun j v hj => ?_⟩
      · have h5 := h2 (off + j) (by omega)
        rw [Nat.add_assoc, h5]
        simp
      · exact Reps.mono hle _ _ (((h3.drop off).take n).append hr)
      · have htl : ((us.drop off).take n).length = n := by rw [List.length_take, List.length_drop]; omega
        rcases Nat.lt_or_ge j n with hj1 | hj1
        · rw [List.getElem?_append_left (by omega), List.getElem?_take, if_pos hj1, List.getElem?_drop] at hj
          rw [World.cell?_setCells_out _ _ _ _ _ (fun _ _ => .inl (by simp; omega))]
          have := h4 (off + j) v hj
          rwa [show (g.base l).2 + (off + j) = (g.base l).2 + off + j by omega] at this
        · rw [List.getElem?_append_right (by omega), htl] at hj
          obtain ⟨hj3, hj4⟩ := List.getElem?_eq_some_iff.1 hj
          have := World.cell?_setCells_in (g.base l).1 vs ((g.base l).2 + off + n) w hall (j - n) hj3
          rw [show (g.base l).2 + off + n + (j - n) = (g.base l).2 + off + j by omega] at this
          rw [this, hj4]
  · intro t ht
    obtain ⟨h5, h6⟩ := h.tok t ht
    refine ⟨h5, fun o h7 h8 => ?_⟩
    have h9 : g.own (g.reg t).1 o = .spare t := h6 o h7 h8
    show (g.moveLoc l off).own (g.reg t).1 o = _
    rw [own', h9]
theorem Fr.moveLoc {wr : Wr} (h : SR B g st w) (hl : locAt st l = some cs) (hx : off + n + vs.length ≤ g.ext l) (hw : wr.ok l = true) (ds : List PV) :
    Fr B wr g st w (g.moveLoc l off) (YthngeddaeoeimaaDoorVE.newLoc (killSt st l) ds) (w.setCells (g.base l).1 ((g.base l).2 + off + n) vs) where
  le := le_moveLoc h l off
  below := by
    obtain ⟨h1, h2, _⟩ := h.loc l cs hl
    rcases Nat.eq_zero_or_pos vs.length with h0 | h0
    · have : vs = [] := List.eq_nil_of_length_eq_zero h0
      subst this
      exact Below.refl B w
    · have := (h.mloc _ _ l (h2 0 (by omega))).2.1
      exact Below.setCells (b := (g.base l).1) (o := 0) (Below.refl B w) this vs _ w (Below.refl B w)
  len := by simp [YthngeddaeoeimaaDoorVE.newLoc, killSt]
  locs := fun k hk hok => by
    have hne : l ≠ k := fun e => by subst e; rw [hw] at hok; cases hok
    rw [locAt_newLoc_old (by simp [killSt]; exact hk), locAt_kill_other hne]
  dead := fun k hk hn => by
    rw [locAt_newLoc_old (by simp [killSt]; exact hk)]
    by_cases e : l = k
    · subst e; exact locAt_kill_same st l
    · rw [locAt_kill_other e]; exact hn
  live := fun _ _ h => h
  keep := fun b o hb hf => by
    obtain ⟨h1, h2, us, h3, h4⟩ := h.loc l cs hl
    have hno : g.own b o ≠ .loc l := fun e => by
      rw [e] at hf
      rcases hf with hf | hf
      · rw [hw] at hf; cases hf
      · rw [hl] at hf; cases hf
    refine ⟨?_, World.cell?_setCells_out _ _ _ _ _ (fun hb _ => ?_)⟩
    · show (match g.own b o with | .loc k => if k = l then Owner.loc g.nl else Owner.loc k | x => x) = _
      split
      · rename_i k hk
        rw [if_neg (fun e => hno (by rw [hk, e])), hk]
      · rfl
    · simp only at hb
      subst hb
      simp only
      rcases Nat.lt_or_ge o ((g.base l).2 + off + n) with h5 | h5
      · exact .inl h5
      · rcases Nat.lt_or_ge o ((g.base l).2 + off + n + vs.length) with h6 | h6
        · have := h2 (o - (g.base l).2) (by omega)
          rw [show (g.base l).2 + (o - (g.base l).2) = o by omega] at this
          exact absurd this hno
        · exact .inr h6
  obj := fun k o h1' h2' => obj_setCells h1' h2' _ _ (by
    cases hvs : vs with
    | nil => exact .inl rfl
    | cons v vs' =>
      obtain ⟨h1, h2, _⟩ := h.loc l cs hl
      rw [hvs, List.length_cons] at hx
      exact .inr ⟨(g.base l).2 + (off + n), (h.mloc _ _ l (h2 (off + n) (by omega))).2.2.1⟩)
  fz := fun b o hb => World.frozen?_setCells _ _ _ _ _
  there := fun b o h => isSome_setCells _ _ _ _ _ h
  ol := fun b o k hx => by
    have hx' : (match g.own b o with | .loc k => if k = l then Owner.loc g.nl else Owner.loc k | x => x) = .loc k := hx
    split at hx'
    · rename_i k' hk'
      split at hx'
      · cases hx'; exact .inr (Nat.le_refl _)
      · cases hx'; exact .inl hk'
    · exact .inl hx'
end move
end Go.Proofs.YthngeddaeoeimaaDoorVE
