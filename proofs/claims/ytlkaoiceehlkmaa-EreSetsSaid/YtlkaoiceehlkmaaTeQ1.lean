import Derived.Test.YtlkaoiceehlkmaaTeN1
namespace Go.Proofs.YtlkaoiceehlkmaaTE
open Go Go.Proofs.YtlkaoiceehlkmaaVE
set_option linter.unusedVariables false
set_option linter.unusedSimpArgs false

/-- What an elder relation speaks of goes over from a younger one to a third. -/
theorem VRs.scope {X : TX} {r0 r1 R : Rn} (hX : XOk X) (hw : Wf r0) (hlo : ∀ l, l < r0.nl → R.lo l = r1.lo l) (hto : ∀ t, t < r0.nt → R.to t = r1.to t) (hfz : ∀ k cs, r1.fz k = some cs → R.fz k = some cs) (hnt : r0.nt ≤ R.nt) {ps : List (TV X.A)} {q0 : List PV} (h0 : VRs X r0 ps q0) :
    ∀ {qs : List PV}, VRs X r1 ps qs → VRs X R ps qs := by
  have ep : ∀ {t : TypeId} {n : Nat} {a : X.A t} {q : PV}, X.wd t = some n → VRs X r1 [.eptr (X.lay t a)] [q] → VRs X R [.eptr (X.lay t a)] [q] := fun hn h => by
    cases h with
    | eptr h _ => exact .eptr (h.lay hX hn) .nil
    | eptrF h1 h2 h3 h4 _ => exact .eptrF (hfz _ _ h1) h2 h3 (h4.lay hX hn) .nil
  have ref : ∀ {t : TypeId} {l off len : Nat} {x : Option Nat} {ps : List (TV X.A)}, r0.lo l = some x → (∀ {qs : List PV}, VRs X r1 ps qs → VRs X R ps qs) → ∀ {qs : List PV}, VRs X r1 (.ref t l off len :: ps) qs → VRs X R (.ref t l off len :: ps) qs := fun hl ih qs h => by
    have e := hlo _ (hw.lo _ _ hl)
    cases h with
    | refn k h => exact .refn (e.trans k) (ih h)
    | ref k1 k2 h => exact .ref k1 (e.trans k2) (ih h)
    | refe k1 k2 k3 h => exact .refe k1 (e.trans k2) k3 (ih h)
  have flg : ∀ {f : TF} {f1 f2 : Flag}, FlagR r0 f f1 → FlagR r1 f f2 → FlagR R f f2 := fun {f f1 f2} h1 h2 => by
    cases f with
    | sh => trivial
    | own t =>
      refine ⟨Nat.lt_of_lt_of_le h1.1 hnt, h2.2.imp id (Or.imp id ?_)⟩
      rintro ⟨u, e1, e2⟩
      exact ⟨u, e1, (hto t h1.1).trans e2⟩
  induction h0 with
  | nil => intro qs h; cases h; exact .nil
  | any _ ih => intro qs h; cases h with | any h => exact .any (ih h)
  | bool _ ih => intro qs h; cases h with | bool h => exact .bool (ih h)
  | int _ ih => intro qs h; cases h with | int h => exact .int (ih h)
  | str _ ih => intro qs h; cases h with | str h => exact .str (ih h)
  | cst _ _ ih => intro qs h; cases h with | cst k h => exact .cst k (ih h)
  | row k1 k2 k3 k4 k5 _ ih1 ih =>
    intro qs h
    cases h with
    | row j1 j2 j3 j4 j5 h =>
      exact .row j1 j2 (fun i a c ha hc => (j3 i a c ha hc).lay hX j1) j4 (flg k5 j5) (ih h)
  | refn k _ ih => exact ref k ih
  | ref k1 k2 _ ih => exact ref k2 ih
  | refe k1 k2 k3 _ ih => exact ref k2 ih
  | agg _ _ ih1 ih => intro qs h; cases h with | agg k h => exact .agg (ih1 k) (ih h)
  | ptr k _ ih => intro qs h; cases h with | ptr j h => exact .ptr ((hlo _ (hw.lo _ _ k)).trans j) (ih h)
  | aptr k1 k2 _ ih => intro qs h; cases h with | aptr j1 j2 h => exact .aptr j1 ((hlo _ (hw.lo _ _ k2)).trans j2) (ih h)
  | iptr k1 k2 k3 _ ih => intro qs h; cases h with | iptr j1 j2 j3 h => exact .iptr ((hlo _ (hw.lo _ _ k1)).trans j1) j2 j3 (ih h)
  | eptr _ _ ih1 ih =>
    intro qs h
    cases h with
    | eptr j h => exact .eptr (ih1 j) (ih h)
    | eptrF j1 j2 j3 j4 h => exact .eptrF (hfz _ _ j1) j2 j3 (ih1 j4) (ih h)
  | eptrF _ _ _ _ _ ih1 ih =>
    intro qs h
    cases h with
    | eptr j h => exact .eptr (ih1 j) (ih h)
    | eptrF j1 j2 j3 j4 h => exact .eptrF (hfz _ _ j1) j2 j3 (ih1 j4) (ih h)
  | optn _ ih =>
    intro qs h
    cases h with
    | optn h => exact .optn (ih h)
  | opts k1 _ _ ih1 ih =>
    intro qs h
    cases h with
    | opts j1 j2 h => exact .opts j1 (ep j1 j2) (ih h)
  | nilt _ ih => intro qs h; cases h with | nilt h => exact .nilt (ih h)
  | nilf _ _ ih => intro qs h; cases h with | nilf k h => exact .nilf k (ih h)
  | fn _ _ _ ih1 ih2 ih => intro qs h; cases h with | fn k1 k2 h => exact .fn (ih1 k1) (ih2 k2) (ih h)
  | tuple _ _ ih1 ih => intro qs h; cases h with | tuple k h => exact .tuple (ih1 k) (ih h)
  | yld _ _ ih1 ih => intro qs h; cases h with | yld k h => exact .yld (ih1 k) (ih h)

section coerce
open Classical in
/-- The relation behind a coercion. -/
noncomputable def Rj (r0 r1 : Rn) (sv : St) (n0 T : Nat) (A : XA) : Rn where
  lo j := if j < n0 then r0.lo j else match A.bl[j - n0]? with
    | some (some l) => r1.lo l
    | some none => some none
    | none => none
  to t := if t < T then r0.to t else match A.bt[t - T]? with
    | some (some u) => r1.to u
    | _ => none
  fz k := match r1.fz k with
    | some cs => some cs
    | none => if ∃ l, l ∈ A.fz ∧ r1.lo l = some (some k) then locAt sv k else none
  nl := n0 + A.bl.length
  nt := T + A.bt.length
  fo := r1.fo
  fr := r1.fr
variable {X : TX} {r0 r1 : Rn} {st0 st1 : TS X.A} {sv0 sv1 : St} {A : XA}
theorem Rj.fzk {n0 T : Nat} {k : Nat} {cs : List PV} (h : r1.fz k = some cs) : (Rj r0 r1 sv1 n0 T A).fz k = some cs := by
  simp only [Rj, h]
theorem Rj.ext (hs0 : SRel X r0 st0 sv0) (he : Ext r0 r1) : Ext r0 (Rj r0 r1 sv1 st0.locs.length st0.next A) :=
  ⟨by rw [hs0.nl]; simp [Rj], by rw [hs0.nt]; simp [Rj], fun l hl => by simp only [Rj]; rw [if_pos (by rw [← hs0.nl]; exact hl)], fun t ht => by simp only [Rj]; rw [if_pos (by rw [← hs0.nt]; exact ht)], fun k cs hk => Rj.fzk (he.fz k cs hk), he.fo, he.fr⟩
theorem Rj.br (hs0 : SRel X r0 st0 sv0) (he : Ext r0 r1) (hs1 : SRel X r1 st1 sv1) : Br X sv1 st0.locs.length st0.next id A r1 (Rj r0 r1 sv1 st0.locs.length st0.next A) := by
  refine ⟨fun j x hj h => ?_, fun i l x hi h => ?_, fun i hi => ?_, fun i hi => ?_, fun i u w hi h => ?_, fun k cs h => Rj.fzk h, fun l hl k cs' h1 h2 => ?_⟩
  · simp only [Rj, id]
    rw [if_pos hj]
    exact (he.lo j (by rw [hs0.nl]; exact hj)).symm.trans h
  · simp only [Rj, id]
    rw [if_neg (by omega), show st0.locs.length + i - st0.locs.length = i by omega, hi]
    exact h
  · simp only [Rj, id]
    rw [if_neg (by omega), show st0.locs.length + i - st0.locs.length = i by omega, hi]
  · simp only [Rj]; omega
  · simp only [Rj]
    rw [if_neg (by omega), show st0.next + i - st0.next = i by omega, hi]
    exact h
  · simp only [Rj]
    cases hf : r1.fz k with
    | some cs =>
      have := (hs1.fz k cs hf).1
      rw [this] at h2
      simpa using h2
    | none => simp only []; rw [if_pos ⟨l, hl, h1⟩]; exact h2

/-- What is found so far of a location. -/
def Good (X : TX) (R : Rn) (sv : St) (l : Nat) (c : TL X.A) : Prop := (∃ k cs', R.lo l = some (some k) ∧ locAt sv k = some cs' ∧ LocR X R c cs') ∨ (R.lo l = some none ∧ ∃ t n, X.wd t = some n ∧ c = .arr t [])
def LiveOk {A0 : TypeId → Type} (st1 : TS A0) (n0 : Nat) (A : XA) (l : Nat) : Prop := (l < n0 → (tloc st1 l).isSome = true) ∧ (n0 ≤ l → ∃ o, A.bl[l - n0]? = some o ∧ ∀ l', o = some l' → (tloc st1 l').isSome = true)
def tmpsIn (s : List (Get × Ds)) : List Tmp := s.filterMap fun x => match x.1 with
  | .tmp t => some t
  | _ => none
structure Inv (X : TX) (R : Rn) (st1 : TS X.A) (sv1 : St) (tm1' : List PV) (n0 T : Nat) (A : XA) (H : List Nat) (acc : List (TV X.A) × TS X.A) (a : XA) (rem : List (Get × Ds)) : Prop where
  next : acc.2.next = T + a.bt.length
  live : ∀ t ∈ acc.2.live, (T ≤ t ∧ t < acc.2.next) ∨ t ∈ H
  len : ∃ c, acc.2.locs.length = n0 + c ∧ newIx rem = List.range' c (newIx rem).length ∧ c + (newIx rem).length = A.bl.length
  wrote : acc.2.wrote = []
  tlen : acc.1.length = tm1'.length
  tm : ∀ t, t ∉ tmpsIn rem → VR X R (acc.1.getD t .any) (tm1'.getD t .any)
  loc : ∀ l c, tloc acc.2 l = some c → l ∉ modsOf rem → Good X R sv1 l c ∧ LiveOk st1 n0 A l
theorem extL_cons {tm : List (TV X.A)} {st : TS X.A} {n0 : Nat} {x : Get × Ds} {s : List (Get × Ds)} {a a2 : XA} {v : dens X.A (sds (x :: s))} (h : extL X tm st n0 (x :: s) a = some (v, a2)) :
    ∃ p w a1 ws, getX X tm st a x.1 = some p ∧ ext1 X st n0 x.2 p a = some (w, a1) ∧ extL X tm st n0 s a1 = some (ws, a2) ∧ (v : x.2.den X.A × dens X.A (s.map (·.2))) = (w, ws) := by
  have h : (match getX X tm st a x.1 with
    | some p => match ext1 X st n0 x.2 p a with
      | some (v, a1) => match extL X tm st n0 s a1 with
        | some (vs, a2) => some ((v, vs), a2)
        | none => none
      | none => none
    | none => none) = some (v, a2) := h
  cases hg : getX X tm st a x.1 with
  | none => rw [hg] at h; cases h
  | some p =>
    rw [hg] at h
    simp only at h
    cases h1 : ext1 X st n0 x.2 p a with
    | none => rw [h1] at h; cases h
    | some wa =>
      obtain ⟨w, a1⟩ := wa
      rw [h1] at h
      simp only at h
      cases h2 : extL X tm st n0 s a1 with
      | none => rw [h2] at h; cases h
      | some wsa =>
        obtain ⟨ws, a2'⟩ := wsa
        rw [h2] at h
        obtain ⟨rfl, rfl⟩ := some_pair h
        exact ⟨p, w, a1, ws, rfl, h1, h2, rfl⟩
theorem injL_cons {mu : Nat → Nat} {y : Get × Ds} {s : List (Get × Ds)} {v : dens X.A (sds (y :: s))} {acc : List (TV X.A) × TS X.A} :
    injL X mu (y :: s) v acc = injL X mu s (v : y.2.den X.A × dens X.A (s.map (·.2))).2 (putG X mu y.1 (inj1 X mu y.2 (v : y.2.den X.A × dens X.A (s.map (·.2))).1 acc.2.next).1 (inj1 X mu y.2 (v : y.2.den X.A × dens X.A (s.map (·.2))).1 acc.2.next).2 acc) := rfl
/-- What has been found is sound. -/
structure XG (X : TX) (st : TS X.A) (n0 : Nat) (a : XA) : Prop where
  ge : ∀ (i : Nat) l, a.bl[i]? = some (some l) → n0 ≤ l
  inj : ∀ (i j : Nat) l, a.bl[i]? = some (some l) → a.bl[j]? = some (some l) → i = j
  live : ∀ (i : Nat) u, a.bt[i]? = some (some u) → u ∈ st.live
  tinj : ∀ (i j : Nat) u, a.bt[i]? = some (some u) → a.bt[j]? = some (some u) → i = j
  fz : ∀ l ∈ a.fz, n0 ≤ l ∧ ∃ cs t n x, tloc st l = some (.cells cs) ∧ X.wd t = some n ∧ X.dec t cs = some x
def Stp (X : TX) (st : TS X.A) (n0 : Nat) (a a' : XA) : Prop := XLe a a' ∧ (XG X st n0 a → XG X st n0 a')
theorem Stp.refl {st : TS X.A} {n0 : Nat} (a : XA) : Stp X st n0 a a := ⟨XLe.refl a, id⟩
theorem Stp.trans {st : TS X.A} {n0 : Nat} {a b c : XA} (h : Stp X st n0 a b) (k : Stp X st n0 b c) : Stp X st n0 a c := ⟨h.1.trans k.1, k.2 ∘ h.2⟩
theorem get_snoc {α : Type} {l : List α} {x y : α} {i : Nat} (h : (l ++ [x])[i]? = some y) : l[i]? = some y ∨ (i = l.length ∧ y = x) := by
  rw [List.getElem?_append] at h
  split at h
  · exact .inl h
  · rename_i hi
    rcases Nat.lt_or_ge l.length i with h2 | h2
    · rw [List.getElem?_eq_none (by simp; omega)] at h; cases h
    · have : i = l.length := by omega
      subst this
      simp at h
      exact .inr ⟨rfl, h.symm⟩
theorem bindL_stp {st : TS X.A} {n0 j : Nat} {l : Option Nat} {a a' : XA} (h : bindL n0 j l a = some a') : Stp X st n0 a a' := by
  unfold bindL at h
  split at h
  · split at h
    · simp only [Option.some.injEq] at h; subst h; exact Stp.refl a
    · cases h
  · split at h
    · split at h
      · split at h
        · simp only [Option.some.injEq] at h; subst h; exact Stp.refl a
        · cases h
      · cases h
    · split at h
      · split at h
        · rename_i l
          split at h
          · rename_i hc
            simp only [Option.some.injEq] at h
            subst h
            refine ⟨⟨List.prefix_append _ _, List.prefix_refl _, fun _ h => h⟩, fun g => ⟨fun i m hm => ?_, fun i k m hi hk => ?_, g.live, g.tinj, g.fz⟩⟩
            · rcases get_snoc hm with h1 | ⟨_, h1⟩
              · exact g.ge i m h1
              · simp only [Option.some.injEq] at h1; subst h1; exact hc.1
            · rcases get_snoc hi with h1 | ⟨e1, h1⟩ <;> rcases get_snoc hk with h2 | ⟨e2, h2⟩
              · exact g.inj i k m h1 h2
              · simp only [Option.some.injEq] at h2; subst h2
                exact absurd (List.mem_of_getElem? h1) hc.2
              · simp only [Option.some.injEq] at h1; subst h1
                exact absurd (List.mem_of_getElem? h2) hc.2
              · omega
          · cases h
        · simp only [Option.some.injEq] at h
          subst h
          refine ⟨⟨List.prefix_append _ _, List.prefix_refl _, fun _ h => h⟩, fun g => ⟨fun i m hm => ?_, fun i k m hi hk => ?_, g.live, g.tinj, g.fz⟩⟩
          · rcases get_snoc hm with h1 | ⟨_, h1⟩
            · exact g.ge i m h1
            · cases h1
          · rcases get_snoc hi with h1 | ⟨e1, h1⟩ <;> rcases get_snoc hk with h2 | ⟨e2, h2⟩
            · exact g.inj i k m h1 h2
            · cases h2
            · cases h1
            · cases h1
      · cases h
theorem btNone_stp {st : TS X.A} {n0 : Nat} (a : XA) : Stp X st n0 a { a with bt := a.bt ++ [none] } :=
  by
  refine ⟨⟨List.prefix_refl _, List.prefix_append _ _, fun _ h => h⟩, fun g => ⟨g.ge, g.inj, fun i m hm => ?_, fun i k m hi hk => ?_, g.fz⟩⟩
  · rcases get_snoc hm with h1 | ⟨_, h1⟩
    · exact g.live i m h1
    · cases h1
  · rcases get_snoc hi with h1 | ⟨e1, h1⟩ <;> rcases get_snoc hk with h2 | ⟨e2, h2⟩
    · exact g.tinj i k m h1 h2
    · cases h2
    · cases h1
    · cases h1
theorem ownX_stp {st : TS X.A} {n0 : Nat} {f : TF} {a a' : XA} (h : ownX st f a = some a') : Stp X st n0 a a' := by
  unfold ownX at h
  split at h
  · cases h
  · rename_i u
    split at h
    · rename_i hc
      simp only [Option.some.injEq] at h
      subst h
      refine ⟨⟨List.prefix_refl _, List.prefix_append _ _, fun _ h => h⟩, fun g => ⟨g.ge, g.inj, fun i m hm => ?_, fun i k m hi hk => ?_, g.fz⟩⟩
      · rcases get_snoc hm with h1 | ⟨_, h1⟩
        · exact g.live i m h1
        · simp only [Option.some.injEq] at h1; subst h1; exact hc.1
      · rcases get_snoc hi with h1 | ⟨e1, h1⟩ <;> rcases get_snoc hk with h2 | ⟨e2, h2⟩
        · exact g.tinj i k m h1 h2
        · simp only [Option.some.injEq] at h2; subst h2
          exact absurd (List.mem_of_getElem? h1) hc.2
        · simp only [Option.some.injEq] at h1; subst h1
          exact absurd (List.mem_of_getElem? h2) hc.2
        · omega
    · cases h
theorem rowX_stp {st : TS X.A} {n0 : Nat} {t : TypeId} {own : Bool} {p : TV X.A} {a a' : XA} {l : List (X.A t)} (h : rowX X.wd st t own p a = some (l, a')) : Stp X st n0 a a' := by
  unfold rowX at h
  split at h
  · split at h
    · simp only [Option.some.injEq, Prod.mk.injEq] at h
      obtain ⟨_, rfl⟩ := h
      cases own
      · exact Stp.refl a
      · exact btNone_stp a
    · cases h
  · split at h
    · rename_i hu
      subst hu
      split at h
      · split at h
        · rename_i a2 ho
          simp only [Option.some.injEq, Prod.mk.injEq] at h
          obtain ⟨_, rfl⟩ := h
          exact ownX_stp ho
        · cases h
      · simp only [Option.some.injEq, Prod.mk.injEq] at h
        obtain ⟨_, rfl⟩ := h
        exact Stp.refl a
    · cases h
  · cases h
theorem optX_stp {st : TS X.A} {n0 : Nat} {t : TypeId} {p : TV X.A} {a a' : XA} {o : Option (X.A t)} (h : optX X st n0 t p a = some (o, a')) : Stp X st n0 a a' := by
  unfold optX at h
  split at h
  · cases h
  · rename_i hn
    obtain ⟨n, hn⟩ := wd_some hn
    split at h
    · simp only [Option.some.injEq, Prod.mk.injEq] at h
      obtain ⟨_, rfl⟩ := h
      exact Stp.refl a
    · split at h
      · rename_i hu
        subst hu
        simp only [Option.some.injEq, Prod.mk.injEq] at h
        obtain ⟨_, rfl⟩ := h
        exact Stp.refl a
      · cases h
    · split at h
      · simp only [Option.some.injEq, Prod.mk.injEq] at h
        obtain ⟨_, rfl⟩ := h
        exact Stp.refl a
      · cases h
    · rename_i l
      split at h
      · rename_i hl
        split at h
        · rename_i cs hc
          split at h
          · rename_i x hd
            simp only [Option.some.injEq, Prod.mk.injEq] at h
            obtain ⟨_, rfl⟩ := h
            refine ⟨⟨List.prefix_refl _, List.prefix_refl _, fun _ h => List.mem_cons_of_mem _ h⟩, fun g => ⟨g.ge, g.inj, g.live, g.tinj, fun m hm => ?_⟩⟩
            rcases List.mem_cons.1 hm with rfl | hm
            · exact ⟨hl, cs, t, n, x, hc, hn, hd⟩
            · exact g.fz m hm
          · cases h
        · cases h
      · cases h
    · cases h
theorem exts_stp' {st : TS X.A} {n0 : Nat} : ∀ (ds : List Ds), (∀ d ∈ ds, ∀ (p : TV X.A) (a a' : XA) (x : d.den X.A), ext1 X st n0 d p a = some (x, a') → Stp X st n0 a a') → ∀ (ps : List (TV X.A)) (a a' : XA) (x : dens X.A ds), exts X st n0 ds ps a = some (x, a') → Stp X st n0 a a'
  | [], _, ps, a, a', x, h => by
    rw [exts_nil] at h
    split at h
    · obtain ⟨_, rfl⟩ := some_pair h; exact Stp.refl a
    · cases h
  | d :: ds, hd, ps, a, a', x, h => by
    rw [exts_cons] at h
    split at h
    · rename_i c cs
      split at h
      · rename_i y a1 h1
        split at h
        · rename_i ys a2 h2
          obtain ⟨rfl, rfl⟩ := some_pair h
          exact (hd d (List.mem_cons_self ..) c a a1 y h1).trans (exts_stp' ds (fun e he => hd e (List.mem_cons_of_mem _ he)) cs a1 _ ys h2)
        · cases h
      · cases h
    · cases h
theorem ext1_stp {st : TS X.A} {n0 : Nat} : ∀ (n : Nat) (d : Ds), SizeOf.sizeOf d ≤ n → ∀ (p : TV X.A) (a a' : XA) (x : d.den X.A), ext1 X st n0 d p a = some (x, a') → Stp X st n0 a a' := by
  intro n
  induction n with
  | zero => intro d hd; cases d <;> simp at hd
  | succ n ih =>
    intro d hd p a a' x h
    have hmem : ∀ (ds : List Ds), SizeOf.sizeOf ds ≤ n → ∀ (ps : List (TV X.A)) (a a' : XA) (x : dens X.A ds), exts X st n0 ds ps a = some (x, a') → Stp X st n0 a a' := fun ds hl => exts_stp' ds fun e he => ih e (by have := List.sizeOf_lt_of_mem he; omega)
    have fin : ∀ {β : Type} {y z : β} {b : XA}, some (y, b) = some (z, a') → Stp X st n0 b a' := fun h => by
      obtain ⟨_, rfl⟩ := some_pair h; exact Stp.refl _
    cases d with
    | any => rw [ext1_any] at h; exact fin h
    | int k =>
      rw [ext1_int] at h
      split at h
      · split at h
        · exact fin h
        · cases h
      · cases h
    | bool =>
      rw [ext1_bool] at h
      split at h
      · exact fin h
      · cases h
    | str =>
      rw [ext1_str] at h
      split at h
      · exact fin h
      · cases h
    | row t own => rw [ext1_row] at h; exact rowX_stp h
    | optp t => rw [ext1_optp] at h; exact optX_stp h
    | eptr t =>
      rw [ext1_eptr] at h
      split at h
      · cases h
      · split at h
        · split at h
          · exact fin h
          · cases h
        · cases h
    | ptr j off =>
      rw [ext1_ptr] at h
      split at h
      · split at h
        · split at h
          · rename_i hb
            obtain ⟨_, rfl⟩ := some_pair h
            exact bindL_stp hb
          · cases h
        · cases h
      · cases h
    | ref t j =>
      rw [ext1_ref] at h
      split at h
      · cases h
      · split at h
        · split at h
          · split at h
            · rename_i hb
              obtain ⟨_, rfl⟩ := some_pair h
              exact bindL_stp hb
            · cases h
          · cases h
        · split at h
          · rename_i hb
            obtain ⟨_, rfl⟩ := some_pair h
            exact bindL_stp hb
          · cases h
        · cases h
    | agg ds =>
      rw [ext1_agg] at h
      cases p with
      | agg cs => exact hmem ds (by simp at hd; omega) cs a a' x h
      | _ => cases h
    | sct t =>
      rw [ext1_sct] at h
      split at h
      · cases h
      · split at h
        · split at h
          · exact fin h
          · cases h
        · cases h
    | nilp =>
      rw [ext1_nilp] at h
      split at h
      · exact fin h
      · cases h
    | nils =>
      rw [ext1_nils] at h
      split at h
      · exact fin h
      · cases h
    | nili =>
      rw [ext1_nili] at h
      split at h
      · exact fin h
      · exact fin h
      · cases h
    | fn g u v =>
      rw [ext1_fn] at h
      cases p with
      | fn g' pu pv =>
        have h : (if g = g' then (match exts X st n0 u pu a with
          | some (du, a1) => match exts X st n0 v pv a1 with
            | some (dv, a2) => some ((du, dv), a2)
            | none => none
          | none => none) else none) = some (x, a') := h
        by_cases hg : g = g'
        · rw [if_pos hg] at h
          cases hu : exts X st n0 u pu a with
          | none => rw [hu] at h; cases h
          | some w1 =>
            obtain ⟨du, a1⟩ := w1
            rw [hu] at h
            cases hv2 : exts X st n0 v pv a1 with
            | none => simp only [hv2] at h; cases h
            | some w2 =>
              obtain ⟨dv, a2⟩ := w2
              simp only [hv2] at h
              obtain ⟨_, rfl⟩ := some_pair h
              exact (hmem u (by simp at hd; omega) _ _ _ _ hu).trans (hmem v (by simp at hd; omega) _ _ _ _ hv2)
        · rw [if_neg hg] at h; cases h
      | _ => cases h
theorem extL_stp {n0 : Nat} {st : TS X.A} {tm : List (TV X.A)} : ∀ {s : List (Get × Ds)} {a a2 : XA} {v : dens X.A (s.map (·.2))}, extL X tm st n0 s a = some (v, a2) → Stp X st n0 a a2
  | [], a, a2, v, h => by
    have h : some ((), a) = some (v, a2) := h
    obtain ⟨_, rfl⟩ := some_pair h
    exact Stp.refl a
  | x :: s, a, a2, v, h => by
    obtain ⟨p, w, a1, ws, h1, h2, h3, _⟩ := extL_cons h
    exact (ext1_stp _ _ (Nat.le_refl _) p a a1 w h2).trans (extL_stp h3)
end coerce
end Go.Proofs.YtlkaoiceehlkmaaTE

namespace Go.Proofs.YtlkaoiceehlkmaaTE
open Go Go.Proofs.YtlkaoiceehlkmaaVE
set_option linter.unusedVariables false
set_option linter.unusedSimpArgs false

section put
variable {X : TX} {r1 R : Rn} {st1 : TS X.A} {sv1 : St} {A : XA} {n0 T : Nat} {tm1 : List (TV X.A)} {tm1' : List PV} {H : List Nat}
/-- What may lie at a location. -/
def isLocD : Ds → Bool
  | .agg _ | .row _ false => true
  | _ => false
theorem content_ok (hX : XOk X) (hs : SRel X r1 st1 sv1) (hb : Br X sv1 n0 T id A r1 R) {d : Ds} {c : TL X.A} {l1 : Nat} {a a1 : XA} {w : d.den X.A} (hd : isLocD d = true) (hc : tloc st1 l1 = some c) (h : ext1 X st1 n0 d (contT c) a = some (w, a1)) (hle : XLe a1 A) :
    (inj1 X id d w (T + a.bt.length)).2 = T + a1.bt.length ∧ ∀ l, (∀ x, r1.lo l1 = some x → R.lo l = some x) → Good X R sv1 l (toL X (inj1 X id d w (T + a.bt.length)).1) := by
  cases d with
  | agg ds =>
    cases c with
    | arr t l => rw [ext1_agg] at h; cases h
    | cells cs =>
      rcases hs.loc l1 _ hc with ⟨k, cs', h1, h2, h3⟩ | ⟨_, _, _, _, h3⟩
      · obtain ⟨_, e2, e3⟩ := ext1_ok hs hb hX _ (.agg ds) (Nat.le_refl _) (.agg cs) a w a1 (.agg cs') h hle (.agg h3 .nil)
        refine ⟨e2, fun l hl => ?_⟩
        rw [inj1_agg] at e3 ⊢
        cases e3 with
        | agg e3 _ => exact .inl ⟨k, cs', hl _ h1, h2, e3⟩
      · cases h3
  | row t own =>
    cases own with
    | true => cases hd
    | false =>
      rw [ext1_row] at h
      cases c with
      | cells cs => cases h
      | arr u l2 =>
        have h : (if h : u = t then some (h ▸ l2, a) else none) = some (w, a1) := h
        split at h
        · rename_i hu
          subst hu
          obtain ⟨rfl, rfl⟩ := some_pair h
          refine ⟨by rw [inj1_rowF], fun l hl => ?_⟩
          rw [inj1_rowF]
          rcases hs.loc l1 _ hc with ⟨k, cs', h1, h2, h3⟩ | ⟨h1, t', n', h2, h3⟩
          · exact .inl ⟨k, cs', hl _ h1, h2, LocR.plainA hX h3⟩
          · exact .inr ⟨hl _ h1, t', n', h2, h3⟩
        · cases h
  | _ => cases hd
theorem nilrow_ok {d : Ds} {a a1 : XA} {w : d.den X.A} (hd : isLocD d = true) (h : ext1 X st1 n0 d (.cst (.slice none 0 0)) a = some (w, a1)) :
    (inj1 X id d w (T + a.bt.length)).2 = T + a1.bt.length ∧ ∀ l, R.lo l = some none → Good X R sv1 l (toL X (inj1 X id d w (T + a.bt.length)).1) := by
  cases d with
  | agg ds => rw [ext1_agg] at h; cases h
  | row t own =>
    cases own with
    | true => cases hd
    | false =>
      rw [ext1_row] at h
      have h : (match X.wd t with
        | some _ => some (([] : List (X.A t)), a)
        | none => none) = some (w, a1) := h
      rw [inj1_rowF]
      split at h
      · rename_i n hn
        obtain ⟨e1, e2⟩ := some_pair h
        refine ⟨by rw [e2], fun l hl => .inr ⟨hl, t, n, hn, ?_⟩⟩
        show TL.arr t w = .arr t []
        rw [← e1]
      · cases h
  | _ => cases hd
theorem getX_loc {a : XA} {l : Nat} {p : TV X.A} (h : getX X tm1 st1 a (.loc l) = some p) : ∃ c, tloc st1 l = some c ∧ p = contT c := by
  have h : (tloc st1 l).map contT = some p := h
  rw [Option.map_eq_some_iff] at h
  obtain ⟨c, h1, h2⟩ := h
  exact ⟨c, h1, h2.symm⟩
theorem getX_new {a : XA} {i : Nat} {p : TV X.A} (h : getX X tm1 st1 a (.new i) = some p) : (∃ l c, a.bl[i]? = some (some l) ∧ tloc st1 l = some c ∧ p = contT c) ∨ (a.bl[i]? = some none ∧ p = .cst (.slice none 0 0)) := by
  have h : (match a.bl[i]? with
    | some (some l) => (tloc st1 l).map contT
    | some none => some (.cst (.slice none 0 0))
    | none => none) = some p := h
  split at h
  · rename_i l hl
    rw [Option.map_eq_some_iff] at h
    obtain ⟨c, h1, h2⟩ := h
    exact .inl ⟨l, c, hl, h1, h2.symm⟩
  · rename_i hl
    simp only [Option.some.injEq] at h
    exact .inr ⟨hl, h.symm⟩
  · cases h
theorem mem_newToks {n n' t : Nat} {live : List Nat} (h : t ∈ (List.range (n' - n)).map (n + ·) ++ live) : (n ≤ t ∧ t < n') ∨ t ∈ live := by
  rcases List.mem_append.1 h with h | h
  · obtain ⟨i, hi, rfl⟩ := List.mem_map.1 h
    simp only [List.mem_range] at hi
    exact .inl ⟨by omega, by omega⟩
  · exact .inr h
/-- What the way back does to the state's tokens. -/
def upd (acc : List (TV X.A) × TS X.A) (n : Nat) : TS X.A := { acc.2 with live := (List.range (n - acc.2.next)).map (acc.2.next + ·) ++ acc.2.live, next := n }
theorem put_ok (hX : XOk X) (hs : SRel X r1 st1 sv1) (hb : Br X sv1 n0 T id A r1 R) (hv : VRs X r1 tm1 tm1') {y : Get × Ds} {s : List (Get × Ds)} {acc : List (TV X.A) × TS X.A} {a a1 : XA} (hI : Inv X R st1 sv1 tm1' n0 T A H acc a (y :: s)) {p : TV X.A} {w : y.2.den X.A}
    (hg : getX X tm1 st1 a y.1 = some p) (h : ext1 X st1 n0 y.2 p a = some (w, a1)) (hle : XLe a1 A) (hlt : ∀ l, y.1 = .loc l → l < n0) (hd : (∃ t, y.1 = .tmp t) ∨ isLocD y.2 = true) :
    Inv X R st1 sv1 tm1' n0 T A H (putG X id y.1 (inj1 X id y.2 w acc.2.next).1 (inj1 X id y.2 w acc.2.next).2 acc) a1 s := by
  obtain ⟨g, d⟩ := y
  simp only at hg h hlt hd w ⊢
  have hle0 : a.bt.length ≤ a1.bt.length := (ext1_stp _ d (Nat.le_refl _) p a a1 w h).1.bt.length_le
  have hn := hI.next
  rw [hn]
  have live : ∀ {n' : Nat}, n' = T + a1.bt.length → ∀ t ∈ (List.range (n' - (T + a.bt.length))).map ((T + a.bt.length) + ·) ++ acc.2.live, (T ≤ t ∧ t < n') ∨ t ∈ H := fun hn' t ht => by
    rcases mem_newToks ht with h1 | h1
    · exact .inl ⟨by omega, h1.2⟩
    · rcases hI.live t h1 with h2 | h2
      · exact .inl ⟨h2.1, by omega⟩
      · exact .inr h2
  cases g with
  | tmp t =>
    have hg : some (tm1.getD t .any) = some p := hg
    simp only [Option.some.injEq] at hg
    subst hg
    obtain ⟨_, e2, e3⟩ := ext1_ok hs hb hX _ d (Nat.le_refl _) _ a w a1 _ h hle (hv.getD t)
    obtain ⟨c, c1, c2⟩ := hI.len
    refine ⟨by show (inj1 X id d w _).2 = _; exact e2, fun t ht => ?_, ⟨c, c1, c2⟩, hI.wrote, by show (acc.1.set t _).length = _; rw [List.length_set]; exact hI.tlen, fun u hu => ?_, fun l cc hl hm => hI.loc l cc hl hm⟩
    · have ht : t ∈ (List.range ((inj1 X id d w (T + a.bt.length)).2 - acc.2.next)).map (acc.2.next + ·) ++ acc.2.live := ht
      rw [hn] at ht
      exact live e2 t ht
    · show VR X R ((acc.1.set t (inj1 X id d w (T + a.bt.length)).1).getD u .any) _
      by_cases htu : t = u
      · subst htu
        rcases Nat.lt_or_ge t acc.1.length with hl | hl
        · have : (acc.1.set t (inj1 X id d w (T + a.bt.length)).1).getD t .any = (inj1 X id d w (T + a.bt.length)).1 := by simp [List.getD, hl]
          rw [this]; exact e3
        · have : (acc.1.set t (inj1 X id d w (T + a.bt.length)).1).getD t .any = .any := by simp [List.getD, List.getElem?_eq_none (show (acc.1.set t (inj1 X id d w (T + a.bt.length)).1).length ≤ t by simpa using hl)]
          rw [this]; exact .any .nil
      · have : (acc.1.set t (inj1 X id d w (T + a.bt.length)).1).getD u .any = acc.1.getD u .any := by simp [List.getD, List.getElem?_set_ne htu]
        rw [this]
        refine hI.tm u fun hm => ?_
        have hm : u ∈ t :: tmpsIn s := hm
        rcases List.mem_cons.1 hm with h1 | h1
        · exact htu h1.symm
        · exact hu h1
  | loc l =>
    have hd : isLocD d = true := by
      rcases hd with ⟨t, ht⟩ | hd
      · cases ht
      · exact hd
    obtain ⟨cc, hc, rfl⟩ := getX_loc hg
    have hln := hlt l rfl
    obtain ⟨e2, e3⟩ := content_ok hX hs hb hd hc h hle
    obtain ⟨c, c1, c2⟩ := hI.len
    have tl : ∀ m, tloc (putG X id (.loc l) (inj1 X id d w (T + a.bt.length)).1 (inj1 X id d w (T + a.bt.length)).2 acc).2 m = if l = m ∧ l < acc.2.locs.length then some (toL X (inj1 X id d w (T + a.bt.length)).1) else tloc acc.2 m := fun m => by
      have := tloc_set (s := acc.2) (o := some (toL X (inj1 X id d w (T + a.bt.length)).1)) (l := l) (k := m)
      rw [← this]; rfl
    refine ⟨e2, fun t ht => ?_, ⟨c, by show (acc.2.locs.set l _).length = _; rw [List.length_set]; exact c1, c2⟩, hI.wrote, hI.tlen, fun u hu => hI.tm u hu, fun m dd hm hnm => ?_⟩
    · have ht : t ∈ (List.range ((inj1 X id d w (T + a.bt.length)).2 - acc.2.next)).map (acc.2.next + ·) ++ acc.2.live := ht
      rw [hn] at ht
      exact live e2 t ht
    · rw [tl] at hm
      split at hm
      · rename_i hh
        obtain ⟨rfl, _⟩ := hh
        simp only [Option.some.injEq] at hm
        subst hm
        exact ⟨e3 l fun x hx => hb.old l x hln hx, fun _ => by rw [hc]; rfl, fun hge => by omega⟩
      · rename_i hh
        refine hI.loc m dd hm fun hmm => ?_
        have hmm : m ∈ l :: modsOf s := hmm
        rcases List.mem_cons.1 hmm with h1 | h1
        · have := tloc_lt hm
          exact hh ⟨h1.symm, by rw [← h1]; exact this⟩
        · exact hnm h1
  | new i =>
    have hd : isLocD d = true := by
      rcases hd with ⟨t, ht⟩ | hd
      · cases ht
      · exact hd
    obtain ⟨c, c1, c2, c3⟩ := hI.len
    have c2 : i :: newIx s = List.range' c (newIx s).length.succ := c2
    have c3 : c + (newIx s).length.succ = A.bl.length := c3
    rw [List.range'_succ, List.cons.injEq] at c2
    obtain ⟨rfl, c2⟩ := c2
    have tl : ∀ m, tloc (putG X id (.new i) (inj1 X id d w (T + a.bt.length)).1 (inj1 X id d w (T + a.bt.length)).2 acc).2 m = tloc (newL acc.2 (toL X (inj1 X id d w (T + a.bt.length)).1)) m := fun m => rfl
    have hle0 := (ext1_stp _ d (Nat.le_refl _) p a a1 w h).1
    have fin : (inj1 X id d w (T + a.bt.length)).2 = T + a1.bt.length → Good X R sv1 (n0 + i) (toL X (inj1 X id d w (T + a.bt.length)).1) → (∃ o, A.bl[i]? = some o ∧ ∀ l', o = some l' → (tloc st1 l').isSome = true) →
        Inv X R st1 sv1 tm1' n0 T A H (putG X id (.new i) (inj1 X id d w (T + a.bt.length)).1 (inj1 X id d w (T + a.bt.length)).2 acc) a1 s := fun e2 e3 e4 => by
      refine ⟨e2, fun t ht => ?_, ⟨i + 1, by show (acc.2.locs ++ [_]).length = _; rw [List.length_append]; simp [c1]; omega, c2, by omega⟩, hI.wrote, hI.tlen, fun u hu => hI.tm u hu, fun m dd hm hnm => ?_⟩
      · have ht : t ∈ (List.range ((inj1 X id d w (T + a.bt.length)).2 - acc.2.next)).map (acc.2.next + ·) ++ acc.2.live := ht
        rw [hn] at ht
        exact live e2 t ht
      · rw [tl] at hm
        rcases tloc_new hm with ⟨h1, h2⟩ | ⟨h1, h2⟩
        · exact hI.loc m dd h2 hnm
        · subst h2
          rw [h1, c1]
          exact ⟨e3, fun hh => by omega, fun _ => by rw [show n0 + i - n0 = i by omega]; exact e4⟩
    rcases getX_new hg with ⟨l1, cc, hbl, hc, rfl⟩ | ⟨hbl, rfl⟩
    · obtain ⟨e2, e3⟩ := content_ok hX hs hb hd hc h hle
      have hA := pre_get (hle0.trans hle).bl hbl
      exact fin e2 (e3 _ fun x hx => hb.new i l1 x hA hx) ⟨_, hA, fun l' hl' => by simp only [Option.some.injEq] at hl'; subst hl'; rw [hc]; rfl⟩
    · obtain ⟨e2, e3⟩ := nilrow_ok (T := T) (R := R) (sv1 := sv1) hd h
      have hA := pre_get (hle0.trans hle).bl hbl
      exact fin e2 (e3 _ (hb.newn i hA)) ⟨_, hA, fun l' hl' => by cases hl'⟩
theorem inj_ok (hX : XOk X) (hs : SRel X r1 st1 sv1) (hb : Br X sv1 n0 T id A r1 R) (hv : VRs X r1 tm1 tm1') : ∀ {s : List (Get × Ds)} {acc : List (TV X.A) × TS X.A} {a : XA} {v : dens X.A (sds s)}, Inv X R st1 sv1 tm1' n0 T A H acc a s → extL X tm1 st1 n0 s a = some (v, A) → (∀ x ∈ s, (∀ l, x.1 = .loc l → l < n0) ∧ ((∃ t, x.1 = .tmp t) ∨ isLocD x.2 = true)) →
    Inv X R st1 sv1 tm1' n0 T A H (injL X id s v acc) A []
  | [], acc, a, v, hI, h, _ => by
    have h : some ((), a) = some (v, A) := h
    obtain ⟨_, rfl⟩ := some_pair h
    exact hI
  | y :: s, acc, a, v, hI, h, hy => by
    obtain ⟨p, w, a1, ws, h1, h2, h3, h4⟩ := extL_cons h
    rw [injL_cons, h4]
    obtain ⟨g1, g2⟩ := hy y (List.mem_cons_self ..)
    exact inj_ok hX hs hb hv (put_ok hX hs hb hv hI h1 h2 (extL_stp h3).1 g1 g2) h3 (fun x hx => hy x (List.mem_cons_of_mem _ hx))
end put
end Go.Proofs.YtlkaoiceehlkmaaTE

namespace Go.Proofs.YtlkaoiceehlkmaaTE
open Go Go.Proofs.YtlkaoiceehlkmaaVE
set_option linter.unusedVariables false
set_option linter.unusedSimpArgs false

theorem nofs_all : ∀ {qs : List PV}, nofs qs = qs.all nof
  | [] => rfl
  | q :: qs => by simp only [nofs, List.all_cons, nofs_all]
theorem nofss_all : ∀ {xs : List (List PV)}, (∀ c ∈ xs, c.all nof = true) → nofss xs = true
  | [], _ => rfl
  | c :: xs, h => by
    simp only [nofss, nofs_all, Bool.and_eq_true]
    exact ⟨h c (List.mem_cons_self ..), nofss_all fun d hd => h d (List.mem_cons_of_mem _ hd)⟩
theorem VRs.plainNof {X : TX} {r : Rn} (hX : XOk X) {ps : List (TV X.A)} {qs : List PV} (h : VRs X r ps qs) : ps.all (plainC X.wd) = true → qs.all nof = true := by
  induction h with
  | nil => exact fun _ => rfl
  | bool _ ih => exact fun hp => by rw [List.all_cons, Bool.and_eq_true] at hp ⊢; exact ⟨rfl, ih hp.2⟩
  | int _ ih => exact fun hp => by rw [List.all_cons, Bool.and_eq_true] at hp ⊢; exact ⟨rfl, ih hp.2⟩
  | str _ ih => exact fun hp => by rw [List.all_cons, Bool.and_eq_true] at hp ⊢; exact ⟨rfl, ih hp.2⟩
  | @row t l f xs f' n ps qs h1 h2 h3 h4 h5 h ih1 ih =>
    intro hp
    rw [List.all_cons, Bool.and_eq_true] at hp ⊢
    refine ⟨nofss_all fun c hc => ?_, ih hp.2⟩
    obtain ⟨i, hi, rfl⟩ := List.mem_iff_getElem.1 hc
    have h5 : l[i]? = some (l[i]'(by omega)) := by simp [show i < l.length by omega]
    exact ih1 i _ _ h5 (by simp [hi]) ((hX.wd t n h1).2.2.2 _).2
  | _ => intro hp; simp [plainC] at hp
section fin
variable {X : TX} {r0 r1 : Rn} {st0 st1 : TS X.A} {sv0 sv1 : St} {tm0 tm1 : List (TV X.A)} {tm0' tm1' : List PV}
theorem clear_get : ∀ {ds : List Tmp} {tm : List (TV X.A)} {t : Tmp}, (clear X ds tm).getD t .any = if t ∈ ds then .any else tm.getD t .any
  | [], tm, t => by simp [clear]
  | d :: ds, tm, t => by
    have : clear X (d :: ds) tm = clear X ds (tm.set d .any) := rfl
    rw [this, clear_get]
    by_cases h1 : t ∈ ds
    · rw [if_pos h1, if_pos (List.mem_cons_of_mem _ h1)]
    · rw [if_neg h1]
      by_cases h2 : d = t
      · subst h2
        rw [if_pos (List.mem_cons_self ..)]
        rcases Nat.lt_or_ge d tm.length with hl | hl
        · simp [List.getD, hl]
        · simp [List.getD, List.getElem?_eq_none (show (tm.set d TV.any).length ≤ d by simpa using hl)]
      · rw [if_neg (by simp only [List.mem_cons, not_or]; exact ⟨fun e => h2 e.symm, h1⟩)]
        simp [List.getD, List.getElem?_set_ne h2]
theorem clear_len : ∀ {ds : List Tmp} {tm : List (TV X.A)}, (clear X ds tm).length = tm.length
  | [], tm => rfl
  | d :: ds, tm => by
    have : clear X (d :: ds) tm = clear X ds (tm.set d .any) := rfl
    rw [this, clear_len, List.length_set]
theorem news_len : ∀ s : List (Get × Ds), news s = (newIx s).length
  | [] => rfl
  | ⟨g, d⟩ :: s => by
    have ih := news_len s
    unfold news newIx at ih ⊢
    cases g <;> simp [ih]
theorem mod_mem {s : List (Get × Ds)} {l : Nat} (h : isMod s l = true) : l ∈ modsOf s := by
  unfold isMod at h
  rw [List.any_eq_true] at h
  obtain ⟨⟨g, d⟩, hx, hg⟩ := h
  unfold modsOf
  rw [List.mem_filterMap]
  refine ⟨⟨g, d⟩, hx, ?_⟩
  cases g with
  | loc k => simp only [beq_iff_eq] at hg; subst hg; rfl
  | _ => cases hg
theorem loc_mem {s : List (Get × Ds)} {x : Get × Ds} {l : Nat} (hx : x ∈ s) (hl : x.1 = .loc l) : l ∈ modsOf s := by
  unfold modsOf
  rw [List.mem_filterMap]
  exact ⟨x, hx, by rw [hl]⟩
theorem injL_old : ∀ {s : List (Get × Ds)} {v : dens X.A (sds s)} {acc : List (TV X.A) × TS X.A} {l : Nat}, l < acc.2.locs.length → l ∉ modsOf s → tloc (injL X id s v acc).2 l = tloc acc.2 l
  | [], _, _, _, _, _ => rfl
  | ⟨g, d⟩ :: s, v, acc, l, hl, hm => by
    rw [injL_cons]
    cases g with
    | tmp t =>
      rw [injL_old (by exact hl) (by exact hm)]
      rfl
    | loc k =>
      have hm : l ∉ k :: modsOf s := hm
      rw [List.mem_cons, not_or] at hm
      rw [injL_old (by simpa [putG] using hl) hm.2]
      show (((acc.2.locs.set k _)[l]?).join) = _
      rw [List.getElem?_set_ne (fun e => hm.1 e.symm)]
      rfl
    | new i =>
      rw [injL_old (by simp [putG]; omega) (by exact hm)]
      show (((acc.2.locs ++ [_])[l]?).join) = _
      rw [List.getElem?_append_left hl]
      rfl
/-- A state goes over into its shape: with all that is known of it. -/
theorem coerceA (hX : XOk X) {sh : Shape} {ts : List Tmp} {v : dens X.A (sds sh.srcs)} (hs0 : SRel X r0 st0 sv0) (hv0 : VRs X r0 tm0 tm0') (he : Ext r0 r1) (hs1 : SRel X r1 st1 sv1) (hv1 : VRs X r1 tm1 tm1')
    (hsame : ∀ l, l < st0.locs.length → l ∉ st1.wrote → l ∉ modsOf sh.srcs → tloc st1 l = tloc st0 l) (hS : Same ts tm0' tm1') (hcov : ∀ t ∈ ts, t ∈ sh.dead ∨ t ∈ tmpsIn sh.srcs) (hok : shOk st0.locs.length sh.srcs = true) (hx : extr X sh tm0 st0 tm1 st1 = some v) :
    ∃ A R, (extL X tm1 st1 st0.locs.length sh.srcs ⟨[], [], []⟩ = some (v, A) ∧ R = Rj r0 r1 sv1 st0.locs.length st0.next A ∧ XG X st1 st0.locs.length A ∧
      ∀ l k, (tloc (shape X sh st0 tm0 v).2 l).isSome = true → R.lo l = some (some k) → ∃ m, r1.lo m = some (some k) ∧ (tloc st1 m).isSome = true ∧ ((l < st0.locs.length ∧ m = l) ∨ (st0.locs.length ≤ l ∧ A.bl[l - st0.locs.length]? = some (some m)))) ∧
      Ext r0 R ∧ SRel X R (shape X sh st0 tm0 v).2 sv1 ∧ VRs X R (shape X sh st0 tm0 v).1 tm1' ∧ (shape X sh st0 tm0 v).2.wrote = [] ∧ st0.locs.length ≤ (shape X sh st0 tm0 v).2.locs.length ∧ st0.next ≤ (shape X sh st0 tm0 v).2.next ∧
      (∀ l, l < st0.locs.length → l ∉ modsOf sh.srcs → tloc (shape X sh st0 tm0 v).2 l = tloc st0 l) ∧ (∀ u ∈ (shape X sh st0 tm0 v).2.live, u < st0.next → u ∈ st0.live) := by
  unfold extr at hx
  cases hL : extL X tm1 st1 st0.locs.length sh.srcs ⟨[], [], []⟩ with
  | none => rw [hL] at hx; cases hx
  | some w =>
    obtain ⟨v', A⟩ := w
    rw [hL] at hx
    simp only at hx
    split at hx
    · rename_i hc
      simp only [Option.some.injEq] at hx
      subst hx
      simp only [Bool.and_eq_true, List.all_eq_true, Bool.not_eq_true', beq_iff_eq, decide_eq_true_eq, Bool.or_eq_true] at hc
      obtain ⟨⟨⟨c1, c2⟩, c3⟩, c4⟩ := hc
      simp only [shOk, Bool.and_eq_true, beq_iff_eq, List.all_eq_true, decide_eq_true_eq] at hok
      obtain ⟨⟨o1, o2⟩, o3⟩ := hok
      have hg : XG X st1 st0.locs.length A := (extL_stp hL).2 ⟨fun i l h => by simp at h, fun i j l h => by simp at h, fun i u h => by simp at h, fun i j u h => by simp at h, fun l h => by simp at h⟩
      let R := Rj r0 r1 sv1 st0.locs.length st0.next A
      have hb : Br X sv1 st0.locs.length st0.next id A r1 R := Rj.br hs0 he hs1
      have hE : Ext r0 R := Rj.ext hs0 he
      have hscope : ∀ {ps : List (TV X.A)} {q0 qs : List PV}, VRs X r0 ps q0 → VRs X r1 ps qs → VRs X R ps qs := fun h1 h2 =>
        VRs.scope hX hs0.wf (fun l hl => (hE.lo l hl).trans (he.lo l hl).symm) (fun t ht => (hE.to t ht).trans (he.to t ht).symm) (fun k cs hk => Rj.fzk hk) hE.nt h1 h2
      have hold : ∀ l, l < st0.locs.length → l ∉ modsOf sh.srcs → tloc st1 l = tloc st0 l := fun l hl hm => hsame l hl (fun hw => by
        rcases c3 l hw with h | h
        · omega
        · exact hm (mod_mem h)) hm
      have hI0 : Inv X R st1 sv1 tm1' st0.locs.length st0.next A (liveH X sh tm0 st0) (clear X sh.dead tm0, { st0 with live := liveH X sh tm0 st0, wrote := [] }) ⟨[], [], []⟩ sh.srcs := by
        refine ⟨rfl, fun t ht => .inr ht, ⟨0, rfl, ?_, ?_⟩, rfl, ?_, fun t ht => ?_, fun l c hc hm => ?_⟩
        · rw [← List.range_eq_range']; exact o1
        · rw [c4, news_len]; omega
        · show (clear X sh.dead tm0).length = _
          rw [clear_len, hv0.length, hS.len]
        · show VR X R ((clear X sh.dead tm0).getD t .any) _
          rw [clear_get]
          split
          · exact .any .nil
          · rename_i hd
            have hts : t ∉ ts := fun h => (hcov t h).elim hd ht
            have e : tm1'.getD t .any = tm0'.getD t .any := by simp [List.getD, hS.get t hts]
            rw [e]
            exact hscope (hv0.getD t) ((hv0.getD t).mono hs0.wf he)
        · have hc : tloc st0 l = some c := hc
          have hl := tloc_lt hc
          have h1 := hold l hl hm
          rw [hc] at h1
          refine ⟨?_, fun _ => by rw [h1]; rfl, fun hge => by omega⟩
          have hlo : ∀ x, r1.lo l = some x → R.lo l = some x := fun x hx => hb.old l x hl hx
          rcases hs1.loc l c h1 with ⟨k, cs', g1, g2, g3⟩ | ⟨g1, g2⟩
          · refine .inl ⟨k, cs', hlo _ g1, g2, ?_⟩
            cases c with
            | arr t as => exact LocR.plainA hX g3
            | cells cs =>
              rcases hs0.loc l _ hc with ⟨k0, cs0, _, _, g4⟩ | ⟨_, _, _, _, g4⟩
              · exact hscope g4 g3
              · cases g4
          · exact .inr ⟨hlo _ g1, g2⟩
      have hmod : ∀ x ∈ sh.srcs, (∀ l, x.1 = .loc l → l < st0.locs.length) ∧ ((∃ t, x.1 = .tmp t) ∨ isLocD x.2 = true) := fun x hx => by
        refine ⟨fun l hl => o2 l (loc_mem hx hl), ?_⟩
        unfold locD at o3
        rw [List.all_eq_true] at o3
        have := o3 x hx
        obtain ⟨g, d⟩ := x
        cases g with
        | tmp t => exact .inl ⟨t, rfl⟩
        | loc l => right; simp only at this; cases d <;> first | rfl | (cases this; done) | skip
                   rename_i t own; cases own <;> first | rfl | cases this
        | new l => right; simp only at this; cases d <;> first | rfl | (cases this; done) | skip
                   rename_i t own; cases own <;> first | rfl | cases this
      have hI := inj_ok hX hs1 hb hv1 hI0 hL hmod
      have hsh : shape X sh st0 tm0 v' = injL X id sh.srcs v' (clear X sh.dead tm0, { st0 with live := liveH X sh tm0 st0, wrote := [] }) := rfl
      rw [hsh]
      generalize hacc : injL X id sh.srcs v' (clear X sh.dead tm0, { st0 with live := liveH X sh tm0 st0, wrote := [] }) = acc at hI
      obtain ⟨cc, l1, _, l3⟩ := hI.len
      have l3 : cc + 0 = A.bl.length := l3
      have hloc : ∀ l c, tloc acc.2 l = some c → Good X R sv1 l c ∧ LiveOk st1 st0.locs.length A l := fun l c hc => hI.loc l c hc (by simp [modsOf])
      -- what a location is in the state behind
      have back : ∀ l k, (tloc acc.2 l).isSome = true → R.lo l = some (some k) → ∃ m, r1.lo m = some (some k) ∧ (tloc st1 m).isSome = true ∧ ((l < st0.locs.length ∧ m = l) ∨ (st0.locs.length ≤ l ∧ A.bl[l - st0.locs.length]? = some (some m))) := fun l k hl hk => by
        obtain ⟨c, hc⟩ := Option.isSome_iff_exists.1 hl
        obtain ⟨_, g1, g2⟩ := hloc l c hc
        rcases Nat.lt_or_ge l st0.locs.length with h | h
        · exact ⟨l, by rw [he.lo l (by rw [hs0.nl]; exact h)]; exact (hE.lo l (by rw [hs0.nl]; exact h)).symm.trans hk, g1 h, .inl ⟨h, rfl⟩⟩
        · obtain ⟨o, ho, g3⟩ := g2 h
          have hk : (if l < st0.locs.length then r0.lo l else match A.bl[l - st0.locs.length]? with
            | some (some l) => r1.lo l
            | some none => some none
            | none => none) = some (some k) := hk
          rw [if_neg (by omega), ho] at hk
          cases o with
          | none => cases hk
          | some m => exact ⟨m, hk, g3 m rfl, .inr ⟨h, ho⟩⟩
      have rto : ∀ t u, R.to t = some u → (t < st0.next ∧ r1.to t = some u) ∨ (st0.next ≤ t ∧ ∃ w, A.bt[t - st0.next]? = some (some w) ∧ r1.to w = some u) := fun t u hu => by
        have hu : (if t < st0.next then r0.to t else match A.bt[t - st0.next]? with
          | some (some u) => r1.to u
          | _ => none) = some u := hu
        split at hu
        · rename_i h
          exact .inl ⟨h, (he.to t (by rw [hs0.nt]; exact h)).trans hu⟩
        · rename_i h
          split at hu
          · rename_i w hw
            exact .inr ⟨by omega, w, hw, hu⟩
          · cases hu
      have hH : ∀ t ∈ liveH X sh tm0 st0, t ∈ st1.live ∧ some t ∉ A.bt ∧ t < st0.next := fun t ht => by
        obtain ⟨⟨h1, h2⟩, h3⟩ := c2 t ht
        exact ⟨by simpa using h1, by simpa using h2, h3⟩
      have hHm : ∀ t ∈ liveH X sh tm0 st0, t ∈ st0.live := fun t ht => by
        unfold liveH at ht
        exact (List.mem_filter.1 ht).1
      have hlv : ∀ t ∈ acc.2.live, (t < st0.next → t ∈ liveH X sh tm0 st0) := fun t ht hlt => by
        rcases hI.live t ht with h | h
        · omega
        · exact h
      refine ⟨A, R, ⟨rfl, rfl, hg, back⟩, hE, ⟨⟨fun l x hx => ?_, fun t u hu => ?_⟩, ?_, ?_, fun l c hc => (hloc l c hc).1, fun a b k ia ib ha hb' => ?_, fun k cs hk => ?_, fun t u ht hu => ?_, fun a b u ha hb' hau hbu => ?_, fun t ht => ?_, hs1.fo, hs1.vlt, fun k cs hk => ?_⟩, ?_, hI.wrote, by omega, by rw [hI.next]; omega, fun l hl hm => ?_, fun u hu hlt => hHm u (hlv u hu hlt)⟩
      · have hx : (if l < st0.locs.length then r0.lo l else match A.bl[l - st0.locs.length]? with
          | some (some l) => r1.lo l
          | some none => some none
          | none => none) = some x := hx
        show l < st0.locs.length + A.bl.length
        split at hx
        · omega
        · rename_i hn
          have : (A.bl[l - st0.locs.length]?).isSome = true := by
            cases hq : A.bl[l - st0.locs.length]? with
            | none => rw [hq] at hx; cases hx
            | some _ => rfl
          obtain ⟨o, ho⟩ := Option.isSome_iff_exists.1 this
          have := (List.getElem?_eq_some_iff.1 ho).1
          omega
      · show t < st0.next + A.bt.length
        rcases rto t u hu with ⟨h, _⟩ | ⟨h, w, hw, _⟩
        · omega
        · have := (List.getElem?_eq_some_iff.1 hw).1
          omega
      · show st0.locs.length + A.bl.length = _
        omega
      · show st0.next + A.bt.length = _
        rw [hI.next]
      · obtain ⟨m, m1, m2, m3⟩ := back a k ia ha
        obtain ⟨n, n1, n2, n3⟩ := back b k ib hb'
        have := hs1.inj m n k m2 n2 m1 n1
        subst this
        rcases m3 with ⟨m3, rfl⟩ | ⟨m3, m4⟩ <;> rcases n3 with ⟨n3, e⟩ | ⟨n3, n4⟩
        · exact e
        · have := hg.ge _ _ n4; omega
        · subst e; have := hg.ge _ _ m4; omega
        · have := hg.inj _ _ _ m4 n4; omega
      · have hk' : (match r1.fz k with
          | some cs => some cs
          | none => if ∃ l, l ∈ A.fz ∧ r1.lo l = some (some k) then locAt sv1 k else none) = some cs := hk
        cases hf : r1.fz k with
        | some ds =>
          rw [hf] at hk'
          simp only [Option.some.injEq] at hk'
          subst hk'
          obtain ⟨g1, g2, g3⟩ := hs1.fz k ds hf
          refine ⟨g1, fun l hl hlk => ?_, g3⟩
          obtain ⟨m, m1, m2, _⟩ := back l k hl hlk
          exact g2 m m2 m1
        | none =>
          rw [hf] at hk'
          simp only at hk'
          split at hk'
          · rename_i hex
            obtain ⟨l, hl, hlk⟩ := hex
            obtain ⟨z1, cs0, t, n, x, z2, z3, z4⟩ := hg.fz l hl
            refine ⟨hk', fun m hm hmk => ?_, ?_⟩
            · obtain ⟨q, q1, q2, q3⟩ := back m k hm hmk
              have := hs1.inj q l k q2 (by rw [z2]; rfl) q1 hlk
              subst this
              rcases q3 with ⟨q3, rfl⟩ | ⟨q3, q4⟩
              · omega
              · have h5 := c1 q hl
                have h6 : some q ∈ A.bl := List.mem_of_getElem? q4
                simp [h6] at h5
            · rcases hs1.loc l _ z2 with ⟨k', cs', y1, y2, y3⟩ | ⟨_, _, _, _, y3⟩
              · rw [hlk] at y1
                simp only [Option.some.injEq] at y1
                subst y1
                rw [y2] at hk'
                simp only [Option.some.injEq] at hk'
                subst hk'
                exact (hX.dec t n z3 _ _ z4 r1 _ y3).plainNof hX ((hX.wd t n z3).2.2.2 x).2
              · cases y3
          · cases hk'
      · rcases rto t u hu with ⟨h, h1⟩ | ⟨h, w, hw, h1⟩
        · exact hs1.live t u (hH t (hlv t ht h)).1 h1
        · exact hs1.live w u (hg.live _ w hw) h1
      · rcases rto a u hau with ⟨h, h1⟩ | ⟨h, w, hw, h1⟩ <;> rcases rto b u hbu with ⟨h', h1'⟩ | ⟨h', w', hw', h1'⟩
        · exact hs1.tinj a b u (hH a (hlv a ha h)).1 (hH b (hlv b hb' h')).1 h1 h1'
        · have := hs1.tinj a w' u (hH a (hlv a ha h)).1 (hg.live _ w' hw') h1 h1'
          subst this
          exact absurd (List.mem_of_getElem? hw') (hH a (hlv a ha h)).2.1
        · have := hs1.tinj b w u (hH b (hlv b hb' h')).1 (hg.live _ w hw) h1' h1
          subst this
          exact absurd (List.mem_of_getElem? hw) (hH b (hlv b hb' h')).2.1
        · have := hs1.tinj w w' u (hg.live _ w hw) (hg.live _ w' hw') h1 h1'
          subst this
          have := hg.tinj _ _ _ hw hw'
          omega
      · rcases hI.live t ht with h | h
        · exact h.2
        · have := (hH t h).2.2
          rw [hI.next]; omega
      · obtain ⟨g1, g2, g4⟩ := hs1.fr k cs hk
        refine ⟨g1, fun l hl hlk => ?_, ?_⟩
        · obtain ⟨m, m1, m2, _⟩ := back l k hl hlk
          exact g2 m m2 m1
        · show (match r1.fz k with
          | some cs => some cs
          | none => if ∃ l, l ∈ A.fz ∧ r1.lo l = some (some k) then locAt sv1 k else none) = none
          rw [g4]
          simp only
          rw [if_neg]
          rintro ⟨l, hl, hlk⟩
          obtain ⟨z1, cs0, t, n, x, z2, z3, z4⟩ := hg.fz l hl
          exact g2 l (by rw [z2]; rfl) hlk
      · refine VRs.mk' hI.tlen fun i p q hp hq => ?_
        have := hI.tm i (by simp [tmpsIn])
        simpa [List.getD, hp, hq] using this
      · rw [← hacc]
        rw [injL_old (by exact hl) hm]
        rfl
    · cases hx
/-- A state goes over into its shape. -/
theorem coerce (hX : XOk X) {sh : Shape} {ts : List Tmp} {v : dens X.A (sds sh.srcs)} (hs0 : SRel X r0 st0 sv0) (hv0 : VRs X r0 tm0 tm0') (he : Ext r0 r1) (hs1 : SRel X r1 st1 sv1) (hv1 : VRs X r1 tm1 tm1')
    (hsame : ∀ l, l < st0.locs.length → l ∉ st1.wrote → l ∉ modsOf sh.srcs → tloc st1 l = tloc st0 l) (hS : Same ts tm0' tm1') (hcov : ∀ t ∈ ts, t ∈ sh.dead ∨ t ∈ tmpsIn sh.srcs) (hok : shOk st0.locs.length sh.srcs = true) (hx : extr X sh tm0 st0 tm1 st1 = some v) :
    ∃ R, Ext r0 R ∧ SRel X R (shape X sh st0 tm0 v).2 sv1 ∧ VRs X R (shape X sh st0 tm0 v).1 tm1' ∧ (shape X sh st0 tm0 v).2.wrote = [] ∧ st0.locs.length ≤ (shape X sh st0 tm0 v).2.locs.length ∧ st0.next ≤ (shape X sh st0 tm0 v).2.next ∧
      (∀ l, l < st0.locs.length → l ∉ modsOf sh.srcs → tloc (shape X sh st0 tm0 v).2 l = tloc st0 l) ∧ (∀ u ∈ (shape X sh st0 tm0 v).2.live, u < st0.next → u ∈ st0.live) := by
  obtain ⟨A, R, _, h⟩ := coerceA hX hs0 hv0 he hs1 hv1 hsame hS hcov hok hx
  exact ⟨R, h⟩
end fin
end Go.Proofs.YtlkaoiceehlkmaaTE

namespace Go.Proofs.YtlkaoiceehlkmaaTE
open Go Go.Proofs.YtlkaoiceehlkmaaVE
set_option linter.unusedVariables false
set_option linter.unusedSimpArgs false

section clean
variable {X : TX} {r : Rn}
theorem VRs.nofs (hX : XOk X) {ps : List (TV X.A)} {qs : List PV} (h : VRs X r ps qs) : nofTs ps = true → qs.all nof = true := by
  have row : ∀ {t : TypeId} {n : Nat} {l : List (X.A t)} {xs : List (List PV)}, X.wd t = some n → l.length = xs.length → (∀ (i : Nat) (a : X.A t) (c : List PV), l[i]? = some a → xs[i]? = some c → VRs X r (X.lay t a) c) → ∀ f, nof (.row xs f) = true := fun h1 h2 h3 f => by
    refine nofss_all fun c hc => ?_
    obtain ⟨i, hi, rfl⟩ := List.mem_iff_getElem.1 hc
    rename_i l xs
    have h5 : l[i]? = some (l[i]'(by omega)) := by simp [show i < l.length by omega]
    exact (h3 i _ _ h5 (by simp [hi])).plainNof hX ((hX.wd _ _ h1).2.2.2 _).2
  induction h with
  | nil => exact fun _ => rfl
  | any _ _ => intro hp; simp [nofTs, nofT] at hp
  | bool _ ih => intro hp; simp only [nofTs, Bool.and_eq_true] at hp; rw [List.all_cons, Bool.and_eq_true]; exact ⟨rfl, ih hp.2⟩
  | int _ ih => intro hp; simp only [nofTs, Bool.and_eq_true] at hp; rw [List.all_cons, Bool.and_eq_true]; exact ⟨rfl, ih hp.2⟩
  | str _ ih => intro hp; simp only [nofTs, Bool.and_eq_true] at hp; rw [List.all_cons, Bool.and_eq_true]; exact ⟨rfl, ih hp.2⟩
  | cst hc _ ih =>
    intro hp; simp only [nofTs, Bool.and_eq_true] at hp; rw [List.all_cons, Bool.and_eq_true]
    refine ⟨?_, ih hp.2⟩
    rcases hc with ⟨_, rfl⟩ | ⟨_, rfl⟩ <;> rfl
  | row h1 h2 h3 _ _ _ _ ih => intro hp; simp only [nofTs, Bool.and_eq_true] at hp; rw [List.all_cons, Bool.and_eq_true]; exact ⟨row h1 h2 h3 _, ih hp.2⟩
  | refn _ _ ih => intro hp; simp only [nofTs, Bool.and_eq_true] at hp; rw [List.all_cons, Bool.and_eq_true]; exact ⟨rfl, ih hp.2⟩
  | ref _ _ _ ih => intro hp; simp only [nofTs, Bool.and_eq_true] at hp; rw [List.all_cons, Bool.and_eq_true]; exact ⟨rfl, ih hp.2⟩
  | refe _ _ _ _ ih => intro hp; simp only [nofTs, Bool.and_eq_true] at hp; rw [List.all_cons, Bool.and_eq_true]; exact ⟨rfl, ih hp.2⟩
  | agg _ _ ih1 ih => intro hp; simp only [nofTs, nofT, Bool.and_eq_true] at hp; rw [List.all_cons, Bool.and_eq_true]; exact ⟨by rw [show nof (.agg _) = YtlkaoiceehlkmaaVE.nofs _ from rfl, nofs_all]; exact ih1 hp.1, ih hp.2⟩
  | ptr _ _ ih => intro hp; simp only [nofTs, Bool.and_eq_true] at hp; rw [List.all_cons, Bool.and_eq_true]; exact ⟨rfl, ih hp.2⟩
  | aptr _ _ _ ih => intro hp; simp only [nofTs, Bool.and_eq_true] at hp; rw [List.all_cons, Bool.and_eq_true]; exact ⟨rfl, ih hp.2⟩
  | iptr _ _ _ _ ih => intro hp; simp only [nofTs, Bool.and_eq_true] at hp; rw [List.all_cons, Bool.and_eq_true]; exact ⟨rfl, ih hp.2⟩
  | eptr _ _ _ _ => intro hp; simp [nofTs, nofT] at hp
  | eptrF _ _ _ _ _ _ _ => intro hp; simp [nofTs, nofT] at hp
  | optn _ _ => intro hp; simp [nofTs, nofT] at hp
  | opts _ _ _ _ _ => intro hp; simp [nofTs, nofT] at hp
  | nilt _ _ => intro hp; simp [nofTs, nofT] at hp
  | nilf _ _ _ => intro hp; simp [nofTs, nofT] at hp
  | fn _ _ _ ih1 ih2 ih => intro hp; simp only [nofTs, nofT, Bool.and_eq_true] at hp; rw [List.all_cons, Bool.and_eq_true]; exact ⟨by rw [show nof (.fn _ _ _) = (YtlkaoiceehlkmaaVE.nofs _ && YtlkaoiceehlkmaaVE.nofs _) from rfl, nofs_all, nofs_all, ih1 hp.1.1, ih2 hp.1.2]; rfl, ih hp.2⟩
  | tuple _ _ ih1 ih => intro hp; simp only [nofTs, nofT, Bool.and_eq_true] at hp; rw [List.all_cons, Bool.and_eq_true]; exact ⟨by rw [show nof (.tuple _) = YtlkaoiceehlkmaaVE.nofs _ from rfl, nofs_all]; exact ih1 hp.1, ih hp.2⟩
  | yld _ _ _ _ => intro hp; simp [nofTs, nofT] at hp
theorem clean_clean (p : PV) : YtlkaoiceehlkmaaVE.clean (YtlkaoiceehlkmaaVE.clean p) = YtlkaoiceehlkmaaVE.clean p := by
  unfold YtlkaoiceehlkmaaVE.clean
  split <;> rfl
theorem VR.clean (hX : XOk X) {p : TV X.A} {q : PV} (hp : anyNof p = true) (h : VR X r p q) : VR X r p (clean q) := by
  by_cases ha : p = .any
  · subst ha; exact .any .nil
  · have hn : nofT p = true := by cases p <;> first | exact hp | exact absurd rfl ha
    have := h.nofs hX (by simp [nofTs, hn])
    rw [List.all_cons, Bool.and_eq_true] at this
    unfold YtlkaoiceehlkmaaVE.clean
    rw [if_pos this.1]
    exact h
theorem VRs.cleans (hX : XOk X) : ∀ {ps : List (TV X.A)} {qs : List PV}, ps.all anyNof = true → VRs X r ps qs → VRs X r ps (qs.map clean)
  | [], qs, _, h => by rw [VRs.nil_iff] at h; subst h; exact .nil
  | p :: ps, qs, hp, h => by
    obtain ⟨q, qs2, rfl, h1, h2⟩ := VRs.cons_iff.1 h
    rw [List.all_cons, Bool.and_eq_true] at hp
    exact VRs.cons (h1.clean hX hp.1) (VRs.cleans hX hp.2 h2)
theorem clean_id : ∀ {qs : List PV}, qs.all nof = true → qs.map clean = qs
  | [], _ => rfl
  | q :: qs, h => by
    rw [List.all_cons, Bool.and_eq_true] at h
    rw [List.map_cons, clean_id h.2]
    unfold YtlkaoiceehlkmaaVE.clean
    rw [if_pos h.1]
theorem locAt_clean (v : St) (k : Nat) : locAt (cleanSt v) k = (locAt v k).map (List.map clean) := by
  unfold locAt cleanSt
  simp only [List.getElem?_map]
  cases v.locs[k]? with
  | none => rfl
  | some o => rfl
theorem SRel.clean (hX : XOk X) {s : TS X.A} {v : St} (h : SRel X r s v) (hn : stNof s = true) : SRel X r s (cleanSt v) := by
  refine ⟨h.wf, h.nl, h.nt, fun l c hc => ?_, h.inj, fun k cs hk => ?_, h.live, h.tinj, h.lt, h.fo, h.vlt, fun k cs hk => ?_⟩
  · rcases h.loc l c hc with ⟨k, cs', h1, h2, h3⟩ | h1
    · refine .inl ⟨k, cs'.map YtlkaoiceehlkmaaVE.clean, h1, by rw [locAt_clean, h2]; rfl, ?_⟩
      cases c with
      | cells cs =>
        refine VRs.cleans hX ?_ h3
        unfold stNof at hn
        rw [List.all_eq_true] at hn
        have hm : some (TL.cells cs) ∈ s.locs := by
          unfold tloc at hc
          have hl := tloc_lt hc
          have : s.locs[l]? = some (some (TL.cells cs)) := by
            cases hq : s.locs[l]? with
            | none => rw [hq] at hc; cases hc
            | some o => rw [hq] at hc; simp only [Option.join_some] at hc; rw [hc]
          exact List.mem_of_getElem? this
        exact hn _ hm
      | arr t as =>
        obtain ⟨n, xs, rest, e1, e2, e3, e4⟩ := h3
        refine ⟨n, xs, rest.map YtlkaoiceehlkmaaVE.clean, e1, ?_, e3, e4⟩
        rw [e2, List.map_append]
        congr 1
        refine clean_id ?_
        rw [List.all_eq_true]
        intro q hq
        obtain ⟨c, hc, hqc⟩ := List.mem_flatten.1 hq
        obtain ⟨i, hi, rfl⟩ := List.mem_iff_getElem.1 hc
        have h5 : as[i]? = some (as[i]'(by omega)) := by simp [show i < as.length by omega]
        have := (e4 i _ (xs[i]) h5 (by simp [hi])).plainNof hX ((hX.wd _ _ e1).2.2.2 _).2
        rw [List.all_eq_true] at this
        exact this q hqc
    · exact .inr h1
  · obtain ⟨h1, h2, h3⟩ := h.fz k cs hk
    exact ⟨by rw [locAt_clean, h1]; simp [clean_id h3], h2, h3⟩
  · obtain ⟨h1, h2, h4⟩ := h.fr k cs hk
    refine ⟨.inr ?_, h2, h4⟩
    rw [locAt_clean]
    rcases h1 with h1 | h1
    · rw [h1]; rfl
    · rw [h1]; simp [clean_clean]
/-- What lies at a location may be cleaned. -/
theorem LocR.clean (hX : XOk X) {c : TL X.A} {cs : List PV} (hc : ∀ ds, c = .cells ds → ds.all anyNof = true) (h3 : LocR X r c cs) : LocR X r c (cs.map YtlkaoiceehlkmaaVE.clean) := by
  cases c with
  | cells ds => exact VRs.cleans hX (hc ds rfl) h3
  | arr t as =>
    obtain ⟨n, xs, rest, e1, e2, e3, e4⟩ := h3
    refine ⟨n, xs, rest.map YtlkaoiceehlkmaaVE.clean, e1, ?_, e3, e4⟩
    rw [e2, List.map_append]
    congr 1
    refine clean_id ?_
    rw [List.all_eq_true]
    intro q hq
    obtain ⟨c, hc, hqc⟩ := List.mem_flatten.1 hq
    obtain ⟨i, hi, rfl⟩ := List.mem_iff_getElem.1 hc
    have h5 : as[i]? = some (as[i]'(by omega)) := by simp [show i < as.length by omega]
    have := (e4 i _ (xs[i]) h5 (by simp [hi])).plainNof hX ((hX.wd _ _ e1).2.2.2 _).2
    rw [List.all_eq_true] at this
    exact this q hqc
theorem SRel.wrote {s : TS X.A} {v : St} (h : SRel X r s v) (w : List Nat) : SRel X r { s with wrote := w } v := ⟨h.wf, h.nl, h.nt, h.loc, h.inj, h.fz, h.live, h.tinj, h.lt, h.fo, h.vlt, h.fr⟩
end clean
section code
variable {X : TX} {f : FuncId} {α : Type} {z : α} {tcall : CallT X α}
/-- What a code comes to, with fuel enough. -/
def CodeOk (X : TX) (f : FuncId) {α : Type} (ts : List Tmp) (T : TM X → TS X.A → (Ex → TM X → TS X.A → Option α) → Option α) (V : Nat → List PV → St → Outc) : Prop :=
  ∀ tm st r tm' sv K z, T tm st K = some z → SRel X r st sv → VRs X r tm tm' →
    ∃ e tm2 st2 r' tm2' sv', K e tm2 st2 = some z ∧ Ext r r' ∧ VRs X r' tm2 tm2' ∧ SRel X r' st2 sv' ∧ TFr st st2 ∧ Same ts tm' tm2' ∧ ∃ k0, ∀ k, k0 ≤ k → V k tm' sv = some (e, tm2', sv')
theorem Same.selfTrans {ts : List Tmp} {a b c : List PV} (h : Same ts a b) (k : Same ts b c) : Same ts a c := (h.trans k).mono fun t ht => (List.mem_append.1 ht).elim id id
theorem unroll_ok {ts : List Tmp} {T : TM X → TS X.A → (Ex → TM X → TS X.A → Option α) → Option α} {V : Nat → List PV → St → Outc} (hT : CodeOk X f ts T V) : ∀ n tm st r tm' sv K z, unroll X T K n tm st = some z → SRel X r st sv → VRs X r tm tm' →
    ∃ e tm2 st2 r' tm2' sv', K e tm2 st2 = some z ∧ Ext r r' ∧ VRs X r' tm2 tm2' ∧ SRel X r' st2 sv' ∧ TFr st st2 ∧ Same ts tm' tm2' ∧ ∃ k0, ∀ k m, k0 ≤ k → k0 ≤ m → iter m (V k) tm' sv = some (e, tm2', sv')
  | 0, tm, st, r, tm', sv, K, z, h, _, _ => by cases h
  | n + 1, tm, st, r, tm', sv, K, z, h, hs, hv => by
    have h : T tm st (fun e tm' st' => match e with
      | .normal => unroll X T K n tm' st'
      | e => K e tm' st') = some z := h
    obtain ⟨e, tm2, st2, r1, tm2', sv1, e1, e2, e3, e4, e5, e6, k0, e7⟩ := hT _ _ _ _ _ _ _ h hs hv
    have ex : e ≠ .normal → K e tm2 st2 = some z → ∃ e tm2 st2 r' tm2' sv', K e tm2 st2 = some z ∧ Ext r r' ∧ VRs X r' tm2 tm2' ∧ SRel X r' st2 sv' ∧ TFr st st2 ∧ Same ts tm' tm2' ∧ ∃ k0, ∀ k m, k0 ≤ k → k0 ≤ m → iter m (V k) tm' sv = some (e, tm2', sv') := fun hne hK => by
      refine ⟨e, tm2, st2, r1, tm2', sv1, hK, e2, e3, e4, e5, e6, k0 + 1, fun k m hk hm => ?_⟩
      obtain ⟨m, rfl⟩ : ∃ q, m = q + 1 := ⟨m - 1, by omega⟩
      simp only [iter, e7 k (by omega), thenE]
      cases e <;> first | rfl | exact absurd rfl hne
    cases e with
    | normal =>
      obtain ⟨e', tm3, st3, r2, tm3', sv2, f1, f2, f3, f4, f5, f6, k1, f7⟩ := unroll_ok hT n _ _ _ _ _ _ _ e1 e4 e3
      refine ⟨e', tm3, st3, r2, tm3', sv2, f1, e2.trans f2, f3, f4, e5.trans f5, e6.selfTrans f6, max k0 k1 + 1, fun k m hk hm => ?_⟩
      obtain ⟨m, rfl⟩ : ∃ q, m = q + 1 := ⟨m - 1, by omega⟩
      simp only [iter, e7 k (by omega), thenE]
      exact f7 k m (by omega) (by omega)
    | exit id => exact ex (by simp) e1
    | ret => exact ex (by simp) e1
theorem TFr.wroteBy {st st2 : TS X.A} {s : List (Get × Ds)} (h1 : st.locs.length ≤ st2.locs.length) (h2 : st.next ≤ st2.next) (h3 : ∀ l, l < st.locs.length → l ∉ st2.wrote → l ∉ modsOf s → tloc st2 l = tloc st l) (h4 : ∀ u ∈ st2.live, u < st.next → u ∈ st.live) : TFr st (wroteBy X st st2 s) :=
  ⟨h1, h2, fun l hl => List.mem_append_right _ hl, fun l hl hw => h3 l hl (fun hh => hw (List.mem_append_left _ (List.mem_append_left _ hh))) (fun hh => hw (List.mem_append_left _ (List.mem_append_right _ hh))), h4⟩
theorem cover_ok {sh : Shape} {c : Code} (h : covers sh c = true) : ∀ t ∈ asgd c, t ∈ sh.dead ∨ t ∈ tmpsIn sh.srcs := fun t ht => by
  unfold covers at h
  rw [List.all_eq_true] at h
  have := h t ht
  rw [Bool.or_eq_true] at this
  rcases this with h1 | h1
  · exact .inl (by simpa using h1)
  · right
    rw [List.any_eq_true] at h1
    obtain ⟨⟨g, d⟩, hx, hg⟩ := h1
    unfold tmpsIn
    rw [List.mem_filterMap]
    refine ⟨⟨g, d⟩, hx, ?_⟩
    cases g with
    | tmp u => simp only [beq_iff_eq] at hg; subst hg; rfl
    | _ => cases hg
theorem loop_ok (hX : XOk X) {c : Code} {sh : Shape} {T : TM X → TS X.A → (Ex → TM X → TS X.A → Option α) → Option α} {V : Nat → List PV → St → Outc} (hT : CodeOk X f (asgd c) T V) (hcov : covers sh c = true) {r : Rn} {st : TS X.A} {sv : St} {tm : List (TV X.A)} {tm' : List PV} {K : Ex → TM X → TS X.A → Option α} {z : α}
    (hs : SRel X r st sv) (hv : VRs X r tm tm') (hok : shOk st.locs.length sh.srcs = true) : ∀ n v R tm1' sv1, fixN (fun rec v => match shape X sh st tm v with
      | (tm1, st1) => T tm1 st1 fun e tm' st' => match e with
        | .normal => cK (extr X sh tm st tm' st') rec
        | e => K e tm' (wroteBy X st st' sh.srcs)) n v = some z →
    Ext r R → SRel X R (shape X sh st tm v).2 sv1 → VRs X R (shape X sh st tm v).1 tm1' → Same (asgd c) tm' tm1' → (shape X sh st tm v).2.wrote = [] → st.locs.length ≤ (shape X sh st tm v).2.locs.length → st.next ≤ (shape X sh st tm v).2.next →
      (∀ l, l < st.locs.length → l ∉ modsOf sh.srcs → tloc (shape X sh st tm v).2 l = tloc st l) → (∀ u ∈ (shape X sh st tm v).2.live, u < st.next → u ∈ st.live) →
    ∃ e tm2 st2 r' tm2' sv', K e tm2 st2 = some z ∧ Ext r r' ∧ VRs X r' tm2 tm2' ∧ SRel X r' st2 sv' ∧ TFr st st2 ∧ Same (asgd c) tm' tm2' ∧ ∃ k0, ∀ k m, k0 ≤ k → k0 ≤ m → iter m (V k) tm1' sv1 = some (e, tm2', sv')
  | 0, v, R, tm1', sv1, h, _, _, _, _, _, _, _, _, _ => by cases h
  | n + 1, v, R, tm1', sv1, h, hE, hs1, hv1, hS, w1, w2, w3, w4, w5 => by
    have h : T (shape X sh st tm v).1 (shape X sh st tm v).2 (fun e tm' st' => match e with
        | .normal => cK (extr X sh tm st tm' st') (fixN (fun rec v => match shape X sh st tm v with
      | (tm1, st1) => T tm1 st1 fun e tm' st' => match e with
        | .normal => cK (extr X sh tm st tm' st') rec
        | e => K e tm' (wroteBy X st st' sh.srcs)) n)
        | e => K e tm' (wroteBy X st st' sh.srcs)) = some z := h
    obtain ⟨e, tm2, st2, r1, tm2', sv2, e1, e2, e3, e4, e5, e6, k0, e7⟩ := hT _ _ _ _ _ _ _ h hs1 hv1
    have g1 : st.locs.length ≤ st2.locs.length := Nat.le_trans w2 e5.len
    have g2 : st.next ≤ st2.next := Nat.le_trans w3 e5.next
    have g3 : ∀ l, l < st.locs.length → l ∉ st2.wrote → l ∉ modsOf sh.srcs → tloc st2 l = tloc st l := fun l hl hw hm => (e5.same l (by omega) hw).trans (w4 l hl hm)
    have g4 : ∀ u ∈ st2.live, u < st.next → u ∈ st.live := fun u hu hl => w5 u (e5.live u hu (by omega)) hl
    have ex : e ≠ .normal → K e tm2 (wroteBy X st st2 sh.srcs) = some z → ∃ e tm2 st2 r' tm2' sv', K e tm2 st2 = some z ∧ Ext r r' ∧ VRs X r' tm2 tm2' ∧ SRel X r' st2 sv' ∧ TFr st st2 ∧ Same (asgd c) tm' tm2' ∧ ∃ k0, ∀ k m, k0 ≤ k → k0 ≤ m → iter m (V k) tm1' sv1 = some (e, tm2', sv') := fun hne hK => by
      refine ⟨e, tm2, _, r1, tm2', sv2, hK, hE.trans e2, e3, e4.wrote _, TFr.wroteBy g1 g2 g3 g4, hS.selfTrans e6, k0 + 1, fun k m hk hm => ?_⟩
      obtain ⟨m, rfl⟩ : ∃ q, m = q + 1 := ⟨m - 1, by omega⟩
      simp only [iter, e7 k (by omega), thenE]
      cases e <;> first | rfl | exact absurd rfl hne
    cases e with
    | normal =>
      obtain ⟨v2, hx, hf⟩ := cK_some e1
      obtain ⟨R2, c1, c2, c3, c4, c5, c6, c7, c8⟩ := coerce hX hs hv (hE.trans e2) e4 e3 g3 (hS.selfTrans e6) (cover_ok hcov) hok hx
      obtain ⟨e', tm3, st3, r2, tm3', sv3, f1, f2, f3, f4, f5, f6, k1, f7⟩ := loop_ok hX hT hcov hs hv hok n v2 R2 tm2' sv2 hf c1 c2 c3 (hS.selfTrans e6) c4 c5 c6 c7 c8
      refine ⟨e', tm3, st3, r2, tm3', sv3, f1, f2, f3, f4, f5, f6, max k0 k1 + 1, fun k m hk hm => ?_⟩
      obtain ⟨m, rfl⟩ : ∃ q, m = q + 1 := ⟨m - 1, by omega⟩
      simp only [iter, e7 k (by omega), thenE]
      exact f7 k m (by omega) (by omega)
    | exit id => exact ex (by simp) e1
    | ret => exact ex (by simp) e1
theorem Same.left {ts us : List Tmp} {a b : List PV} (h : Same ts a b) : Same (ts ++ us) a b := h.mono fun t ht => List.mem_append_left _ ht
theorem Same.right {ts us : List Tmp} {a b : List PV} (h : Same us a b) : Same (ts ++ us) a b := h.mono fun t ht => List.mem_append_right _ ht
theorem code_ok (hX : XOk X) (hC : CallOk X tcall) (n : Nat) : ∀ c : Code, CodeOk X f (asgd c) (fun tm st K => tCode X tcall n f c tm st K) (fun k tm' sv => evCode X.C (evCall X.C k) (iter k) f ⟨0, none⟩ c tm' sv) := by
  intro c
  induction c with
  | skip =>
    intro tm st r tm' sv K z h hs hv
    exact ⟨.normal, tm, st, r, tm', sv, h, Ext.refl r, hv, hs, TFr.refl st, Same.refl _ _, 0, fun k _ => rfl⟩
  | label l =>
    intro tm st r tm' sv K z h hs hv
    exact ⟨.normal, tm, st, r, tm', sv, h, Ext.refl r, hv, hs, TFr.refl st, Same.refl _ _, 0, fun k _ => rfl⟩
  | exit id =>
    intro tm st r tm' sv K z h hs hv
    exact ⟨.exit id, tm, st, r, tm', sv, h, Ext.refl r, hv, hs, TFr.refl st, Same.refl _ _, 0, fun k _ => rfl⟩
  | ret =>
    intro tm st r tm' sv K z h hs hv
    exact ⟨.ret, tm, st, r, tm', sv, h, Ext.refl r, hv, hs, TFr.refl st, Same.refl _ _, 0, fun k _ => rfl⟩
  | goto l => intro tm st r tm' sv K z h hs hv; cases h
  | refuse w => intro tm st r tm' sv K z h hs hv; cases h
  | scope c ih =>
    intro tm st r tm' sv K z h hs hv
    exact ih tm st r tm' sv K z h hs hv
  | region id ops draw =>
    intro tm st r tm' sv K z h hs hv
    have h : (tOps X tcall f ops.toList ops.toList tm st fun tm' st' => match (generalizing := false) draw with
      | false => K .normal tm' st'
      | true => cK (X.C.dyn f id) fun l => dK (l.all (dynT X ops.toList tm' st st')) (K .normal tm' st')) = some z := h
    obtain ⟨tm2, st2, r', tm2', sv', e1, e2, e3, e4, e5, e6, k0, e7⟩ := reg_ok (K := K .normal) hX hC (draw := draw) hs hv h
    exact ⟨.normal, tm2, st2, r', tm2', sv', e1, e2, e3, e4, e5, e6.mono fun t ht => List.mem_append_left _ ht, k0, e7⟩
  | seq a b iha ihb =>
    intro tm st r tm' sv K z h hs hv
    have h : (match X.join f (keyOf b) with
      | none => tCode X tcall n f a tm st fun e tm' st' => match e with
        | .normal => tCode X tcall n f b tm' st' K
        | e => K e tm' st'
      | some sh => dK (covers sh a && shOk st.locs.length sh.srcs) <| tCode X tcall n f a tm { st with wrote := [] } fun e tm' st' => match e with
        | .normal => cK (extr X sh tm st tm' st') fun v => joinB (Box.mk fun v => match shape X sh st tm v with
          | (tm1, st1) => tCode X tcall n f b tm1 (wroteBy X st st1 sh.srcs) K) v
        | e => K e tm' { st' with wrote := st'.wrote ++ st.wrote }) = some z := h
    have two : ∀ {e : Ex} {tm2 : TM X} {st2 : TS X.A} {r1 : Rn} {tm2' : List PV} {sv1 : St} {k0 : Nat}, e ≠ .normal → K e tm2 st2 = some z → Ext r r1 → VRs X r1 tm2 tm2' → SRel X r1 st2 sv1 → TFr st st2 → Same (asgd a) tm' tm2' → (∀ k, k0 ≤ k → evCode X.C (evCall X.C k) (iter k) f ⟨0, none⟩ a tm' sv = some (e, tm2', sv1)) →
        ∃ e tm2 st2 r' tm2' sv', K e tm2 st2 = some z ∧ Ext r r' ∧ VRs X r' tm2 tm2' ∧ SRel X r' st2 sv' ∧ TFr st st2 ∧ Same (asgd (.seq a b)) tm' tm2' ∧ ∃ k0, ∀ k, k0 ≤ k → evCode X.C (evCall X.C k) (iter k) f ⟨0, none⟩ (.seq a b) tm' sv = some (e, tm2', sv') := fun {e tm2 st2 r1 tm2' sv1 k0} hne hK i2 i3 i4 i5 i6 i7 => by
      refine ⟨e, tm2, st2, r1, tm2', sv1, hK, i2, i3, i4, i5, i6.left, k0, fun k hk => ?_⟩
      show thenE (evCode X.C (evCall X.C k) (iter k) f ⟨0, none⟩ a tm' sv) _ = _
      rw [i7 k hk]
      cases e <;> first | rfl | exact absurd rfl hne
    cases hj : X.join f (keyOf b) with
    | none =>
      rw [hj] at h
      obtain ⟨e, tm2, st2, r1, tm2', sv1, e1, e2, e3, e4, e5, e6, k0, e7⟩ := iha _ _ _ _ _ _ _ h hs hv
      dsimp only at e7
      cases e with
      | normal =>
        obtain ⟨e', tm3, st3, r2, tm3', sv2, f1, f2, f3, f4, f5, f6, k1, f7⟩ := ihb _ _ _ _ _ _ _ e1 e4 e3
        refine ⟨e', tm3, st3, r2, tm3', sv2, f1, e2.trans f2, f3, f4, e5.trans f5, e6.trans f6, max k0 k1, fun k hk => ?_⟩
        show thenE (evCode X.C (evCall X.C k) (iter k) f ⟨0, none⟩ a tm' sv) _ = _
        rw [e7 k (by omega)]
        exact f7 k (by omega)
      | exit id => exact two (by simp) e1 e2 e3 e4 e5 e6 e7
      | ret => exact two (by simp) e1 e2 e3 e4 e5 e6 e7
    | some sh =>
      rw [hj] at h
      obtain ⟨hc, h⟩ := dK_some h
      rw [Bool.and_eq_true] at hc
      obtain ⟨e, tm2, st2, r1, tm2', sv1, e1, e2, e3, e4, e5, e6, k0, e7⟩ := iha _ _ _ _ _ _ _ h (hs.wrote []) hv
      dsimp only at e7
      have g3 : ∀ l, l < st.locs.length → l ∉ st2.wrote → tloc st2 l = tloc st l := fun l hl hw => e5.same l hl hw
      have hfr : TFr st { st2 with wrote := st2.wrote ++ st.wrote } := ⟨e5.len, e5.next, fun l hl => List.mem_append_right _ hl, fun l hl hw => g3 l hl fun hh => hw (List.mem_append_left _ hh), e5.live⟩
      cases e with
      | normal =>
        obtain ⟨v, hx, hf⟩ := cK_some e1
        obtain ⟨R, c1, c2, c3, c4, c5, c6, c7, c8⟩ := coerce hX hs hv e2 e4 e3 (fun l hl hw _ => g3 l hl hw) e6 (cover_ok hc.1) hc.2 hx
        have hf : tCode X tcall n f b (shape X sh st tm v).1 (wroteBy X st (shape X sh st tm v).2 sh.srcs) K = some z := hf
        obtain ⟨e', tm3, st3, r2, tm3', sv2, f1, f2, f3, f4, f5, f6, k1, f7⟩ := ihb _ _ _ _ _ _ _ hf (c2.wrote _) c3
        refine ⟨e', tm3, st3, r2, tm3', sv2, f1, c1.trans f2, f3, f4, (TFr.wroteBy c5 c6 (fun l hl _ hm => c7 l hl hm) c8).trans f5, e6.trans f6, max k0 k1, fun k hk => ?_⟩
        show thenE (evCode X.C (evCall X.C k) (iter k) f ⟨0, none⟩ a tm' sv) _ = _
        rw [e7 k (by omega)]
        exact f7 k (by omega)
      | exit id => exact two (by simp) e1 e2 e3 (e4.wrote _) hfr e6 e7
      | ret => exact two (by simp) e1 e2 e3 (e4.wrote _) hfr e6 e7
  | cond c a b iha ihb =>
    intro tm st r tm' sv K z h hs hv
    have h : (match TV.ev tm c with
      | .bool r => bK r (tCode X tcall n f a tm st K) (tCode X tcall n f b tm st K)
      | _ => none) = some z := h
    have h1 := hv.ev c
    generalize hq : PV.ev tm' c = q at h1
    split at h
    · rename_i t ht
      rw [ht] at h1
      cases h1 with | bool _ =>
      rcases bK_some h with ⟨rfl, h⟩ | ⟨rfl, h⟩
      · obtain ⟨e, tm2, st2, r1, tm2', sv1, e1, e2, e3, e4, e5, e6, k0, e7⟩ := iha _ _ _ _ _ _ _ h hs hv
        refine ⟨e, tm2, st2, r1, tm2', sv1, e1, e2, e3, e4, e5, e6.left, k0, fun k hk => ?_⟩
        show condE (PV.ev tm' c) _ _ = _
        rw [hq]
        exact e7 k hk
      · obtain ⟨e, tm2, st2, r1, tm2', sv1, e1, e2, e3, e4, e5, e6, k0, e7⟩ := ihb _ _ _ _ _ _ _ h hs hv
        refine ⟨e, tm2, st2, r1, tm2', sv1, e1, e2, e3, e4, e5, e6.right, k0, fun k hk => ?_⟩
        show condE (PV.ev tm' c) _ _ = _
        rw [hq]
        exact e7 k hk
    · cases h
  | block id c ih =>
    intro tm st r tm' sv K z h hs hv
    have h : (tCode X tcall n f c tm st fun e tm' st' => match e with
      | .exit j => if j = id then K .normal tm' st' else K (.exit j) tm' st'
      | e => K e tm' st') = some z := h
    obtain ⟨e, tm2, st2, r1, tm2', sv1, e1, e2, e3, e4, e5, e6, k0, e7⟩ := ih _ _ _ _ _ _ _ h hs hv
    dsimp only at e7
    have hb : ∀ k, k0 ≤ k → evCode X.C (evCall X.C k) (iter k) f ⟨0, none⟩ (.block id c) tm' sv = blockE id (some (e, tm2', sv1)) := fun k hk => by
      rw [← e7 k hk]; rfl
    cases e with
    | normal => exact ⟨.normal, tm2, st2, r1, tm2', sv1, e1, e2, e3, e4, e5, e6, k0, hb⟩
    | ret => exact ⟨.ret, tm2, st2, r1, tm2', sv1, e1, e2, e3, e4, e5, e6, k0, hb⟩
    | exit j =>
      have e1 : (if j = id then K .normal tm2 st2 else K (.exit j) tm2 st2) = some z := e1
      by_cases hj : j = id
      · rw [if_pos hj] at e1
        exact ⟨.normal, tm2, st2, r1, tm2', sv1, e1, e2, e3, e4, e5, e6, k0, fun k hk => (hb k hk).trans (by simp only [blockE]; rw [if_pos hj])⟩
      · rw [if_neg hj] at e1
        exact ⟨.exit j, tm2, st2, r1, tm2', sv1, e1, e2, e3, e4, e5, e6, k0, fun k hk => (hb k hk).trans (by simp only [blockE]; rw [if_neg hj])⟩
  | loop c ih =>
    intro tm st r tm' sv K z h hs hv
    have h : (match X.loop f (keyOf c) with
      | none => unroll X (fun tm st K => tCode X tcall n f c tm st K) K 64 tm st
      | some sh => dK (covers sh c && shOk st.locs.length sh.srcs) <| cK (extr X sh tm st tm { st with wrote := [] }) fun v0 => fixN (fun rec v => match shape X sh st tm v with
        | (tm1, st1) => tCode X tcall n f c tm1 st1 fun e tm' st' => match e with
          | .normal => cK (extr X sh tm st tm' st') rec
          | e => K e tm' (wroteBy X st st' sh.srcs)) n v0) = some z := h
    cases hj : X.loop f (keyOf c) with
    | none =>
      rw [hj] at h
      obtain ⟨e, tm2, st2, r1, tm2', sv1, e1, e2, e3, e4, e5, e6, k0, e7⟩ := unroll_ok (f := f) ih 64 _ _ _ _ _ _ _ h hs hv
      exact ⟨e, tm2, st2, r1, tm2', sv1, e1, e2, e3, e4, e5, e6, k0, fun k hk => e7 k k hk hk⟩
    | some sh =>
      rw [hj] at h
      obtain ⟨hc, h⟩ := dK_some h
      rw [Bool.and_eq_true] at hc
      obtain ⟨v, hx, hf⟩ := cK_some h
      obtain ⟨R, c1, c2, c3, c4, c5, c6, c7, c8⟩ := coerce hX (st1 := { st with wrote := [] }) hs hv (Ext.refl r) (hs.wrote []) hv (fun l hl hw _ => rfl) (Same.refl (asgd c) tm') (cover_ok hc.1) hc.2 hx
      obtain ⟨e, tm2, st2, r1, tm2', sv1, e1, e2, e3, e4, e5, e6, k0, e7⟩ := loop_ok (f := f) hX ih hc.1 hs hv hc.2 n v R tm' sv hf c1 c2 c3 (Same.refl _ _) c4 c5 c6 c7 c8
      exact ⟨e, tm2, st2, r1, tm2', sv1, e1, e2, e3, e4, e5, e6, k0, fun k hk => e7 k k hk hk⟩
  | rangeFunc g ps asg bd _ _ =>
    intro tm st r tm' sv K z h hs hv
    have h : (match TV.ev tm g with
      | .fn h a b => dK (isKeep X.C h) <| tcall (.fn h) (a ++ [.yld f tm ps asg bd] ++ b) st fun _ st' => dK (stNof st') <| K .normal tm st'
      | _ => none) = some z := h
    have h1 := hv.ev g
    generalize hq : PV.ev tm' g = q at h1
    split at h
    · rename_i gf a b hgf
      rw [hgf] at h1
      cases h1 with
      | @fn _ _ a' _ b' _ _ k1 k2 _ =>
        obtain ⟨hk, h⟩ := dK_some h
        obtain ⟨p, st2, r', p', sv', e1, e2, e3, e4, e5, e6, k0, e7⟩ := hC.fn gf _ _ _ _ h r sv _ hs ((k1.append (.yld hv .nil)).append k2)
        obtain ⟨hn, e1⟩ := dK_some e1
        refine ⟨.normal, tm, st2, r', tm', cleanSt sv', e1, e2, hv.mono hs.wf e2, e4.clean hX hn, e5, Same.refl _ _, k0, fun k hk' => ?_⟩
        have hcb := e7 k hk'
        have hm : X.C.mode gf = .keep := by
          unfold isKeep at hk
          split at hk
          · assumption
          · cases hk
        unfold callBy at hcb
        rw [hX.prim gf hk] at hcb
        simp only [hm] at hcb
        show bindR (rangeR f (PV.ev tm' g) ps asg bd (evCall X.C k) ⟨0, none⟩ tm' sv) (fun _ st' => if (0 : Nat) = 0 then some (Ex.normal, tm', cleanSt st') else none) = _
        rw [hq]
        show bindR (evCall X.C k (.fn gf) (a' ++ [.yld f tm' ps asg bd] ++ b') ⟨0, none⟩ sv) _ = _
        rw [hcb]
        rfl
    · cases h
end code
end Go.Proofs.YtlkaoiceehlkmaaTE
