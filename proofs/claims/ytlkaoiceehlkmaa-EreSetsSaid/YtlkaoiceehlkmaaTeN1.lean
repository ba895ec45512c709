import Derived.Test.YtlkaoiceehlkmaaTeJ1
namespace Go.Proofs.YtlkaoiceehlkmaaTE
open Go Go.Proofs.YtlkaoiceehlkmaaVE
set_option linter.unusedVariables false
set_option linter.unusedSimpArgs false

/-- What a step comes to, with fuel enough. -/
def StepR (X : TX) (r : Rn) (st : TS X.A) (sv : St) {α : Type} (K : TV X.A → TS X.A → Option α) (z : α) (cm : Bool) (F : Nat → Option (PV × St)) : Prop :=
  ∃ p st2 r' p' sv', K p st2 = some z ∧ Ext r r' ∧ VR X r' p p' ∧ SRel X r' st2 sv' ∧ TFr st st2 ∧ (cm = true → r'.fz = r.fz) ∧ ∃ k0, ∀ k, k0 ≤ k → F k = some (p', sv')
structure CallOk (X : TX) {α : Type} (tcall : CallT X α) : Prop where
  fn : ∀ g args st K z, tcall (.fn g) args st K = some z → ∀ r sv args', SRel X r st sv → VRs X r args args' → StepR X r st sv K z (isPure X.C g) (fun k => callBy X.C (evCall X.C k) ⟨0, none⟩ g args' sv)
  yl : ∀ f tm ps asg bd args st K z, tcall (.yl f tm ps asg bd) args st K = some z → ∀ r sv tm' args', SRel X r st sv → VRs X r tm tm' → VRs X r args args' → StepR X r st sv K z false (fun k => evCall X.C k (.yl f tm' ps asg bd) args' ⟨0, none⟩ sv)
section ops
variable {X : TX} {r : Rn} {s : TS X.A} {v : St} {f : FuncId} {tm : List (TV X.A)} {tm' : List PV} {o : Oper} {α : Type} {z : α} {K : TV X.A → TS X.A → Option α} {tcall : CallT X α}
theorem evOp_call (hn : ∀ c g, o.op = .call c → c.callee ≠ .value g) (c1 c2 : YtlkaoiceehlkmaaVE.Call) (wr : Wr) : evOp X.C c1 f wr tm' v o = evOp X.C c2 f wr tm' v o := by
  unfold evOp
  split <;> try rfl
  rename_i c hc
  split <;> try rfl
  rename_i g hg
  exact absurd hg (hn c g hc)
theorem OpR.step (hn : ∀ c g, o.op = .call c → c.callee ≠ .value g) (h : OpR X r s v K z (evOp X.C (fun _ _ _ _ => none) f ⟨0, none⟩ tm' v o)) {cm : Bool} : StepR X r s v K z cm (fun k => evOp X.C (evCall X.C k) f ⟨0, none⟩ tm' v o) := by
  obtain ⟨p, st2, r', p', sv', h1, h2, h3, h4, h5, h6⟩ := h
  exact ⟨p, st2, r', p', sv', h1, h2.toExt, h3, h4, h5, fun _ => h2.same, 0, fun k _ => by rw [← h6]; exact evOp_call hn _ _ _⟩
theorem op_all (hX : XOk X) (hC : CallOk X tcall) (hs : SRel X r s v) (hv : VRs X r tm tm') (h : tOp X tcall f tm s o K = some z) : StepR X r s v K z (calmO X.C o) (fun k => evOp X.C (evCall X.C k) f ⟨0, none⟩ tm' v o) := by
  have nc : ∀ {q : Op}, o.op = q → (∀ c, q ≠ .call c) → ∀ c g, o.op = .call c → c.callee ≠ .value g := fun h1 h2 c g h3 => absurd (h1.symm.trans h3) (h2 c)
  cases ho : o.op with
  | move x =>
    simp only [tOp, ho] at h
    exact (OpR.pure hs h (hv.ev x) (by simp only [evOp, ho])).step (nc ho (by simp))
  | assign x =>
    simp only [tOp, ho] at h
    exact (OpR.pure hs h (hv.ev x) (by simp only [evOp, ho])).step (nc ho (by simp))
  | pick c a b =>
    simp only [tOp, ho] at h
    exact (pick_ok hs hv ho h).step (nc ho (by simp))
  | alloc t =>
    simp only [tOp, ho] at h
    exact (alloc_ok hs ho h).step (nc ho (by simp))
  | box t x =>
    simp only [tOp, ho] at h
    exact (box_ok hs hv ho h).step (nc ho (by simp))
  | build t ps =>
    simp only [tOp, ho] at h
    exact (build_ok hs hv ho h).step (nc ho (by simp))
  | buildSlice t n ps =>
    simp only [tOp, ho] at h
    exact (buildSlice_ok hX hs hv ho h).step (nc ho (by simp))
  | load t a =>
    simp only [tOp, ho] at h
    obtain ⟨p, p', h1, h2, h3⟩ := load_ok hX hs (hv.ev a) h
    exact (OpR.pure hs h1 h3 (by simp only [evOp, ho, h2, withSt]; rfl)).step (nc ho (by simp))
  | store t a x =>
    simp only [tOp, ho] at h
    obtain ⟨s', v', h1, h2, h3, h4⟩ := store_ok hX hs (hv.ev a) (hv.ev x) h
    have : OpR X r s v K z (evOp X.C (fun _ _ _ _ => none) f ⟨0, none⟩ tm' v o) := ⟨_, s', r, .v undef, v', h1, ExtK.refl r, .cst (.inl ⟨rfl, rfl⟩) .nil, h3, h4, by simp only [evOp, ho, h2]; rfl⟩
    exact this.step (nc ho (by simp))
  | nilCheck x =>
    simp only [tOp, ho] at h
    exact (nilCheck_ok hs hv ho h).step (nc ho (by simp))
  | binOp op t x y u =>
    simp only [tOp, ho] at h
    exact (OpR.pureE hs (bin_ok ho (hv.ev x) (hv.ev y) h)).step (nc ho (by simp))
  | unOp op t x =>
    simp only [tOp, ho] at h
    exact (un_ok hs hv ho h).step (nc ho (by simp))
  | convert a b x =>
    simp only [tOp, ho] at h
    exact (conv_ok hX hs hv ho h).step (nc ho (by simp))
  | makeFunc g a b =>
    cases g with
    | func g =>
      simp only [tOp, ho] at h
      exact (makeFunc_ok hs hv ho h).step (nc ho (by simp))
    | _ => simp only [tOp, ho] at h; cases h
  | makeSlice t a b =>
    simp only [tOp, ho] at h
    exact (makeSlice_ok hX hs hv ho h).step (nc ho (by simp))
  | slice t x lo hi mx =>
    simp only [tOp, ho] at h
    exact (slice_ok hX hs hv ho h).step (nc ho (by simp))
  | fieldAddr t x i =>
    simp only [tOp, ho] at h
    exact (fieldAddr_ok hs hv ho h).step (nc ho (by simp))
  | field t x i =>
    simp only [tOp, ho] at h
    exact (field_ok hs hv ho h).step (nc ho (by simp))
  | indexAddr t x i =>
    simp only [tOp, ho] at h
    exact (indexAddr_ok hX hs hv ho h).step (nc ho (by simp))
  | index t x i =>
    simp only [tOp, ho] at h
    exact (index_ok hs hv ho h).step (nc ho (by simp))
  | extract x i =>
    simp only [tOp, ho] at h
    exact (extract_ok hs hv ho h).step (nc ho (by simp))
  | call c =>
    have nb : ∀ {b : Builtin}, c.callee = .builtin b → ∀ c' g, o.op = .call c' → c'.callee ≠ .value g := fun h1 c' g h2 h3 => by
      rw [ho] at h2
      simp only [Op.call.injEq] at h2
      subst h2
      rw [h1] at h3
      cases h3
    simp only [tOp, ho] at h
    split at h
    · rename_i hb
      split at h
      · rename_i a x hax
        have := app_ok hX hs (hv.ev a) (hv.ev x) h
        refine OpR.step (nb hb) ?_
        simp only [evOp, ho, hb, hax]
        exact this
      · cases h
    · rename_i hb
      split at h
      · rename_i x hax
        exact (len_ok hs hv ho hb hax h).step (nb hb)
      · cases h
    · rename_i hb
      exact (mm_ok (b := false) hs hv ho hb h).step (nb hb)
    · rename_i hb
      exact (mm_ok (b := true) hs hv ho hb h).step (nb hb)
    · rename_i g hg
      have h1 := hv.ev g
      generalize hq : PV.ev tm' g = q at h1
      split at h
      · rename_i gf a b hgf
        rw [hgf] at h1
        cases h1 with
        | fn k1 k2 _ =>
          have := hC.fn gf _ _ _ _ h r v _ hs ((k1.append (hv.evs _)).append k2)
          obtain ⟨p, st2, r', p', sv', e1, e2, e3, e4, e5, e6, k0, e7⟩ := this
          refine ⟨p, st2, r', p', sv', e1, e2, e3, e4, e5, fun hcm => e6 ?_, k0, fun k hk => ?_⟩
          · unfold calmO at hcm
            rw [ho] at hcm
            simp only [hg] at hcm
            split at hcm
            · rename_i h' heq
              simp only [Callee.value.injEq] at heq
              subst heq
              simp only [TV.ev, TV.fn.injEq] at hgf
              rw [← hgf.1]
              exact hcm
            · rename_i heq; cases heq
            · cases hcm
          · simp only [evOp, ho, hg, hq]
            exact e7 k hk
      · rename_i fo to ps asg bd hgf
        rw [hgf] at h1
        cases h1 with
        | yld k1 _ =>
          have := hC.yl fo _ _ _ _ _ _ _ _ h r v _ _ hs k1 (hv.evs _)
          obtain ⟨p, st2, r', p', sv', e1, e2, e3, e4, e5, e6, k0, e7⟩ := this
          refine ⟨p, st2, r', p', sv', e1, e2, e3, e4, e5, fun hcm => ?_, k0, fun k hk => ?_⟩
          · unfold calmO at hcm
            rw [ho] at hcm
            simp only [hg] at hcm
            split at hcm
            · rename_i h' heq
              simp only [Callee.value.injEq] at heq
              subst heq
              simp [TV.ev] at hgf
            · rename_i heq; cases heq
            · cases hcm
          · simp only [evOp, ho, hg, hq]
            exact e7 k hk
      · cases h
    · cases h
  | _ => simp only [tOp, ho] at h; cases h
end ops
end Go.Proofs.YtlkaoiceehlkmaaTE

namespace Go.Proofs.YtlkaoiceehlkmaaTE
open Go Go.Proofs.YtlkaoiceehlkmaaVE
set_option linter.unusedVariables false
set_option linter.unusedSimpArgs false

/-- Temporaries that are not filled stay. -/
structure Same (ts : List Tmp) (a b : List PV) : Prop where
  len : b.length = a.length
  get : ∀ t, t ∉ ts → b[t]? = a[t]?
theorem Same.refl (ts : List Tmp) (a : List PV) : Same ts a a := ⟨rfl, fun _ _ => rfl⟩
theorem Same.trans {ts us : List Tmp} {a b c : List PV} (h : Same ts a b) (k : Same us b c) : Same (ts ++ us) a c :=
  ⟨k.len.trans h.len, fun t ht => (k.get t (fun hh => ht (List.mem_append_right _ hh))).trans (h.get t (fun hh => ht (List.mem_append_left _ hh)))⟩
theorem Same.mono {ts us : List Tmp} {a b : List PV} (h : Same ts a b) (hs : ∀ t ∈ ts, t ∈ us) : Same us a b := ⟨h.len, fun t ht => h.get t (fun hh => ht (hs t hh))⟩
section reg
variable {X : TX} {r : Rn} {s : TS X.A} {v : St} {f : FuncId} {tm : List (TV X.A)} {tm' : List PV} {o : Oper} {α : Type} {z : α} {tcall : CallT X α}
theorem VRs.setSame (h : VRs X r tm tm') {d : Tmp} {p : TV X.A} (hp : VR X r p (tm'.getD d .any)) : VRs X r (tm.set d p) tm' := by
  have := h.set (i := d) hp
  rcases Nat.lt_or_ge d tm'.length with hd | hd
  · have e : tm'.set d (tm'.getD d .any) = tm' := by
      apply List.ext_getElem?
      intro i
      rw [List.getElem?_set]
      split
      · rename_i hi; subst hi; simp [List.getD, hd]
      · rfl
    rwa [e] at this
  · rw [List.set_eq_of_length_le (by rw [h.length]; exact hd)]
    exact h
theorem want_ok {β : Type} (hv : VRs X r tm tm') {all : List Oper} {yes no : TM X → Option β} {y : β} (h : wantT X all tm o yes no = some y) :
    ∃ tm1, VRs X r tm1 tm' ∧ ((wantedP all tm' o = some true ∧ yes tm1 = some y) ∨ (wantedP all tm' o = some false ∧ no tm1 = some y)) := by
  unfold wantT at h
  split at h
  · rename_i hg
    exact ⟨tm, hv, .inl ⟨by simp [wantedP, hg], h⟩⟩
  · rename_i j want hg
    split at h
    · rename_i hd
      exact ⟨tm, hv, .inr ⟨by simp [wantedP, hg, hd], h⟩⟩
    · rename_i d hd
      have h1 := hv.getD d
      have hw : wantedP all tm' o = wantV (tm'.getD d .any) want := by simp [wantedP, hg, hd]
      rw [hw]
      generalize hq : tm'.getD d .any = q at h1
      split at h
      · rename_i b hb
        rw [hb] at h1
        cases h1 with | bool _ =>
        have hset : VRs X r (tm.set d (.bool b)) tm' := hv.setSame (by rw [hq]; exact .bool .nil)
        cases want with
        | true =>
          rcases bK_some h with ⟨rfl, h⟩ | ⟨rfl, h⟩
          · exact ⟨_, hset, .inl ⟨rfl, h⟩⟩
          · exact ⟨_, hset, .inr ⟨rfl, h⟩⟩
        | false =>
          rcases bK_some h with ⟨rfl, h⟩ | ⟨rfl, h⟩
          · exact ⟨_, hset, .inr ⟨rfl, h⟩⟩
          · exact ⟨_, hset, .inl ⟨rfl, h⟩⟩
      · rename_i vs hb
        rw [hb] at h1
        cases h1 with
        | cst hc _ =>
          rcases hc with ⟨_, rfl⟩ | ⟨e, _⟩
          · exact ⟨tm, hv, .inr ⟨rfl, h⟩⟩
          · cases e
      · cases h
theorem VRs.put (h : VRs X r tm tm') {d : Option Tmp} {p : TV X.A} {q : PV} (hp : VR X r p q) : VRs X r (putT X tm d p) (putP tm' d q) := by
  cases d with
  | none => exact h
  | some d => exact h.set hp
theorem same_put {o : Oper} {os : List Oper} {q : PV} {b : List PV} (h : Same (dstsOf os) (putP tm' o.dst q) b) : Same (dstsOf (o :: os)) tm' b := by
  unfold dstsOf at h ⊢
  cases hd : o.dst with
  | none =>
    rw [hd] at h
    rw [List.filterMap_cons_none hd]
    exact h
  | some d =>
    rw [hd] at h
    rw [List.filterMap_cons_some hd]
    refine ⟨by rw [h.len]; simp [putP], fun t ht => ?_⟩
    rw [h.get t (fun hh => ht (List.mem_cons_of_mem _ hh))]
    simp only [putP]
    rw [List.getElem?_set_ne (fun e => ht (by rw [← e]; exact List.mem_cons_self ..))]
theorem ops_all (hX : XOk X) (hC : CallOk X tcall) {all : List Oper} {K : TM X → TS X.A → Option α} : ∀ {os : List Oper} {tm : List (TV X.A)} {s : TS X.A} {r : Rn} {v : St} {tm' : List PV}, SRel X r s v → VRs X r tm tm' → tOps X tcall f all os tm s K = some z →
    ∃ tm2 st2 r' tm2' sv', K tm2 st2 = some z ∧ Ext r r' ∧ VRs X r' tm2 tm2' ∧ SRel X r' st2 sv' ∧ TFr s st2 ∧ (calm X.C os = true → r'.fz = r.fz) ∧ Same (dstsOf os) tm' tm2' ∧ ∃ k0, ∀ k, k0 ≤ k → evOps X.C (evCall X.C k) f ⟨0, none⟩ all os tm' v = some (tm2', sv')
  | [], tm, s, r, v, tm', hs, hv, h => ⟨tm, s, r, tm', v, h, Ext.refl r, hv, hs, TFr.refl s, fun _ => rfl, Same.refl _ _, 0, fun k _ => rfl⟩
  | o :: os, tm, s, r, v, tm', hs, hv, h => by
    simp only [tOps] at h
    obtain ⟨tm1, hv1, ⟨w1, h⟩ | ⟨w1, h⟩⟩ := want_ok hv h
    · obtain ⟨p, st2, r1, p', v1, e1, e2, e3, e4, e5, e6, k0, e7⟩ := op_all hX hC hs hv1 h
      obtain ⟨tm2, st3, r2, tm2', v2, f1, f2, f3, f4, f5, f6, f7, k1, f8⟩ := ops_all hX hC e4 ((hv1.mono hs.wf e2).put (d := o.dst) e3) e1
      refine ⟨tm2, st3, r2, tm2', v2, f1, e2.trans f2, f3, f4, e5.trans f5, fun hc => ?_, same_put f7, max k0 k1, fun k hk => ?_⟩
      · simp only [calm, List.all_cons, Bool.and_eq_true] at hc
        exact (f6 (by simpa [calm] using hc.2)).trans (e6 hc.1)
      · simp only [evOps, w1, wantR, e7 k (by omega), bindR]
        exact f8 k (by omega)
    · obtain ⟨tm2, st3, r2, tm2', v2, f1, f2, f3, f4, f5, f6, f7, k1, f8⟩ := ops_all hX hC hs (hv1.put (d := o.dst) (p := .cst undef) (q := .v undef) (.cst (.inl ⟨rfl, rfl⟩) .nil)) h
      refine ⟨tm2, st3, r2, tm2', v2, f1, f2, f3, f4, f5, fun hc => ?_, same_put f7, k1, fun k hk => ?_⟩
      · simp only [calm, List.all_cons, Bool.and_eq_true] at hc
        exact f6 (by simpa [calm] using hc.2)
      · simp only [evOps, w1, wantR]
        exact f8 k hk
theorem loc_vr {p : TV X.A} {q : PV} {l : Nat} (h : locT p = some l) (hv : VR X r p q) : ∃ k off, q = .ptr k off ∧ r.lo l = some (some k) := by
  cases p with
  | ptr j off => simp only [locT, Option.some.injEq] at h; subst h; cases hv with | ptr e _ => exact ⟨_, _, rfl, e⟩
  | aptr t j i off => simp only [locT, Option.some.injEq] at h; subst h; cases hv with | aptr _ e _ => exact ⟨_, _, rfl, e⟩
  | iptr j off n k i => simp only [locT, Option.some.injEq] at h; subst h; cases hv with | iptr e _ _ _ => exact ⟨_, _, rfl, e⟩
  | _ => simp [locT] at h
def apartV (k : Nat) (q : PV) : Bool := match q with
  | .ptr j _ => k != j
  | .v _ => true
  | _ => false
theorem apart_ok {s2 : TS X.A} {l : Option Nat} {k : Nat} {p : TV X.A} {q : PV} (h : apartT X s2 l p = true) (hv : VR X r p q) (hne : ∀ j, (tloc s2 j).isSome = true → r.lo j = some (some k) → l = some j) : apartV k q = true := by
  unfold apartT at h
  split at h
  · rename_i j hj
    rw [Bool.and_eq_true, bne_iff_ne] at h
    obtain ⟨m, off, rfl, e⟩ := loc_vr hj hv
    simp only [apartV, bne_iff_ne]
    rintro rfl
    exact h.2 (hne j h.1 e)
  · obtain ⟨x, rfl, _⟩ := flat_ok h hv
    rfl
theorem dyn_ok {s2 : TS X.A} {r2 : Rn} {v2 : St} {ops : List Oper} (hs : SRel X r s v) (hs2 : SRel X r2 s2 v2) (he : Ext r r2) (hv : VRs X r2 tm tm') (hc : calm X.C ops = true → r2.fz = r.fz) {d : Bool × Tmp × Tmp} (h : dynT X ops tm s s2 d = true) : dynCk tm' v d = true := by
  have h1 := hv.getD d.2.1
  have h2 := hv.getD d.2.2
  have ptr : ∀ {k off : Nat}, tm'.getD d.2.1 .any = .ptr k off → k < v.locs.length → (d.1 = false ∨ apartV k (tm'.getD d.2.2 .any) = true) → dynCk tm' v d = true := fun {k off} e m1 m2 => by
    unfold dynCk
    rw [e]
    show (decide (k < v.locs.length) && (!d.1 || apartV k (tm'.getD d.2.2 .any))) = true
    simp only [Bool.and_eq_true, decide_eq_true_eq, Bool.or_eq_true, Bool.not_eq_true']
    exact ⟨m1, m2⟩
  unfold dynT at h
  generalize hq : tm'.getD d.2.1 .any = q at h1
  split at h
  · rename_i cs hcs
    rw [hcs] at h1
    rw [Bool.and_eq_true] at h
    cases h1 with
    | eptr _ _ => unfold dynCk; rw [hq]
    | eptrF g1 _ _ _ _ =>
      have g2 := hc h.1
      have g0 := g1
      rw [g2] at g1
      have g3 := locAt_lt (hs.fz _ _ g1).1
      have g4 := h.2
      simp only [Bool.or_eq_true, Bool.not_eq_true'] at g4
      refine ptr hq g3 (g4.imp id fun g4 => apart_ok g4 h2 fun j i1 i2 => ?_)
      exact absurd i2 ((hs2.fz _ _ g0).2.1 j i1)
  · split at h
    · rename_i l hl
      obtain ⟨k, off, rfl, e⟩ := loc_vr hl h1
      simp only [Bool.and_eq_true, decide_eq_true_eq, Bool.or_eq_true, Bool.not_eq_true'] at h
      obtain ⟨⟨m1, m2⟩, m3⟩ := h
      obtain ⟨c0, hc0⟩ := Option.isSome_iff_exists.1 m1
      refine ptr hq (hs.rng m1 ((he.lo l (by rw [hs.nl]; exact tloc_lt hc0)).symm.trans e)) (m3.imp id fun m3 => apart_ok m3 h2 fun j i1 i2 => ?_)
      rw [hs2.inj l j k m2 i1 e i2]
    · obtain ⟨x, rfl, _⟩ := flat_ok h h1
      unfold dynCk
      rw [hq]
theorem wipe_nil (tm : List PV) : wipe [] tm = tm := by cases tm <;> rfl
theorem reg_ok (hX : XOk X) (hC : CallOk X tcall) {id : Nat} {ops : Array Oper} {draw : Bool} {K : TM X → TS X.A → Option α} (hs : SRel X r s v) (hv : VRs X r tm tm')
    (h : (tOps X tcall f ops.toList ops.toList tm s fun tm' st' => match draw with
      | false => K tm' st'
      | true => cK (X.C.dyn f id) fun l => dK (l.all (dynT X ops.toList tm' s st')) (K tm' st')) = some z) :
    ∃ tm2 st2 r' tm2' sv', K tm2 st2 = some z ∧ Ext r r' ∧ VRs X r' tm2 tm2' ∧ SRel X r' st2 sv' ∧ TFr s st2 ∧ Same (dstsOf ops.toList) tm' tm2' ∧ ∃ k0, ∀ k, k0 ≤ k → regR (evOps X.C (evCall X.C k) f ⟨0, none⟩ ops.toList ops.toList tm' v) (regE X.C f id draw v) = some (.normal, tm2', sv') := by
  obtain ⟨tm2, st2, r2, tm2', v2, f1, f2, f3, f4, f5, f6, f7, k1, f8⟩ := ops_all hX hC hs hv h
  have keep := hX.keep f id
  cases draw with
  | false =>
    refine ⟨tm2, st2, r2, tm2', v2, f1, f2, f3, f4, f5, f7, k1, fun k hk => ?_⟩
    simp only [f8 k hk, regR, regE, keep, wipe_nil]
  | true =>
    obtain ⟨l, hl, f1⟩ := cK_some f1
    obtain ⟨hd, f1⟩ := dK_some f1
    refine ⟨tm2, st2, r2, tm2', v2, f1, f2, f3, f4, f5, f7, k1, fun k hk => ?_⟩
    have : l.all (dynCk tm2' v) = true := by
      rw [List.all_eq_true] at hd ⊢
      exact fun d hd' => dyn_ok hs f4 f2 f3 f6 (hd d hd')
    simp only [f8 k hk, regR, regE, hl, this, if_true, keep, wipe_nil]
end reg
end Go.Proofs.YtlkaoiceehlkmaaTE
