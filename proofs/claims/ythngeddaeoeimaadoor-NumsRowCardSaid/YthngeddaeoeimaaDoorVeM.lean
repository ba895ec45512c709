import Derived.Test.YthngeddaeoeimaaDoorVeL
namespace Go.Proofs.YthngeddaeoeimaaDoorVE
open Go Go.RowKit
set_option linter.unusedVariables false
set_option linter.unusedSimpArgs false

/-! What an operation's outcome hangs on. -/
section hang
variable {C : Cfg} {call : Call} {f : FuncId} {wr : Wr} {tm tm2 : List PV} {st st' : St} {o : Oper} {p : PV}
theorem evFlat_congr {P : Program} (h : ∀ x ∈ o.op.operands.toList, PV.ev tm x = PV.ev tm2 x) (hk : flatKind o.op = true) : evFlat P tm o = evFlat P tm2 o := by
  unfold evFlat
  have h1 : (o.op.operands.toList.all fun x => (toV (PV.ev tm x)).isSome) = (o.op.operands.toList.all fun x => (toV (PV.ev tm2 x)).isSome) := by
    rw [Bool.eq_iff_iff, List.all_eq_true, List.all_eq_true]
    exact ⟨fun k x hx => by rw [← h x hx]; exact k x hx, fun k x hx => by rw [h x hx]; exact k x hx⟩
  have h2 : execOp (fun x => (toV (PV.ev tm x)).getD undef) o = execOp (fun x => (toV (PV.ev tm2 x)).getD undef) o := execOp_congr hk fun x hx => by rw [h x hx]
  rw [h1, h2]
theorem evOp_congr (h : ∀ x ∈ o.op.operands.toList, PV.ev tm x = PV.ev tm2 x) : evOp C call f wr tm st o = evOp C call f wr tm2 st o := by
  have fl := fun hk => evFlat_congr (P := C.P) (o := o) (tm := tm) (tm2 := tm2) h hk
  cases ho : o.op <;> rw [ho] at h <;> simp only [evOp, ho] <;> simp only [Op.operands, List.mem_cons, List.not_mem_nil, or_false, Array.toList_append, List.mem_append] at h
  case move x => rw [h x rfl]
  case assign x => rw [h x rfl]
  case box t x => rw [h x rfl]
  case build t ps =>
    congr 2
    apply List.map_congr_left
    intro q hq
    rw [h q.2 (List.mem_map.2 ⟨q, hq, rfl⟩)]
  case buildSlice t len ps =>
    congr 1
    apply List.map_congr_left
    intro q hq
    rw [h q.2 (List.mem_map.2 ⟨q, hq, rfl⟩)]
  case load t x => rw [h x rfl]
  case store t x y => rw [h x (.inl rfl), h y (.inr rfl)]
  case nilCheck x => rw [h x rfl]
  case makeInterface t x => rw [h x rfl]
  case makeFunc g a b =>
    have h1 : a.toList.map (PV.ev tm) = a.toList.map (PV.ev tm2) := List.map_congr_left fun x hx => h x (.inl hx)
    have h2 : b.toList.map (PV.ev tm) = b.toList.map (PV.ev tm2) := List.map_congr_left fun x hx => h x (.inr hx)
    rw [h1, h2]
  case makeSlice t l c => rw [h l (.inl rfl), h c (.inr rfl)]
  case slice t x lo hi mx =>
    have h1 : PV.ev tm x = PV.ev tm2 x := h x (by simp)
    have h2 : lo.map (PV.ev tm) = lo.map (PV.ev tm2) := by cases lo with | none => rfl | some l => simp only [Option.map_some]; rw [h l (by simp)]
    have h3 : hi.map (PV.ev tm) = hi.map (PV.ev tm2) := by cases hi with | none => rfl | some l => simp only [Option.map_some]; rw [h l (by simp)]
    have h4 : mx.map (PV.ev tm) = mx.map (PV.ev tm2) := by cases mx with | none => rfl | some l => simp only [Option.map_some]; rw [h l (by simp)]
    rw [h1, h2, h3, h4, fl (by simp [ho, flatKind])]
  case fieldAddr s x i => rw [h x rfl]
  case field s x i => rw [h x rfl]
  case indexAddr t x i => rw [h x (.inl rfl), h i (.inr rfl)]
  case index t x i => rw [h x (.inl rfl), h i (.inr rfl), fl (by simp [ho, flatKind])]
  case extract x i => rw [h x rfl]
  case convert s d x => rw [h x rfl, fl (by simp [ho, flatKind])]
  case binOp op t x y t' => rw [h x (.inl rfl), h y (.inr rfl), fl (by simp [ho, flatKind])]
  case unOp op t x => rw [fl (by simp [ho, flatKind])]
  case pick c x y => rw [fl (by simp [ho, flatKind])]
  case call c =>
    have hm : ∀ x ∈ c.args.toList, PV.ev tm x = PV.ev tm2 x := fun x hx => h x (by simp [Call.operands]; exact .inr (by simpa using hx))
    split
    · split
      · rename_i s x hargs
        rw [hargs] at hm
        rw [hm s (by simp), hm x (by simp)]
      · rfl
    · rename_i hb
      split
      · rename_i x hargs
        rw [hargs] at hm
        rw [hm x (by simp), fl (by simp [ho, flatKind, hb])]
      · rfl
    · rename_i hb
      rw [fl (by simp [ho, flatKind, hb])]
    · rename_i hb
      rw [fl (by simp [ho, flatKind, hb])]
    · rename_i g hb
      have h1 : PV.ev tm g = PV.ev tm2 g := h g (by simp [Call.operands, hb])
      have h2 : c.args.toList.map (PV.ev tm) = c.args.toList.map (PV.ev tm2) := List.map_congr_left hm
      rw [h1, h2]
    · rfl
theorem withSt_some {st : St} {q : Option PV} (h : withSt st q = some (p, st')) : q = some p ∧ st' = st := by
  unfold withSt at h
  rw [Option.map_eq_some_iff] at h
  obtain ⟨p', h1, h2⟩ := h
  simp only [Prod.mk.injEq] at h2
  exact ⟨by rw [h1, h2.1], h2.2.symm⟩
theorem withSt_mk {q : Option PV} (h : q = some p) (st : St) : withSt st q = some (p, st) := by rw [h]; rfl
/-- The outcome asks nothing of the locations. -/
def Still (C : Cfg) (call : Call) (f : FuncId) (wr : Wr) (tm : List PV) (o : Oper) (p : PV) : Prop := ∀ st, evOp C call f wr tm st o = some (p, st)
theorem free_ok (h : evOp C call f wr tm st o = some (p, st')) (hk : clsOf C f tm st o = .free) : st' = st ∧ Still C call f wr tm o p := by
  unfold Still
  have quiet : ∀ {q : Option PV}, withSt st q = some (p, st') → st' = st ∧ ∀ s, withSt s q = some (p, s) := fun hq => ⟨(withSt_some hq).2, fun s => withSt_mk (withSt_some hq).1 s⟩
  cases ho : o.op <;> simp only [evOp, ho] at h ⊢ <;> simp only [clsOf, ho] at hk <;> (try (cases h; done)) <;> (try (exact quiet h)) <;> (try (cases hk; done))
  case move x => simp only [Option.some.injEq, Prod.mk.injEq] at h; exact ⟨h.2.symm, fun s => by rw [h.1]⟩
  case assign x => simp only [Option.some.injEq, Prod.mk.injEq] at h; exact ⟨h.2.symm, fun s => by rw [h.1]⟩
  case makeFunc g a b => simp only [Option.some.injEq, Prod.mk.injEq] at h; exact ⟨h.2.symm, fun s => by rw [h.1]⟩
  case makeInterface t x =>
    split at h
    · cases h
    · cases h
    · split at h
      · rename_i hone
        simp only [Option.some.injEq, Prod.mk.injEq] at h
        refine ⟨h.2.symm, fun s => ?_⟩
        rw [if_pos hone, h.1]
      · cases h
  case buildSlice t len ps =>
    split at hk
    · cases hk
    · rename_i hrf
      have hrf' : rfOf C f o = false := by simpa using hrf
      rw [hrf'] at h
      unfold evBuildSlice at h
      split at h
      · rename_i e he
        split at h
        · rename_i n z hn hz
          split at h
          · rename_i hc
            rw [Option.map_eq_some_iff] at h
            obtain ⟨xs, h1, h2⟩ := h
            simp only [mkRow, Bool.false_eq_true, if_false, Prod.mk.injEq] at h2
            refine ⟨h2.2.symm, fun s => ?_⟩
            rw [hrf']
            unfold evBuildSlice
            rw [he]
            simp only [hn, hz]
            rw [if_pos hc, h1]
            simp [mkRow, h2.1]
          · cases h
        · cases h
      · cases h
  case makeSlice t l c =>
    split at hk
    · cases hk
    · rename_i hrf
      have hrf' : rfOf C f o = false := by simpa using hrf
      rw [hrf'] at h
      unfold evMakeSlice at h
      split at h
      · rename_i e l' c' he hl hc
        split at h
        · rename_i i z hi hz
          split at h
          · rename_i hcond
            simp only [mkRow, Bool.false_eq_true, if_false, Option.some.injEq, Prod.mk.injEq] at h
            refine ⟨h.2.symm, fun s => ?_⟩
            rw [hrf']
            unfold evMakeSlice
            rw [he, hl, hc]
            simp only [hi, hz]
            rw [if_pos hcond]
            simp [mkRow, h.1]
          · cases h
        · cases h
      · cases h
  case load t x =>
    obtain ⟨h1, h2⟩ := withSt_some h
    refine ⟨h2, fun s => withSt_mk ?_ s⟩
    rw [← h1]
    unfold evLoad
    have : ∀ n, rdCells s n (PV.ev tm x) = rdCells st n (PV.ev tm x) := fun n => by
      split at hk
      · cases hk
      · rename_i hx
        unfold rdCells
        split
        · rename_i l off he; exact absurd he (hx l off)
        · rfl
        · rfl
    simp only [this]
  case store t x y => split at hk <;> cases hk
  case slice t x lo hi mx => split at h <;> rename_i hx <;> (try rw [hx]) <;> first | exact quiet h | (obtain ⟨h1, h2⟩ := quiet h; refine ⟨h1, fun s => ?_⟩; rw [← h2 s])
  case index t x i => split at h <;> rename_i hx <;> (try rw [hx]) <;> first | exact quiet h | (obtain ⟨h1, h2⟩ := quiet h; refine ⟨h1, fun s => ?_⟩; rw [← h2 s])
  case convert s' d x => split at h <;> rename_i hx <;> (try rw [hx]) <;> first | exact quiet h | (obtain ⟨h1, h2⟩ := quiet h; refine ⟨h1, fun s => ?_⟩; rw [← h2 s])
  case extract x i =>
    split at h
    · rename_i vs hx; exact quiet h
    · cases h
  case binOp op t x y t' =>
    split at h
    · rename_i q hq
      simp only [Option.some.injEq, Prod.mk.injEq] at h
      exact ⟨h.2.symm, fun s => by rw [h.1]⟩
    · exact quiet h
  case call c =>
    split at h
    · rename_i hb
      rw [hb] at hk
      simp only at hk
      split at hk
      · split at hk <;> cases hk
      · cases hk
    · rename_i hb
      split at h
      · rename_i x hargs
        split at h
        · exact quiet h
        · split at h
          · rename_i t ht
            exact quiet h
          · cases h
      · cases h
    · exact quiet h
    · exact quiet h
    · rename_i g hb
      rw [hb] at hk
      simp only at hk
      split at h
      · rename_i hf a b hg
        rw [hg] at hk
        simp only at hk
        unfold callBy at h ⊢
        split at hk
        · rename_i r hr
          rw [hr] at h
          simp only [Option.some.injEq, Prod.mk.injEq] at h
          refine ⟨h.2.symm, fun s => ?_⟩
          rw [h.1]
        · rename_i hr
          rw [hr] at h
          simp only at h
          split at hk
          · rename_i hm
            rw [hm] at h
            simp only at h
            split at h
            · rename_i hsafe
              split at h
              · rename_i r s0 hcall
                split at h
                · rename_i hrs
                  simp only [Option.some.injEq, Prod.mk.injEq] at h
                  refine ⟨h.2.symm, fun s => ?_⟩
                  rw [if_pos hsafe, if_pos hrs, h.1]
                · cases h
              · cases h
            · cases h
          · cases hk
          · split at hk <;> cases hk
          · cases hk
      · rename_i hg
        rw [hg] at hk
        cases hk
      · cases h
    · cases h
theorem reads_ok {l : Nat} (h : evOp C call f wr tm st o = some (p, st')) (hk : clsOf C f tm st o = .reads l) : st' = st ∧ ∀ s, locAt s l = locAt st l → evOp C call f wr tm s o = some (p, s) := by
  cases ho : o.op <;> simp only [clsOf, ho] at hk <;> (try (cases hk; done))
  case load t x =>
    simp only [evOp, ho] at h ⊢
    obtain ⟨h1, h2⟩ := withSt_some h
    refine ⟨h2, fun s hs => withSt_mk ?_ s⟩
    rw [← h1]
    split at hk
    · rename_i l' off hx
      cases hk
      unfold evLoad
      have : ∀ n, rdCells s n (PV.ev tm x) = rdCells st n (PV.ev tm x) := fun n => by
        rw [hx]
        simp only [rdCells, hs]
      simp only [this]
    · cases hk
  case store t x y => split at hk <;> cases hk
  case buildSlice t len ps => split at hk <;> cases hk
  case makeSlice t a b => split at hk <;> cases hk
  case call c =>
    split at hk
    · split at hk
      · split at hk <;> cases hk
      · cases hk
    · cases hk
    · split at hk
      · split at hk
        · cases hk
        · split at hk
          · cases hk
          · cases hk
          · split at hk <;> cases hk
          · cases hk
      · cases hk
    · cases hk
theorem oldLoc_lt {st : St} {k : Nat} (h : oldLoc st k = true) : k < st.locs.length := by simpa [oldLoc] using h
theorem keeps_ok {kp : Nat → Bool} (h : evOp C call f wr tm st o = some (p, st')) (hk : clsOf C f tm st o = .state kp) {l : Nat} (hl : kp l = true) : locAt st' l = locAt st l := by
  have two : ∀ {k : Nat}, (oldLoc st l && l != k) = true → l < st.locs.length ∧ l ≠ k := fun hx => by
    simp only [Bool.and_eq_true, bne_iff_ne, ne_eq] at hx
    exact ⟨oldLoc_lt hx.1, hx.2⟩
  cases ho : o.op <;> simp only [clsOf, ho] at hk <;> (try (cases hk; done)) <;> simp only [evOp, ho] at h
  case alloc t =>
    cases hk
    unfold evAlloc at h
    split at h
    · split at h
      · simp only [Option.some.injEq, Prod.mk.injEq] at h
        rw [← h.2]; exact locAt_newLoc_old (oldLoc_lt hl)
      · cases h
    · cases h
  case box t x =>
    cases hk
    unfold evBox at h
    split at h
    · simp only [Option.some.injEq, Prod.mk.injEq] at h
      rw [← h.2]; exact locAt_newLoc_old (oldLoc_lt hl)
    · cases h
  case load t x => split at hk <;> cases hk
  case store t x y =>
    rw [Option.map_eq_some_iff] at h
    obtain ⟨s, h1, h2⟩ := h
    simp only [Prod.mk.injEq] at h2
    rw [← h2.2]
    unfold evStore at h1
    split at hk
    · rename_i l' off hx
      cases hk
      obtain ⟨h3, h4⟩ := two hl
      rw [hx] at h1
      split at h1
      · rename_i n l'' off' hn he
        cases he
        split at h1
        · split at h1
          · simp only [Option.some.injEq] at h1
            rw [← h1]; exact locAt_set_other (fun e => h4 e.symm)
          · cases h1
        · cases h1
      · cases h1
    · cases hk; cases hl
  case buildSlice t len ps =>
    split at hk
    · rename_i hrf
      cases hk
      unfold evBuildSlice at h
      split at h
      · split at h
        · split at h
          · rw [Option.map_eq_some_iff] at h
            obtain ⟨xs, h1, h2⟩ := h
            simp only [mkRow, hrf, if_true, Prod.mk.injEq] at h2
            rw [← h2.2]; exact locAt_newLoc_old (oldLoc_lt hl)
          · cases h
        · cases h
      · cases h
    · cases hk
  case makeSlice t a b =>
    split at hk
    · rename_i hrf
      cases hk
      unfold evMakeSlice at h
      split at h
      · split at h
        · split at h
          · simp only [mkRow, hrf, if_true, Option.some.injEq, Prod.mk.injEq] at h
            rw [← h.2]; exact locAt_newLoc_old (oldLoc_lt hl)
          · cases h
        · cases h
      · cases h
    · cases hk
  case call c =>
    split at hk
    · rename_i hb
      rw [hb] at h
      simp only at h
      split at hk
      · rename_i s rest hargs
        rw [hargs] at h
        split at h
        · rename_i s' x he
          simp only [List.cons.injEq] at he
          obtain ⟨rfl, rfl⟩ := he
          unfold evAppend at h
          split at h
          · split at h
            · cases h
            · split at h
              · cases h
              · split at h
                · cases h
                · split at h
                  · cases h
                  · split at h
                    · rename_i xs fl hx
                      rw [hx] at hk
                      cases hk
                      have hlt := oldLoc_lt hl
                      split at h
                      · simp only [Option.some.injEq, Prod.mk.injEq] at h; rw [← h.2]
                      · split at h
                        · cases h
                        · split at h
                          · cases h
                          · split at h
                            · simp only [Option.some.injEq, Prod.mk.injEq] at h; rw [← h.2]; rfl
                            · cases h
                          · split at h
                            · simp only [Option.some.injEq, Prod.mk.injEq] at h; rw [← h.2]; exact locAt_newLoc_old hlt
                            · simp only [Option.some.injEq, Prod.mk.injEq] at h; rw [← h.2]; rfl
                    · rename_i l' n off len hx
                      rw [hx] at hk
                      cases hk
                      obtain ⟨h3, h4⟩ := two hl
                      split at h
                      · split at h
                        · simp only [Option.some.injEq, Prod.mk.injEq] at h; rw [← h.2]
                        · split at h
                          · simp only [Option.some.injEq, Prod.mk.injEq] at h
                            rw [← h.2, locAt_newLoc_old (by simpa using h3)]
                            exact locAt_set_other (fun e => h4 e.symm)
                          · cases h
                      · cases h
                    · cases h
          · cases h
        · cases h
      · cases hk; cases hl
    · cases hk
    · rename_i g hb
      rw [hb] at h
      simp only at h
      split at hk
      · rename_i hf a b hg
        rw [hg] at h
        simp only at h
        unfold callBy at h
        split at hk
        · cases hk
        · rename_i hr
          rw [hr] at h
          simp only at h
          split at hk
          · cases hk
          · rename_i hm
            rw [hm] at h
            simp only at h
            split at h
            · split at h
              · simp only [Option.some.injEq, Prod.mk.injEq] at h; rw [← h.2]
              · cases h
            · cases h
          · rename_i hm
            rw [hm] at h
            simp only at h
            split at hk
            · rename_i l' hl'
              cases hk
              obtain ⟨h3, h4⟩ := two hl
              rw [hl'] at h
              simp only at h
              unfold callLoc at h
              split at h
              · split at h
                · split at h
                  · split at h
                    · simp only [Option.some.injEq, Prod.mk.injEq] at h
                      rw [← h.2]; exact locAt_set_other (fun e => h4 e.symm)
                    · split at h
                      · simp only [Option.some.injEq, Prod.mk.injEq] at h
                        rw [← h.2]
                        unfold locAt
                        rw [locAt_append_left (by simpa using h3)]
                        exact locAt_set_other (st := st) (fun e => h4 e.symm)
                      · cases h
                  · cases h
                · cases h
              · cases h
            · cases hk; cases hl
          · cases hk; cases hl
      · cases hk; cases hl
    · cases hk; cases hl
end hang
end Go.Proofs.YthngeddaeoeimaaDoorVE
