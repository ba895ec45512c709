import Derived.Test.YtlkaoiceehlkmaaVeN1
namespace Go.Proofs.YtlkaoiceehlkmaaVE
open Go Go.RowKit
set_option linter.unusedVariables false
set_option linter.unusedSimpArgs false

def Ex.to : Ex → Exit
  | .normal => .normal
  | .exit id => .exit id
  | .ret => .ret

section scope
variable {F : Fence} {n : Nat} {P : Program} {b : Frame} {a : Act} {k : List Item} {cs : List Frame} {w : World} {Q : Exit → Act → World → Prop}
theorem stepR_scope {c : Code} : step P (lone (b.atR a (.code (.scope c) :: k)) cs w) = .next (lone (b.atR a (.code c :: .inScope c :: k)) cs w) :=
  step_lone_go (by simp [stepG, stepG.exec, Frame.atR])
theorem stepR_inScope {c : Code} : step P (lone (b.atR a (.inScope c :: k)) cs w) = .next (lone (b.atR a k) cs w) :=
  step_lone_go (by simp [stepG, stepG.exec, Frame.atR])
/-- A scope through which the run goes without a goto. -/
theorem wpIn_scope {c : Code} (h : c.wpIn F n P (Exit.noGoto Q) a w) : (Code.scope c).wpIn F n P Q a w := by
  intro b k cs hro hb hr
  have h0 : (lone (b.atR a (.code (.scope c) :: k)) cs w).fenced P F := fenced_calm hb hr rfl
  obtain ⟨e, a₁, w₁, hq, harr⟩ := h b (.inScope c :: k) cs hro hb hr
  cases e with
  | normal => exact ⟨.normal, a₁, w₁, hq, .head h0 stepR_scope (StepsIn.trans harr (.one (fenced_calm hb hr rfl) stepR_inScope))⟩
  | exit id =>
    have hx : exitTo id (.inScope c :: k) = exitTo id k := by simp [exitTo]
    exact ⟨.exit id, a₁, w₁, hq, fun k' hk => .head h0 stepR_scope (harr.1 k' (by rw [hx]; exact hk)),
      fun hr' hk => let ⟨k₁, h1, h2⟩ := harr.2 hr' (by rw [hx]; exact hk); ⟨k₁, h1, .head h0 stepR_scope h2⟩⟩
  | goto l => exact hq.elim
  | ret => exact ⟨_, a₁, w₁, hq, .of_steps (.one h0 stepR_scope) harr⟩
  | panic ch => exact ⟨_, a₁, w₁, hq, .of_steps (.one h0 stepR_scope) harr⟩
  | outgrown => exact ⟨_, a₁, w₁, hq, .of_steps (.one h0 stepR_scope) harr⟩
end scope

section code
variable {C : Cfg} {call : Call} {f : FuncId} {wr : Wr} {B : Base}
/-- The marks of loops over functions that have gone by. -/
def mark (b : Nat) : Deferred := { target := .collected b, args := #[] }
def Marks (N : Nat) (w : World) (ds es : List Deferred) : Prop :=
  ∃ ms : List Nat, es = ms.map mark ++ ds ∧ ms.Nodup ∧ ∀ b ∈ ms, N ≤ b ∧ w.heap[b]? = some (.deferred (some []))
theorem Marks.refl (N : Nat) (w : World) (ds : List Deferred) : Marks N w ds ds := ⟨[], rfl, List.nodup_nil, fun _ h => by cases h⟩
def AfterM (B : Base) (wr : Wr) (g : Gh) (st : St) (w : World) (tm' : List PV) (st' : St) (ds : List Deferred) (a' : Act) (w' : World) : Prop :=
  ∃ g', Fr B wr g st w g' st' w' ∧ SR B g' st' w' ∧ Reps g' tm' a'.tmps.toList ∧ Marks w.heap.size w' ds a'.defers
theorem Marks.trans {g1 g2 : Gh} {st1 st2 : St} {w w1 w2 : World} {ds es fs : List Deferred} (hb : w.heap.size ≤ w1.heap.size) (h : Marks w.heap.size w1 ds es) (hf : Fr B wr g1 st1 w1 g2 st2 w2) (k : Marks w1.heap.size w2 es fs) : Marks w.heap.size w2 ds fs := by
  obtain ⟨ms, rfl, h1, h2⟩ := h
  obtain ⟨ns, rfl, k1, k2⟩ := k
  refine ⟨ns ++ ms, by simp, List.nodup_append.2 ⟨k1, h1, fun a ha b hb' e => ?_⟩, fun b hb' => ?_⟩
  · subst e
    have h3 := (k2 a ha).1
    have h4 := lt_of_obj (h2 a hb').2
    omega
  · rcases List.mem_append.1 hb' with h3 | h3
    · exact ⟨Nat.le_trans hb (k2 b h3).1, (k2 b h3).2⟩
    · exact ⟨(h2 b h3).1, hf.obj b _ (h2 b h3).2 rfl⟩
theorem AfterM.trans {g g1 : Gh} {st st1 st2 : St} {w w1 w2 : World} {tm2 : List PV} {a2 : Act} {ds es : List Deferred} (hs : SR B g st w) (hs1 : SR B g1 st1 w1) (h : Fr B wr g st w g1 st1 w1) (hm : Marks w.heap.size w1 ds es) (k : AfterM B wr g1 st1 w1 tm2 st2 es a2 w2) : AfterM B wr g st w tm2 st2 ds a2 w2 := by
  obtain ⟨g', h1, h2, h3, h4⟩ := k
  exact ⟨g', h.trans hs hs1 h1, h2, h3, Marks.trans h.below.size hm h1 h4⟩
theorem After.m {g : Gh} {st st' : St} {w w' : World} {tm' : List PV} {ds : List Deferred} {a' : Act} (h : After B wr g st w tm' st' ds a' w') : AfterM B wr g st w tm' st' ds a' w' := by
  obtain ⟨g', h1, h2, h3, h4⟩ := h
  exact ⟨g', h1, h2, h3, by rw [h4]; exact Marks.refl ..⟩
theorem code_ok (hok : Ok C call B) {k : Nat} {r : Option Nat} {n : Nat} : ∀ (c : Code), (r = none ∨ noRF c = true) → checkDraws C f c = true → ∀ (tm : List PV) (st : St) (e : Ex) (tm' : List PV) (st' : St), evCode C call (iter k) f wr c tm st = some (e, tm', st') →
    ∀ (g : Gh) (a : Act) (w : World) (Q : Exit → Act → World → Prop), SR B g st w → Reps g tm a.tmps.toList → (∀ a' w', AfterM B wr g st w tm' st' a.defers a' w' → Q e.to a' w') → c.wpIn (Fw r) n C.P Q a w := by
  intro c
  induction c with
  | skip =>
    intro _ _ tm st e tm' st' h g a w Q hs ht hQ
    simp only [evCode, Option.some.injEq, Prod.mk.injEq] at h
    obtain ⟨rfl, rfl, rfl⟩ := h
    exact wpIn_skip (hQ a w ⟨g, Fr.refl .., hs, ht, Marks.refl ..⟩)
  | label l =>
    intro _ _ tm st e tm' st' h g a w Q hs ht hQ
    simp only [evCode, Option.some.injEq, Prod.mk.injEq] at h
    obtain ⟨rfl, rfl, rfl⟩ := h
    exact wpIn_label (hQ a w ⟨g, Fr.refl .., hs, ht, Marks.refl ..⟩)
  | exit id =>
    intro _ _ tm st e tm' st' h g a w Q hs ht hQ
    simp only [evCode, Option.some.injEq, Prod.mk.injEq] at h
    obtain ⟨rfl, rfl, rfl⟩ := h
    exact wpIn_exit (hQ a w ⟨g, Fr.refl .., hs, ht, Marks.refl ..⟩)
  | ret =>
    intro _ _ tm st e tm' st' h g a w Q hs ht hQ
    simp only [evCode, Option.some.injEq, Prod.mk.injEq] at h
    obtain ⟨rfl, rfl, rfl⟩ := h
    exact wpIn_ret (hQ a w ⟨g, Fr.refl .., hs, ht, Marks.refl ..⟩)
  | region id ops draw =>
    intro hn hd tm st e tm' st' h g a w Q hs ht hQ
    simp only [evCode, regR] at h
    split at h
    · rename_i tm1 st1 he
      unfold regE at h
      have fin : ∀ {x : Outc}, x = some (.normal, wipe (C.keep f id) tm1, st1) → x = some (e, tm', st') → ∀ a' w', After B wr g st w tm1 st1 a.defers a' w' → Q .normal a' w' := fun hx hy a' w' hA => by
        rw [hx] at hy
        simp only [Option.some.injEq, Prod.mk.injEq] at hy
        obtain ⟨rfl, rfl, rfl⟩ := hy
        obtain ⟨g', h1, h2, h3, h4⟩ := hA.m
        exact hQ a' w' ⟨g', h1, h2, wipe_ok h3, h4⟩
      cases draw with
      | false => exact region_ok hok he hs ht (fin rfl h)
      | true =>
        simp only at h
        split at h
        · rename_i l hl
          split at h
          · rename_i hck
            simp only [checkDraws, hl] at hd
            exact draw_ok hok (by simpa using hd) hck he hs ht (fin rfl h)
          · cases h
        · cases h
    · cases h
  | seq x y ihx ihy =>
    intro hn hd tm st e tm' st' h g a w Q hs ht hQ
    simp only [checkDraws, Bool.and_eq_true] at hd
    simp only [noRF, Bool.and_eq_true] at hn
    simp only [evCode, thenE] at h
    split at h
    · rename_i tm1 st1 hx
      refine wpIn_seq (ihx (hn.imp id (·.1)) hd.1 _ _ _ _ _ hx g a w _ hs ht fun a1 w1 hA => ?_)
      obtain ⟨g1, h1, h2, h3, h4⟩ := hA
      exact ihy (hn.imp id (·.2)) hd.2 _ _ _ _ _ h g1 a1 w1 Q h2 h3 fun a' w' hB => hQ a' w' (AfterM.trans hs h2 h1 h4 hB)
    · rename_i hne
      refine wpIn_seq (ihx (hn.imp id (·.1)) hd.1 _ _ _ _ _ h g a w _ hs ht fun a1 w1 hA => ?_)
      have := hQ a1 w1 hA
      cases e with
      | normal => exact absurd h (hne _ _)
      | exit id => exact this
      | ret => exact this
  | cond c x y ihx ihy =>
    intro hn hd tm st e tm' st' h g a w Q hs ht hQ
    simp only [checkDraws, Bool.and_eq_true] at hd
    simp only [noRF, Bool.and_eq_true] at hn
    simp only [evCode, condE] at h
    split at h
    · rename_i hc
      have hv := Rep.ev ht c
      rw [hc] at hv
      simp only [Rep] at hv
      exact wpIn_cond_true hv.1 (ihx (hn.imp id (·.1)) hd.1 _ _ _ _ _ h g a w Q hs ht hQ)
    · rename_i hc
      have hv := Rep.ev ht c
      rw [hc] at hv
      simp only [Rep] at hv
      exact wpIn_cond_false hv.1 (ihy (hn.imp id (·.2)) hd.2 _ _ _ _ _ h g a w Q hs ht hQ)
    · cases h
  | block id c ih =>
    intro hn hd tm st e tm' st' h g a w Q hs ht hQ
    simp only [checkDraws] at hd
    simp only [noRF] at hn
    simp only [evCode, blockE] at h
    split at h
    · rename_i j tm1 st1 hc
      refine wpIn_block (ih hn hd _ _ _ _ _ hc g a w _ hs ht fun a1 w1 hA => ?_)
      simp only [Ex.to, Exit.inBlock]
      split at h
      · rename_i hj
        simp only [Option.some.injEq, Prod.mk.injEq] at h
        obtain ⟨rfl, rfl, rfl⟩ := h
        rw [if_pos hj]
        exact hQ a1 w1 hA
      · rename_i hj
        simp only [Option.some.injEq, Prod.mk.injEq] at h
        obtain ⟨rfl, rfl, rfl⟩ := h
        rw [if_neg hj]
        exact hQ a1 w1 hA
    · rename_i hne
      refine wpIn_block (ih hn hd _ _ _ _ _ h g a w _ hs ht fun a1 w1 hA => ?_)
      have := hQ a1 w1 hA
      cases e with
      | exit j => exact absurd h (hne _ _ _)
      | normal => exact this
      | ret => exact this
  | loop c ih =>
    intro hn hd tm st e tm' st' h g a w Q hs ht hQ
    simp only [checkDraws] at hd
    simp only [noRF] at hn
    simp only [evCode] at h
    refine wpIn_loop_rounds k ?_
    have key : ∀ (m : Nat) (tm : List PV) (st : St) (g : Gh) (a : Act) (w : World), iter m (fun tm st => evCode C call (iter k) f wr c tm st) tm st = some (e, tm', st') → SR B g st w → Reps g tm a.tmps.toList → (∀ a' w', AfterM B wr g st w tm' st' a.defers a' w' → Q e.to a' w') →
        Code.roundsIn (Fw r) n C.P c Q m a w := by
      intro m
      induction m with
      | zero => intro tm st g a w h; simp [iter] at h
      | succ m ihm =>
        intro tm st g a w h hs ht hQ
        simp only [iter, thenE] at h
        rw [roundsIn_succ]
        split at h
        · rename_i tm1 st1 hc
          refine ih hn hd _ _ _ _ _ hc g a w _ hs ht fun a1 w1 hA => ?_
          obtain ⟨g1, h1, h2, h3, h4⟩ := hA
          exact ihm _ _ g1 a1 w1 h h2 h3 fun a' w' hB => hQ a' w' (AfterM.trans hs h2 h1 h4 hB)
        · rename_i hne
          refine ih hn hd _ _ _ _ _ h g a w _ hs ht fun a1 w1 hA => ?_
          have := hQ a1 w1 hA
          cases e with
          | normal => exact absurd h (hne _ _)
          | exit id => exact this
          | ret => exact this
    exact key k tm st g a w h hs ht hQ
  | rangeFunc gf ps x y ihx ihy =>
    intro hn hd tm st e tm' st' h g a w Q hs ht hQ
    have hr : r = none := hn.resolve_right (by simp [noRF])
    subst hr
    simp only [evCode, bindR] at h
    split at h
    · rename_i p st1 he
      split at h
      · rename_i hflr
        simp only [Option.some.injEq, Prod.mk.injEq] at h
        obtain ⟨rfl, rfl, rfl⟩ := h
        unfold rangeR at he
        split at he
        · rename_i gq fa fb hg
          have hrep := Rep.ev ht gf
          rw [hg] at hrep
          simp only [Rep] at hrep
          obtain ⟨va, vb, hgv, ha1, ha2⟩ := hrep
          refine wpIn_rangeFunc fun fo _ => ?_
          let l := w.heap.size + 1
          let rc : Go.Loop := { state := .ready, pending := none, fn := fo, tmps := a.tmps, params := ps, assign := x, body := y, defers := w.heap.size }
          let w1 := (w.alloc (.deferred (some []))).alloc (.loop rc)
          let g1 := g.setObj l (some rc)
          have hs1 : SR B g1 st w1 := hs.enter rc
          have hf1 : Fr B wr g st w g1 st w1 := Fr.enter hs rc
          obtain ⟨fn, hfn, hbody⟩ := hok.callHas _ _ _ _ _ he
          obtain ⟨bc, hbc⟩ : ∃ bc, fn.body = some bc := by
            cases hx : fn.body with
            | none => rw [hx] at hbody; cases hbody
            | some bc => exact ⟨bc, rfl⟩
          have hname := hok.plain _ _ hfn
          have hyl : Rep g1 (.yld f tm ps x y) (.func (.yield l) #[] #[]) := by
            simp only [Rep]
            exact ⟨l, rc, a.tmps.toList, rfl, by simp [g1, Gh.setObj, Gh.withObj], ⟨rfl, rfl, rfl, rfl, rfl, rfl⟩, Reps.mono hf1.le _ _ ht⟩
          have hargs : Reps g1 (fa ++ [.yld f tm ps x y] ++ fb) (va ++ [.func (.yield l) #[] #[]] ++ vb) :=
            ((Reps.mono hf1.le _ _ ha1).append (Reps.one hyl)).append (Reps.mono hf1.le _ _ ha2)
          have hcall := hok.ok _ _ _ _ _ _ he g1 w1 _ hs1 hargs
          have hres : (resolve a.eval (rangeCall gf l) 0).run C.P w1 = .ok { target := .fn (.func gq) vb.toArray, args := va.toArray ++ #[Value.func (.yield l) #[] #[]] } w1 := by
            have hc : a.eval (.const (.func (.yield l) #[] #[])) = Value.func (.yield l) #[] #[] := rfl
            show (Deferred.ofValue (a.eval gf) (#[Operand.const (.func (.yield l) #[] #[])].map a.eval)).run C.P w1 = _
            rw [hgv]
            simp [Deferred.ofValue, Sem.run_pure, hc]
          have hinv : (invoke (Target.fn (Fn.func gq) vb.toArray) (va.toArray ++ #[Value.func (.yield l) #[] #[]])).run C.P w1 = .ok (.enter gq (va ++ [Value.func (.yield l) #[] #[]] ++ vb).toArray) w1 := by
            have harr : va.toArray ++ #[Value.func (.yield l) #[] #[]] ++ vb.toArray = (va ++ [Value.func (.yield l) #[] #[]] ++ vb).toArray := by apply Array.ext'; simp
            simp only [invoke, callFunc, harr]
            simp [program, Sem.run_bind, Sem.run, Result.andThen, hfn, hname, hbc]
          refine ⟨l, [mark w.heap.size], w1, _, w1, gq, _, w1, run_enterLoop_outer fo a.tmps ps x y, hres, fun _ _ => trivial, hinv, (fun hx => by cases hx), Fw_calls (Calls.post hcall ?_)⟩
          rintro e w3 ⟨v, g3, he3, h1, h2, h3⟩
          subst he3
          have hobj3 : g3.obj l = some rc := h1.le.obj l rc (by simp [g1, Gh.setObj, Gh.withObj])
          obtain ⟨hBl, hw3⟩ := h2.obj l rc hobj3
          refine ⟨none, _, run_endLoop hw3 (by simp [rc]), ?_⟩
          have hs4 := h2.setObj (r' := { rc with state := .exhausted }) hBl hw3 none (.inr rfl)
          refine hQ _ _ ⟨g3.setObj l none, ?_, hs4, ?_, ?_⟩
          · refine FrX.fr (l := l) (((hf1.trans hs hs1 h1).x l).trans hs h2 (FrX.put hBl hw3 rfl none)) hflr (fun r hr => ?_) (fun o ho _ => ?_)
            · have := lt_of_obj (hs.obj l r hr).2
              simp only [l] at this
              omega
            · have := lt_of_obj ho
              simp only [l] at this
              omega
          · have hg4 : Le g (g3.setObj l none) := by
              have hle := hf1.le.trans h1.le
              refine ⟨hle.im, hle.nl, hle.nt, hle.base, hle.ext, hle.reg, fun k r hr => ?_⟩
              have := lt_of_obj (hs.obj k r hr).2
              simp only [Gh.setObj, Gh.withObj, if_neg (show ¬ k = l by simp only [l]; omega)]
              exact hle.obj k r hr
            exact Reps.mono hg4 _ _ ht
          · refine ⟨[w.heap.size], rfl, by simp, fun b hb => ?_⟩
            rw [List.mem_singleton] at hb
            subst hb
            refine ⟨Nat.le_refl _, ?_⟩
            rw [World.putObj_heap_other (by simp [l])]
            refine h1.obj _ _ ?_ rfl
            show ((w.alloc (.deferred (some []))).alloc (.loop rc)).heap[w.heap.size]? = _
            exact obj_alloc (World.alloc_heap_new w _)
        · cases he
      · cases h
    · cases h
  | scope c ih =>
    intro hn hd tm st e tm' st' h g a w Q hs ht hQ
    simp only [checkDraws] at hd
    simp only [noRF] at hn
    simp only [evCode] at h
    refine wpIn_scope (ih hn hd _ _ _ _ _ h g a w _ hs ht fun a1 w1 hA => ?_)
    have := hQ a1 w1 hA
    cases e with
    | normal => exact this
    | exit j => exact this
    | ret => exact this
  | goto l => intro hn hd tm st e tm' st' h; simp [evCode] at h
  | refuse m => intro hn hd tm st e tm' st' h; simp [evCode] at h

theorem load_pointer {P : Program} {g : Gh} {st : St} {w : World} (hs : SR B g st w) {t : TypeId} {a p : PV} {av : Value} (h : evLoad P t a st = some p) (hr : Rep g a av) :
    ∃ v, (asAddr av >>= fun x => loadVar t x).run P w = .ok v w ∧ Rep g p v := by
  obtain ⟨v, h1, h2⟩ := load_ok (P := P) hs h hr
  have : ∃ x, av = .pointer (some x) := by
    unfold evLoad at h
    split at h
    · split at h
      · rename_i cs hcs
        obtain ⟨b, o, vals, rfl, _⟩ := rd_ok hs hcs hr
        exact ⟨_, rfl⟩
      · cases h
    · cases h
  obtain ⟨x, rfl⟩ := this
  refine ⟨v, ?_, h2⟩
  simpa [Instr.loadAt, Instr.sureAddr, asAddr] using h1
def resSem (a : Act) : ResultVar → Sem Value
  | .tmp t => pure (a.tmps.getD t undef)
  | .cell b t => do loadVar t (← asAddr (a.tmps.getD b undef))
theorem results_ok {P : Program} {g : Gh} {st : St} {w : World} {fn : Func} {tm : List PV} {a : Act} {p : PV} (hs : SR B g st w) (ht : Reps g tm a.tmps.toList) (h : evResults P fn tm st = some p) : ∃ v, (results fn a.tmps).run P w = .ok v w ∧ Rep g p v := by
  have key : ∀ (l : List ResultVar) (ps : List PV), l.mapM (evResult P tm st) = some ps → ∃ vs : List Value, (l.mapM (resSem a)).run P w = .ok vs w ∧ Reps g ps vs := by
    intro l
    induction l with
    | nil => intro ps h; simp at h; subst h; exact ⟨[], by simp, rfl⟩
    | cons x l ih =>
      intro ps h
      simp only [List.mapM_cons, Option.bind_eq_bind, Option.bind_eq_some_iff, Option.pure_def, Option.some.injEq] at h
      obtain ⟨p, hp, ps', hps, rfl⟩ := h
      obtain ⟨vs, h1, h2⟩ := ih ps' hps
      cases x with
      | tmp t =>
        simp only [evResult, Option.some.injEq] at hp
        subst hp
        refine ⟨a.tmps.getD t undef :: vs, ?_, by simp only [Reps]; exact ⟨_, _, rfl, Rep.ev ht (.tmp t), h2⟩⟩
        simp only [List.mapM_cons, resSem, Sem.run_bind, Sem.run_pure, Result.andThen_ok, h1]
      | cell b t =>
        simp only [evResult] at hp
        obtain ⟨v, h3, h4⟩ := load_pointer hs hp (Rep.ev ht (.tmp b))
        refine ⟨v :: vs, ?_, by simp only [Reps]; exact ⟨_, _, rfl, h4, h2⟩⟩
        have h3' : (do loadVar t (← asAddr (a.tmps.getD b undef)) : Sem Value).run P w = .ok v w := h3
        simp only [List.mapM_cons]
        rw [Sem.run_bind, show (resSem a (.cell b t)).run P w = .ok v w from h3']
        simp only [Result.andThen_ok, Sem.run_bind, h1, Sem.run_pure]
  unfold evResults at h
  have hrun : ∀ vs : List Value, (fn.results.toList.mapM (resSem a)).run P w = .ok vs w →
      (results fn a.tmps).run P w = .ok (if h : vs.toArray.size = 1 then vs.toArray[0] else .tuple vs.toArray) w := fun vs hv => by
    have e : results fn a.tmps = (do let vs ← fn.results.mapM (resSem a); pure (if h : vs.size = 1 then vs[0] else .tuple vs)) := by
      unfold results
      congr 1
    rw [e, Array.mapM_eq_mapM_toList]
    simp only [Sem.run_bind, Sem.run_map]
    rw [hv]
    rfl
  split at h
  · rename_i q hq
    simp only [Option.some.injEq] at h
    subst h
    obtain ⟨vs, h1, h2⟩ := key _ _ hq
    simp only [Reps] at h2
    obtain ⟨v, vs', rfl, h3, rfl⟩ := h2
    exact ⟨v, by rw [hrun _ h1]; simp, h3⟩
  · rename_i ps hq hne
    simp only [Option.some.injEq] at h
    subst h
    obtain ⟨vs, h1, h2⟩ := key _ _ hne
    refine ⟨.tuple vs.toArray, ?_, by rw [Rep]; exact ⟨vs, rfl, h2⟩⟩
    rw [hrun _ h1, dif_neg]
    intro he
    simp only [List.size_toArray, h2.length] at he
    cases ps with
    | nil => simp at he
    | cons p ps =>
      cases ps with
      | nil => exact hq p rfl
      | cons q ps => simp at he
  · cases h
theorem Reps.anys (g : Gh) : ∀ vs : List Value, Reps g (List.replicate vs.length .any) vs
  | [] => rfl
  | v :: vs => by simp only [List.length_cons, List.replicate_succ, Reps]; exact ⟨v, vs, rfl, by simp only [Rep], Reps.anys g vs⟩
theorem body_ok (hok : Ok C call B) {k : Nat} (hd : ∀ fn c, C.P.funcs[f]? = some fn → fn.body = some c → checkDraws C f c = true) {args : List PV} {st st' : St} {p : PV} (h : evBody C call (iter k) f args wr st = some (p, st')) {g : Gh} {w : World} {vs : List Value} (hs : SR B g st w) (ha : Reps g args vs) : Calls C.P f vs.toArray w (Post B wr g st w p st') := by
  unfold evBody at h
  split at h
  · cases h
  · rename_i fn hfn
    split at h
    · cases h
    · rename_i c hc
      have hstart : Reps g (args ++ List.replicate (fn.ntmps - args.length) .any) ({ tmps := vs.toArray ++ Array.replicate (fn.ntmps - vs.toArray.size) undef, defers := [] } : Act).tmps.toList := by
        have hl := ha.length
        simp only [Array.toList_append, Array.toList_replicate, List.size_toArray, hl]
        refine ha.append ?_
        have := Reps.anys g (List.replicate (fn.ntmps - args.length) undef)
        simpa using this
      have fin : ∀ (p : PV) (st' : St) (e : Ex) (tm1 : List PV) (st1 : St), evCode C call (iter k) f wr c (args ++ List.replicate (fn.ntmps - args.length) .any) st = some (e, tm1, st1) → (e = .normal ∨ e = .ret) → (evResults C.P fn tm1 st1).map (fun p => (p, st1)) = some (p, st') → Calls C.P f vs.toArray w (Post B wr g st w p st') := by
        intro p st' e tm1 st1 he hor hres
        rw [Option.map_eq_some_iff] at hres
        obtain ⟨q, hq, heq⟩ := hres
        simp only [Prod.mk.injEq] at heq
        obtain ⟨rfl, rfl⟩ := heq
        refine (callsIn_wide (n := 0)).1 (callsIn_of_wp_marks (F := Fw none) hfn hc trivial ?_ rfl)
        refine code_ok hok c (.inl rfl) (hd fn c hfn hc) _ _ _ _ _ he g _ w _ hs hstart fun a' w' hA => ?_
        obtain ⟨g', h1, h2, h3, h4⟩ := hA
        have key : ∀ (ms : List Nat), ms.Nodup → ∀ w', Fr B wr g st w g' st1 w' → SR B g' st1 w' → (∀ b ∈ ms, w.heap.size ≤ b ∧ w'.heap[b]? = some (.deferred (some []))) →
            LeavesInM (Fw none) 0 C.P fn a'.tmps (Post B wr g st w q st1) (ms.map mark) .returning w' := by
          intro ms
          induction ms with
          | nil =>
            intro _ w' h1 h2 _
            obtain ⟨v, h5, h6⟩ := results_ok h2 h3 hq
            exact ⟨v, h5, v, g', rfl, h1, h2, h6⟩
          | cons b ms ih =>
            intro hnd w' h1 h2 hm
            obtain ⟨hb1, hb2⟩ := hm b (by simp)
            obtain ⟨hn1, hn2⟩ := List.nodup_cons.1 hnd
            have hB : B.n ≤ b := Nat.le_trans hs.low hb1
            simp only [List.map_cons, LeavesInM]
            refine ⟨by simp, .inl ⟨b, _, rfl, run_takeDeferred hb2, ih hn2 _ (Fr.shut h1 hb1 hB hb2) (SR.shut h2 hB hb2) fun c hc => ⟨(hm c (by simp [hc])).1, ?_⟩⟩⟩
            rw [World.putObj_heap_other (fun e => hn1 (by rw [← e]; exact hc))]
            exact (hm c (by simp [hc])).2
        obtain ⟨ms, h4, h5, h6⟩ := h4
        simp only [List.append_nil] at h4
        rcases hor with rfl | rfl
        · show LeavesInM _ _ _ _ _ _ _ _ _
          rw [h4]
          exact key ms h5 _ h1 h2 h6
        · show LeavesInM _ _ _ _ _ _ _ _ _
          rw [h4]
          exact key ms h5 _ h1 h2 h6
      have all : ∀ (p : PV) (st' : St), endE C.P fn (evCode C call (iter k) f wr c (args ++ List.replicate (fn.ntmps - args.length) .any) st) = some (p, st') → Calls C.P f vs.toArray w (Post B wr g st w p st') := by
        intro p st' h
        unfold endE at h
        split at h
        · rename_i tm1 st1 he; exact fin _ _ _ _ _ he (.inl rfl) h
        · rename_i tm1 st1 he; exact fin _ _ _ _ _ he (.inr rfl) h
        · cases h
      unfold frzE at h
      split at h
      · split at h
        · rename_i q st1 he
          simp only [Option.some.injEq] at h
          refine Calls.post (all q st1 he) fun e w' ⟨v, g', h1, h2, h3, h4⟩ => ?_
          obtain ⟨g2, f2, s2, r2⟩ := frz3_ok (wr := wr) h3 h4 h
          exact ⟨v, g2, h1, h2.trans hs h3 f2, s2, r2⟩
        · cases h
      · exact all p st' h
theorem body_has {it : Loop} {args : List PV} {st : St} {r : PV × St} (h : evBody C call it f args wr st = some r) : Bodied C.P f := by
  unfold evBody at h
  split at h
  · cases h
  · rename_i fn hfn
    split at h
    · cases h
    · rename_i c hc
      exact ⟨fn, hfn, by rw [hc]; rfl⟩
end code

theorem putAll_ok {g : Gh} : ∀ {tm : List PV} {ts : List Tmp} {args : List PV} {vals : Array Value} {vs : List Value}, Reps g tm vals.toList → Reps g args vs → ts.length = vs.length →
    Reps g (putAll tm ts args) ((ts.toArray.zip vs.toArray).foldl (fun tmps x => tmps.setIfInBounds x.1 x.2) vals).toList
  | tm, [], args, vals, vs, h, ha, hl => by
    have : vs = [] := List.eq_nil_of_length_eq_zero hl.symm
    subst this
    simp only [putAll]
    simpa using h
  | tm, t :: ts, [], vals, vs, h, ha, hl => by
    simp only [Reps] at ha
    subst ha
    simp at hl
  | tm, t :: ts, p :: ps, vals, vs, h, ha, hl => by
    simp only [Reps] at ha
    obtain ⟨v, vs', rfl, h1, h2⟩ := ha
    simp only [putAll]
    have hset : Reps g (tm.set t p) (vals.setIfInBounds t v).toList := by
      rw [Array.toList_setIfInBounds]
      exact h.set h1
    have := putAll_ok (ts := ts) hset h2 (by simpa using hl)
    have e : (t :: ts).toArray.zip (v :: vs').toArray = #[(t, v)] ++ ts.toArray.zip vs'.toArray := by
      apply Array.ext'; simp
    rw [e, Array.foldl_append]
    simpa using this
/-- A round that can be reckoned goes as it was reckoned. -/
theorem round_ok {C : Cfg} {B : Base} {call : Call} (hok : Ok C call B) {k : Nat} {f : FuncId} {tm : List PV} {ps : Array Tmp} {asg bd : Code} {args : List PV} {wr : Wr} {st st' : St} {p : PV} (h : evRound C call (iter k) f tm ps asg bd args wr st = some (p, st'))
    (r : Option Nat) (n : Nat) (g : Gh) (w : World) (l : Nat) (rec : Go.Loop) (hs : SR B g st w) (hobj : g.obj l = some rec) (r1 : rec.state = .ready) (r2 : rec.pending = none) (r4 : rec.params = ps) (r5 : rec.assign = asg) (r6 : rec.body = bd)
    (ht : Reps g tm rec.tmps.toList) (vs : List Value) (ha : Reps g args vs) :
    vs.length = ps.size ∧ RoundIn (Fw r) n C.P l rec.fn ((rec.params.zip vs.toArray).foldl (fun tmps x => tmps.setIfInBounds x.1 x.2) rec.tmps) rec.assign rec.body w (Post B wr g st w p st') := by
  subst r4 r5 r6
  unfold evRound at h
  split at h
  · rename_i hc
    obtain ⟨hflr, hlen, hd1, hd2, hn1, hn2⟩ := hc
    have hvl : vs.length = rec.params.size := ha.length.trans hlen
    refine ⟨hvl, ?_⟩
    split at h
    · rename_i tm1 st1 he1
      split at h
      · rename_i tm2 st2 he2
        simp only [Option.some.injEq, Prod.mk.injEq] at h
        obtain ⟨rfl, rfl⟩ := h
        have hstart : Reps g (putAll tm rec.params.toList args) ((rec.params.zip vs.toArray).foldl (fun tmps x => tmps.setIfInBounds x.1 x.2) rec.tmps).toList := by
          have := putAll_ok (ts := rec.params.toList) ht ha (by simpa using hvl.symm)
          simpa using this
        refine roundIn_of_wpIn trivial ?_
        show rec.assign.wpIn (Fw (some l)) n C.P _ _ w
        refine code_ok hok rec.assign (.inr hn1) hd1 _ _ _ _ _ he1 g _ w _ hs hstart fun a1 w1 hA => ?_
        obtain ⟨g1, f1, s1, t1, m1⟩ := hA
        have hobj1 : g1.obj l = some rec := f1.le.obj l rec hobj
        obtain ⟨hBl, hw1⟩ := s1.obj l rec hobj1
        refine ⟨_, run_beginRound hw1 r1, ?_⟩
        have s2 := s1.setObj (r' := { rec with state := .busy }) hBl hw1 (some { rec with state := .busy }) (.inl rfl)
        have x2 : FrX B wr l g1 st1 w1 (g1.setObj l (some { rec with state := .busy })) (cleanSt st1) (w1.putObj l (.loop { rec with state := .busy })) := FrX.put hBl hw1 rfl _
        have t2 : Reps (g1.setObj l (some { rec with state := .busy })) (tm1.map clean) a1.tmps.toList := t1.clean
        refine code_ok hok rec.body (.inr hn2) hd2 _ _ _ _ _ he2 _ a1 _ _ s2 t2 fun a3 w3 hA => ?_
        obtain ⟨g3, f3, s3, t3, m3⟩ := hA
        have hobj3 : g3.obj l = some { rec with state := .busy } := f3.le.obj l _ (by simp [Gh.setObj, Gh.withObj])
        obtain ⟨_, hw3⟩ := s3.obj l _ hobj3
        refine ⟨_, _, run_endRound none hw3, ?_⟩
        have hrec : ({ ({ rec with state := .busy } : Go.Loop) with state := if (none : Option Code).isNone then .ready else .done, pending := none } : Go.Loop) = rec := by
          cases rec
          simp only at r1 r2
          subst r1; subst r2
          rfl
        rw [hrec]
        have s4 := s3.setObj (r' := rec) hBl hw3 (some rec) (.inl rfl)
        have x4 : FrX B wr l g3 st2 w3 (g3.setObj l (some rec)) (cleanSt st2) (w3.putObj l (.loop rec)) := FrX.put hBl hw3 rfl _
        refine ⟨_, g3.setObj l (some rec), rfl, ?_, s4, by simp only [Rep]; exact ⟨rfl, rfl⟩⟩
        refine FrX.fr (l := l) ((f1.x l).trans hs s1 (x2.trans s1 s2 ((f3.x l).trans s2 s3 x4))) hflr (fun q hq => ?_) (fun o ho _ => ?_)
        · rw [hobj] at hq
          simp only [Option.some.injEq] at hq
          subst hq
          simp [Gh.setObj, Gh.withObj]
        · have hw := (hs.obj l rec hobj).2
          rw [hw] at ho
          simp only [Option.some.injEq] at ho
          subst ho
          exact World.putObj_heap_same (lt_of_obj hw3)
      · cases h
    · cases h
  · cases h
/-- What is asked of the functions that are not walked, and of the table of open regions. -/
structure CfgOk (C : Cfg) (B : Base) : Prop where
  prim : PrimOk C B
  primHas : PrimHas C
  plain : Plain C.P
  draws : ∀ (f : FuncId) (fn : Func) (c : Code), C.P.funcs[f]? = some fn → fn.body = some c → checkDraws C f c = true
theorem call_ok {C : Cfg} {B : Base} (hC : CfgOk C B) : ∀ k, Ok C (evCall C k) B
  | 0 => ⟨fun _ _ _ _ _ _ h => by simp [evCall] at h, fun _ _ _ _ _ _ _ _ _ _ h => by simp [evCall] at h, hC.prim, fun _ _ _ _ _ h => by simp [evCall] at h, hC.primHas, hC.plain⟩
  | k + 1 => ⟨fun f args wr st p st' h g w vs hs ha => body_ok (call_ok hC k) (hC.draws f) h hs ha,
      fun f tm ps asg bd args wr st p st' h r n g w l rec hs hobj r1 r2 r4 r5 r6 ht vs ha => round_ok (call_ok hC k) h r n g w l rec hs hobj r1 r2 r4 r5 r6 ht vs ha, hC.prim, fun f args wr st r h => body_has h, hC.primHas, hC.plain⟩
/-- **A call that can be reckoned without memory goes as it was reckoned.** -/
theorem sound {C : Cfg} {w : World} (hC : CfgOk C ⟨w⟩) {k : Nat} {f : FuncId} {args : List PV} {p : PV} {s : St} (h : evCall C k (.fn f) args ⟨0, none⟩ St.nil = some (p, s)) {g : Gh} {vs : List Value} (hs : SR ⟨w⟩ g St.nil w) (ha : Reps g args vs) :
    Calls C.P f vs.toArray w fun e w' => ∃ v g', e = .returned v ∧ Rep g' p v ∧ SR ⟨w⟩ g' s w' ∧ Le g g' ∧ Below w.heap.size w w' :=
  Calls.post ((call_ok hC k).ok f args ⟨0, none⟩ St.nil p s h g w vs hs ha) fun e w' ⟨v, g', h1, h2, h3, h4⟩ => ⟨v, g', h1, h4, h3, h2.le, h2.below⟩
end Go.Proofs.YtlkaoiceehlkmaaVE

namespace Go.Proofs.YtlkaoiceehlkmaaVE
open Go Go.RowKit
set_option linter.unusedVariables false
set_option linter.unusedSimpArgs false

section below
variable {B : Base} {g : Gh} {st : St} {w w' : World} {wr : Wr}
theorem cell_here {b o : Nat} {v : Value} (h : w.cell? ⟨b, o, none⟩ = some v) : b < w.heap.size := World.block_lt_of_cell? w ⟨b, o, none⟩ h
theorem SR.later (hs : SR B g st w) (hb : Below w.heap.size w w') : SR B g st w' where
  obj := fun l r h => ⟨(hs.obj l r h).1, by rw [hb.block l (lt_of_obj (hs.obj l r h).2)]; exact (hs.obj l r h).2⟩
  nl := hs.nl
  nt := hs.nt
  old := hs.old.trans (hb.mono hs.low)
  im := fun b o v h => by
    have h1 := hs.im b o v h
    rw [hb.cell (p := ⟨b, o, none⟩) (cell_here h1)]; exact h1
  mloc := fun b o l h => by
    obtain ⟨h1, h2, h3, h4⟩ := hs.mloc b o l h
    obtain ⟨v, hv⟩ := Option.isSome_iff_exists.1 h3
    exact ⟨h1, h2, by rw [hb.cell (p := ⟨b, o, none⟩) (cell_here hv)]; exact h3, by rw [hb.frozen (p := ⟨b, o, none⟩) (cell_here hv)]; exact h4⟩
  mspare := fun b o l h => by
    obtain ⟨h1, h2, h3, h4⟩ := hs.mspare b o l h
    obtain ⟨v, hv⟩ := Option.isSome_iff_exists.1 h3
    exact ⟨h1, h2, by rw [hb.cell (p := ⟨b, o, none⟩) (cell_here hv)]; exact h3, by rw [hb.frozen (p := ⟨b, o, none⟩) (cell_here hv)]; exact h4⟩
  loc := fun l cs h => by
    obtain ⟨h1, h2, vals, h3, h4⟩ := hs.loc l cs h
    refine ⟨h1, h2, vals, h3, fun j v hv => ?_⟩
    have h5 := h4 j v hv
    rw [hb.cell (p := ⟨_, _, none⟩) (cell_here h5)]; exact h5
  tok := hs.tok
theorem Fr.later (hs : SR B g st w) (hb : Below w.heap.size w w') : Fr B wr g st w g st w' where
  obj := fun k o h _ => by rw [hb.block k (lt_of_obj h)]; exact h
  le := Le.refl g
  below := hb.mono hs.low
  len := Nat.le_refl _
  locs := fun _ _ _ => rfl
  dead := fun _ _ h => h
  live := fun _ _ h => h
  keep := fun b o h _ => ⟨rfl, hb.cell (p := ⟨b, o, none⟩) h⟩
  fz := fun b o h => hb.frozen (p := ⟨b, o, none⟩) h
  there := fun b o h => by
    obtain ⟨v, hv⟩ := Option.isSome_iff_exists.1 h
    rw [hb.cell (p := ⟨b, o, none⟩) (cell_here hv)]; exact h
  ol := fun _ _ _ h => .inl h
/-- A call that leaves all old memory as it stood. -/
theorem post_below (hs : SR B g st w) (hb : Below w.heap.size w w') {p : PV} {v : Value} (hr : Rep g p v) : Post B wr g st w p st (.returned v) w' :=
  ⟨v, g, rfl, Fr.later hs hb, SR.later hs hb, hr⟩
end below

/-- Nothing is known of the memory. -/
def g0 : Gh := ⟨fun _ _ => .other, fun _ => (0, 0), fun _ => 0, fun _ => (0, 0, 0), 0, 0, fun _ => none⟩
theorem start (w : World) : SR ⟨w⟩ g0 St.nil w where
  nl := rfl
  nt := rfl
  old := Below.refl _ _
  im := fun _ _ _ h => by cases h
  mloc := fun _ _ _ h => by cases h
  mspare := fun _ _ _ h => by cases h
  loc := fun l cs h => by simp [locAt, St.nil] at h
  tok := fun t h => by cases h
  obj := fun l r h => by cases h

def isTrue : Option (PV × St) → Bool
  | some (.v (.bool b), _) => b
  | _ => false
theorem isTrue_some {x : Option (PV × St)} (h : isTrue x = true) : ∃ s, x = some (.v (.bool true), s) := by
  unfold isTrue at h
  split at h
  · subst h; exact ⟨_, rfl⟩
  · cases h
/-- **A call that is reckoned to true answers true, and leaves all old memory as it stood.** -/
theorem told {C : Cfg} {w : World} (hC : CfgOk C ⟨w⟩) {k : Nat} {f : FuncId} {args : List PV} (h : isTrue (evCall C k (.fn f) args ⟨0, none⟩ St.nil) = true) {g : Gh} (hs : SR ⟨w⟩ g St.nil w) {vs : List Value} (ha : Reps g args vs) :
    Calls C.P f vs.toArray w fun e w' => e = .returned (.bool true) ∧ Below w.heap.size w w' := by
  obtain ⟨s, h⟩ := isTrue_some h
  refine Calls.post (sound hC h hs ha) fun e w' ⟨v, g', h1, h2, h3, h4, h5⟩ => ?_
  rw [Rep] at h2
  exact ⟨by rw [h1, h2.1], h5⟩

/-- Every number is one of these. -/
theorem int_parts (N : Nat) (Q : Int → Prop) (h1 : Q (Int.negSucc 0)) (h2 : ∀ k : Nat, Q (Int.negSucc (k + 1))) (h3 : ∀ i, i < N → Q (Int.ofNat i)) (h4 : ∀ k : Nat, Q (Int.ofNat (k + N))) (n : Int) : Q n := by
  match n with
  | .negSucc 0 => exact h1
  | .negSucc (k + 1) => exact h2 k
  | .ofNat m =>
    rcases Nat.lt_or_ge m N with h | h
    · exact h3 m h
    · have := h4 (m - N)
      rwa [Nat.sub_add_cancel h] at this

/-- A table of open regions, checked over a whole program. -/
def checkAll (C : Cfg) : Bool := C.P.funcs.toList.zipIdx.all fun x => match x.1.body with
  | some c => checkDraws C x.2 c
  | none => true
theorem draws_of {C : Cfg} (h : checkAll C = true) (f : FuncId) (fn : Func) (c : Code) (hf : C.P.funcs[f]? = some fn) (hc : fn.body = some c) : checkDraws C f c = true := by
  unfold checkAll at h
  rw [List.all_eq_true] at h
  have := h (fn, f) (by rw [List.mem_zipIdx_iff_getElem?]; simpa using hf)
  simpa [hc] using this
def plainAll (P : Program) : Bool := P.funcs.toList.all fun fn => fn.name != "runtime.NumGoroutine"
theorem plain_of {P : Program} (h : plainAll P = true) : Plain P := fun f fn hf => by
  unfold plainAll at h
  rw [List.all_eq_true] at h
  have := h fn (by simpa using Array.mem_of_getElem? hf)
  simpa using this
end Go.Proofs.YtlkaoiceehlkmaaVE
