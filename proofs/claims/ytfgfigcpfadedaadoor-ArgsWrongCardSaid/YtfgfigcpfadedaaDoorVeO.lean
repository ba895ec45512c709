import Derived.Test.YtfgfigcpfadedaaDoorVeN
namespace Go.Proofs.YtfgfigcpfadedaaDoorVE
open Go Go.RowKit
set_option linter.unusedVariables false
set_option linter.unusedSimpArgs false

def Ex.to : Ex → Exit
  | .normal => .normal
  | .exit id => .exit id
  | .ret => .ret

section code
variable {C : Cfg} {call : Call} {f : FuncId} {wr : Wr} {B : Base}
theorem After.trans {g g1 : Gh} {st st1 st2 : St} {w w1 w2 : World} {tm2 : List PV} {a2 : Act} {ds : List Deferred} (hs : SR B g st w) (hs1 : SR B g1 st1 w1) (h : Fr B wr g st w g1 st1 w1) (k : After B wr g1 st1 w1 tm2 st2 ds a2 w2) : After B wr g st w tm2 st2 ds a2 w2 := by
  obtain ⟨g', h1, h2, h3, h4⟩ := k
  exact ⟨g', h.trans hs hs1 h1, h2, h3, h4⟩
theorem code_ok (hok : Ok C call B) {k : Nat} {r : Option Nat} {n : Nat} : ∀ (c : Code), checkDraws C f c = true → ∀ (tm : List PV) (st : St) (e : Ex) (tm' : List PV) (st' : St), evCode C call (iter k) f wr c tm st = some (e, tm', st') →
    ∀ (g : Gh) (a : Act) (w : World) (Q : Exit → Act → World → Prop), SR B g st w → Reps g tm a.tmps.toList → (∀ a' w', After B wr g st w tm' st' a.defers a' w' → Q e.to a' w') → c.wpIn (Fw r) n C.P Q a w := by
  intro c
  induction c with
  | skip =>
    intro _ tm st e tm' st' h g a w Q hs ht hQ
    simp only [evCode, Option.some.injEq, Prod.mk.injEq] at h
    obtain ⟨rfl, rfl, rfl⟩ := h
    exact wpIn_skip (hQ a w ⟨g, Fr.refl .., hs, ht, rfl⟩)
  | label l =>
    intro _ tm st e tm' st' h g a w Q hs ht hQ
    simp only [evCode, Option.some.injEq, Prod.mk.injEq] at h
    obtain ⟨rfl, rfl, rfl⟩ := h
    exact wpIn_label (hQ a w ⟨g, Fr.refl .., hs, ht, rfl⟩)
  | exit id =>
    intro _ tm st e tm' st' h g a w Q hs ht hQ
    simp only [evCode, Option.some.injEq, Prod.mk.injEq] at h
    obtain ⟨rfl, rfl, rfl⟩ := h
    exact wpIn_exit (hQ a w ⟨g, Fr.refl .., hs, ht, rfl⟩)
  | ret =>
    intro _ tm st e tm' st' h g a w Q hs ht hQ
    simp only [evCode, Option.some.injEq, Prod.mk.injEq] at h
    obtain ⟨rfl, rfl, rfl⟩ := h
    exact wpIn_ret (hQ a w ⟨g, Fr.refl .., hs, ht, rfl⟩)
  | region id ops draw =>
    intro hd tm st e tm' st' h g a w Q hs ht hQ
    simp only [evCode, regR] at h
    split at h
    · rename_i tm1 st1 he
      unfold regE at h
      have fin : ∀ {x : Outc}, x = some (.normal, wipe (C.keep f id) tm1, st1) → x = some (e, tm', st') → ∀ a' w', After B wr g st w tm1 st1 a.defers a' w' → Q .normal a' w' := fun hx hy a' w' hA => by
        rw [hx] at hy
        simp only [Option.some.injEq, Prod.mk.injEq] at hy
        obtain ⟨rfl, rfl, rfl⟩ := hy
        obtain ⟨g', h1, h2, h3, h4⟩ := hA
        exact hQ a' w' ⟨g', h1, h2, wipe_ok h3, h4⟩
      cases draw with
      | false => exact region_ok hok he hs ht (fin rfl h)
      | true =>
        simp only at h
        split at h
        · rename_i l hl
          split at h
          · rename_i hck
            simp only [checkDraws, hl] at hd
            exact draw_ok hok (by simpa using hd) hck he hs ht (fin rfl h)
          · cases h
        · cases h
    · cases h
  | seq x y ihx ihy =>
    intro hd tm st e tm' st' h g a w Q hs ht hQ
    simp only [checkDraws, Bool.and_eq_true] at hd
    simp only [evCode, thenE] at h
    split at h
    · rename_i tm1 st1 hx
      refine wpIn_seq (ihx hd.1 _ _ _ _ _ hx g a w _ hs ht fun a1 w1 hA => ?_)
      obtain ⟨g1, h1, h2, h3, h4⟩ := hA
      exact ihy hd.2 _ _ _ _ _ h g1 a1 w1 Q h2 h3 fun a' w' hB => hQ a' w' (by rw [← h4]; exact After.trans hs h2 h1 hB)
    · rename_i hne
      refine wpIn_seq (ihx hd.1 _ _ _ _ _ h g a w _ hs ht fun a1 w1 hA => ?_)
      have := hQ a1 w1 hA
      cases e with
      | normal => exact absurd h (hne _ _)
      | exit id => exact this
      | ret => exact this
  | cond c x y ihx ihy =>
    intro hd tm st e tm' st' h g a w Q hs ht hQ
    simp only [checkDraws, Bool.and_eq_true] at hd
    simp only [evCode, condE] at h
    split at h
    · rename_i hc
      have hv := Rep.ev ht c
      rw [hc] at hv
      simp only [Rep] at hv
      exact wpIn_cond_true hv.1 (ihx hd.1 _ _ _ _ _ h g a w Q hs ht hQ)
    · rename_i hc
      have hv := Rep.ev ht c
      rw [hc] at hv
      simp only [Rep] at hv
      exact wpIn_cond_false hv.1 (ihy hd.2 _ _ _ _ _ h g a w Q hs ht hQ)
    · cases h
  | block id c ih =>
    intro hd tm st e tm' st' h g a w Q hs ht hQ
    simp only [checkDraws] at hd
    simp only [evCode, blockE] at h
    split at h
    · rename_i j tm1 st1 hc
      refine wpIn_block (ih hd _ _ _ _ _ hc g a w _ hs ht fun a1 w1 hA => ?_)
      simp only [Ex.to, Exit.inBlock]
      split at h
      · rename_i hj
        simp only [Option.some.injEq, Prod.mk.injEq] at h
        obtain ⟨rfl, rfl, rfl⟩ := h
        rw [if_pos hj]
        exact hQ a1 w1 hA
      · rename_i hj
        simp only [Option.some.injEq, Prod.mk.injEq] at h
        obtain ⟨rfl, rfl, rfl⟩ := h
        rw [if_neg hj]
        exact hQ a1 w1 hA
    · rename_i hne
      refine wpIn_block (ih hd _ _ _ _ _ h g a w _ hs ht fun a1 w1 hA => ?_)
      have := hQ a1 w1 hA
      cases e with
      | exit j => exact absurd h (hne _ _ _)
      | normal => exact this
      | ret => exact this
  | loop c ih =>
    intro hd tm st e tm' st' h g a w Q hs ht hQ
    simp only [checkDraws] at hd
    simp only [evCode] at h
    refine wpIn_loop_rounds k ?_
    have key : ∀ (m : Nat) (tm : List PV) (st : St) (g : Gh) (a : Act) (w : World), iter m (fun tm st => evCode C call (iter k) f wr c tm st) tm st = some (e, tm', st') → SR B g st w → Reps g tm a.tmps.toList → (∀ a' w', After B wr g st w tm' st' a.defers a' w' → Q e.to a' w') →
        Code.roundsIn (Fw r) n C.P c Q m a w := by
      intro m
      induction m with
      | zero => intro tm st g a w h; simp [iter] at h
      | succ m ihm =>
        intro tm st g a w h hs ht hQ
        simp only [iter, thenE] at h
        rw [roundsIn_succ]
        split at h
        · rename_i tm1 st1 hc
          refine ih hd _ _ _ _ _ hc g a w _ hs ht fun a1 w1 hA => ?_
          obtain ⟨g1, h1, h2, h3, h4⟩ := hA
          exact ihm _ _ g1 a1 w1 h h2 h3 fun a' w' hB => hQ a' w' (by rw [← h4]; exact After.trans hs h2 h1 hB)
        · rename_i hne
          refine ih hd _ _ _ _ _ h g a w _ hs ht fun a1 w1 hA => ?_
          have := hQ a1 w1 hA
          cases e with
          | normal => exact absurd h (hne _ _)
          | exit id => exact this
          | ret => exact this
    exact key k tm st g a w h hs ht hQ
  | rangeFunc g ps x y ihx ihy => intro hd tm st e tm' st' h; simp [evCode] at h
  | scope c ih => intro hd tm st e tm' st' h; simp [evCode] at h
  | goto l => intro hd tm st e tm' st' h; simp [evCode] at h
  | refuse m => intro hd tm st e tm' st' h; simp [evCode] at h

theorem load_pointer {P : Program} {g : Gh} {st : St} {w : World} (hs : SR B g st w) {t : TypeId} {a p : PV} {av : Value} (h : evLoad P t a st = some p) (hr : Rep g a av) :
    ∃ v, (asAddr av >>= fun x => loadVar t x).run P w = .ok v w ∧ Rep g p v := by
  obtain ⟨v, h1, h2⟩ := load_ok (P := P) hs h hr
  have : ∃ x, av = .pointer (some x) := by
    unfold evLoad at h
    split at h
    · split at h
      · rename_i cs hcs
        obtain ⟨b, o, vals, rfl, _⟩ := rd_ok hs hcs hr
        exact ⟨_, rfl⟩
      · cases h
    · cases h
  obtain ⟨x, rfl⟩ := this
  refine ⟨v, ?_, h2⟩
  simpa [Instr.loadAt, Instr.sureAddr, asAddr] using h1
def resSem (a : Act) : ResultVar → Sem Value
  | .tmp t => pure (a.tmps.getD t undef)
  | .cell b t => do loadVar t (← asAddr (a.tmps.getD b undef))
theorem results_ok {P : Program} {g : Gh} {st : St} {w : World} {fn : Func} {tm : List PV} {a : Act} {p : PV} (hs : SR B g st w) (ht : Reps g tm a.tmps.toList) (h : evResults P fn tm st = some p) : ∃ v, (results fn a.tmps).run P w = .ok v w ∧ Rep g p v := by
  have key : ∀ (l : List ResultVar) (ps : List PV), l.mapM (evResult P tm st) = some ps → ∃ vs : List Value, (l.mapM (resSem a)).run P w = .ok vs w ∧ Reps g ps vs := by
    intro l
    induction l with
    | nil => intro ps h; simp at h; subst h; exact ⟨[], by simp, rfl⟩
    | cons x l ih =>
      intro ps h
      simp only [List.mapM_cons, Option.bind_eq_bind, Option.bind_eq_some_iff, Option.pure_def, Option.some.injEq] at h
      obtain ⟨p, hp, ps', hps, rfl⟩ := h
      obtain ⟨vs, h1, h2⟩ := ih ps' hps
      cases x with
      | tmp t =>
        simp only [evResult, Option.some.injEq] at hp
        subst hp
        refine ⟨a.tmps.getD t undef :: vs, ?_, by simp only [Reps]; exact ⟨_, _, rfl, Rep.ev ht (.tmp t), h2⟩⟩
        simp only [List.mapM_cons, resSem, Sem.run_bind, Sem.run_pure, Result.andThen_ok, h1]
      | cell b t =>
        simp only [evResult] at hp
        obtain ⟨v, h3, h4⟩ := load_pointer hs hp (Rep.ev ht (.tmp b))
        refine ⟨v :: vs, ?_, by simp only [Reps]; exact ⟨_, _, rfl, h4, h2⟩⟩
        have h3' : (do loadVar t (← asAddr (a.tmps.getD b undef)) : Sem Value).run P w = .ok v w := h3
        simp only [List.mapM_cons]
        rw [Sem.run_bind, show (resSem a (.cell b t)).run P w = .ok v w from h3']
        simp only [Result.andThen_ok, Sem.run_bind, h1, Sem.run_pure]
  unfold evResults at h
  have hrun : ∀ vs : List Value, (fn.results.toList.mapM (resSem a)).run P w = .ok vs w →
      (results fn a.tmps).run P w = .ok (if h : vs.toArray.size = 1 then vs.toArray[0] else .tuple vs.toArray) w := fun vs hv => by
    have e : results fn a.tmps = (do let vs ← fn.results.mapM (resSem a); pure (if h : vs.size = 1 then vs[0] else .tuple vs)) := by
      unfold results
      congr 1
    rw [e, Array.mapM_eq_mapM_toList]
    simp only [Sem.run_bind, Sem.run_map]
    rw [hv]
    rfl
  split at h
  · rename_i q hq
    simp only [Option.some.injEq] at h
    subst h
    obtain ⟨vs, h1, h2⟩ := key _ _ hq
    simp only [Reps] at h2
    obtain ⟨v, vs', rfl, h3, rfl⟩ := h2
    exact ⟨v, by rw [hrun _ h1]; simp, h3⟩
  · rename_i ps hq hne
    simp only [Option.some.injEq] at h
    subst h
    obtain ⟨vs, h1, h2⟩ := key _ _ hne
    refine ⟨.tuple vs.toArray, ?_, by rw [Rep]; exact ⟨vs, rfl, h2⟩⟩
    rw [hrun _ h1, dif_neg]
    intro he
    simp only [List.size_toArray, h2.length] at he
    cases ps with
    | nil => simp at he
    | cons p ps =>
      cases ps with
      | nil => exact hq p rfl
      | cons q ps => simp at he
  · cases h
theorem Reps.anys (g : Gh) : ∀ vs : List Value, Reps g (List.replicate vs.length .any) vs
  | [] => rfl
  | v :: vs => by simp only [List.length_cons, List.replicate_succ, Reps]; exact ⟨v, vs, rfl, by simp only [Rep], Reps.anys g vs⟩
theorem body_ok (hok : Ok C call B) {k : Nat} (hd : ∀ fn c, C.P.funcs[f]? = some fn → fn.body = some c → checkDraws C f c = true) {args : List PV} {st st' : St} {p : PV} (h : evBody C call (iter k) f args wr st = some (p, st')) {g : Gh} {w : World} {vs : List Value} (hs : SR B g st w) (ha : Reps g args vs) : Calls C.P f vs.toArray w (Post B wr g st w p st') := by
  unfold evBody at h
  split at h
  · cases h
  · rename_i fn hfn
    split at h
    · cases h
    · rename_i c hc
      have hstart : Reps g (args ++ List.replicate (fn.ntmps - args.length) .any) ({ tmps := vs.toArray ++ Array.replicate (fn.ntmps - vs.toArray.size) undef, defers := [] } : Act).tmps.toList := by
        have hl := ha.length
        simp only [Array.toList_append, Array.toList_replicate, List.size_toArray, hl]
        refine ha.append ?_
        have := Reps.anys g (List.replicate (fn.ntmps - args.length) undef)
        simpa using this
      have fin : ∀ (p : PV) (st' : St) (e : Ex) (tm1 : List PV) (st1 : St), evCode C call (iter k) f wr c (args ++ List.replicate (fn.ntmps - args.length) .any) st = some (e, tm1, st1) → (e = .normal ∨ e = .ret) → (evResults C.P fn tm1 st1).map (fun p => (p, st1)) = some (p, st') → Calls C.P f vs.toArray w (Post B wr g st w p st') := by
        intro p st' e tm1 st1 he hor hres
        rw [Option.map_eq_some_iff] at hres
        obtain ⟨q, hq, heq⟩ := hres
        simp only [Prod.mk.injEq] at heq
        obtain ⟨rfl, rfl⟩ := heq
        refine (callsIn_wide (n := 0)).1 (callsIn_of_wp (F := Fw none) hfn hc trivial ?_ rfl)
        refine code_ok hok c (hd fn c hfn hc) _ _ _ _ _ he g _ w _ hs hstart fun a' w' hA => ?_
        obtain ⟨g', h1, h2, h3, h4⟩ := hA
        obtain ⟨v, h5, h6⟩ := results_ok h2 h3 hq
        rcases hor with rfl | rfl
        · exact ⟨h4, v, h5, v, g', rfl, h1, h2, h6⟩
        · exact ⟨h4, v, h5, v, g', rfl, h1, h2, h6⟩
      have all : ∀ (p : PV) (st' : St), endE C.P fn (evCode C call (iter k) f wr c (args ++ List.replicate (fn.ntmps - args.length) .any) st) = some (p, st') → Calls C.P f vs.toArray w (Post B wr g st w p st') := by
        intro p st' h
        unfold endE at h
        split at h
        · rename_i tm1 st1 he; exact fin _ _ _ _ _ he (.inl rfl) h
        · rename_i tm1 st1 he; exact fin _ _ _ _ _ he (.inr rfl) h
        · cases h
      unfold frzE at h
      split at h
      · split at h
        · rename_i q st1 he
          simp only [Option.some.injEq] at h
          refine Calls.post (all q st1 he) fun e w' ⟨v, g', h1, h2, h3, h4⟩ => ?_
          obtain ⟨g2, f2, s2, r2⟩ := frz3_ok (wr := wr) h3 h4 h
          exact ⟨v, g2, h1, h2.trans hs h3 f2, s2, r2⟩
        · cases h
      · exact all p st' h
theorem body_has {it : Loop} {args : List PV} {st : St} {r : PV × St} (h : evBody C call it f args wr st = some r) : Bodied C.P f := by
  unfold evBody at h
  split at h
  · cases h
  · rename_i fn hfn
    split at h
    · cases h
    · rename_i c hc
      exact ⟨fn, hfn, by rw [hc]; rfl⟩
end code

/-- What is asked of the functions that are not walked, and of the table of open regions. -/
structure CfgOk (C : Cfg) (B : Base) : Prop where
  prim : PrimOk C B
  primHas : PrimHas C
  plain : Plain C.P
  draws : ∀ (f : FuncId) (fn : Func) (c : Code), C.P.funcs[f]? = some fn → fn.body = some c → checkDraws C f c = true
theorem call_ok {C : Cfg} {B : Base} (hC : CfgOk C B) : ∀ k, Ok C (evCall C k) B
  | 0 => ⟨fun _ _ _ _ _ _ h => by simp [evCall] at h, hC.prim, fun _ _ _ _ _ h => by simp [evCall] at h, hC.primHas, hC.plain⟩
  | k + 1 => ⟨fun f args wr st p st' h g w vs hs ha => body_ok (call_ok hC k) (hC.draws f) h hs ha, hC.prim, fun f args wr st r h => body_has h, hC.primHas, hC.plain⟩
/-- **A call that can be reckoned without memory goes as it was reckoned.** -/
theorem sound {C : Cfg} {w : World} (hC : CfgOk C ⟨w⟩) {k : Nat} {f : FuncId} {args : List PV} {p : PV} {s : St} (h : evCall C k f args ⟨0, none⟩ St.nil = some (p, s)) {g : Gh} {vs : List Value} (hs : SR ⟨w⟩ g St.nil w) (ha : Reps g args vs) :
    Calls C.P f vs.toArray w fun e w' => ∃ v g', e = .returned v ∧ Rep g' p v ∧ SR ⟨w⟩ g' s w' ∧ Le g g' ∧ Below w.heap.size w w' :=
  Calls.post ((call_ok hC k).ok f args ⟨0, none⟩ St.nil p s h g w vs hs ha) fun e w' ⟨v, g', h1, h2, h3, h4⟩ => ⟨v, g', h1, h4, h3, h2.le, h2.below⟩
end Go.Proofs.YtfgfigcpfadedaaDoorVE
