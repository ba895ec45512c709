import Derived.Test.YthngeddaeoeimaaDoorVeJ
import Derived.RangeFuncRecord
import Derived.RangeFuncIn
import Derived.RangeFuncLeaves
namespace Go.Proofs.YthngeddaeoeimaaDoorVE
open Go Go.RowKit
set_option linter.unusedVariables false
set_option linter.unusedSimpArgs false

/-- All functions, any depth; in a round or in none. -/
def Fw (r : Option Nat) : Fence := { fn := fun _ => True, depth := none, alive := false, round := r }
theorem Fw_calls {r : Option Nat} {n : Nat} {P : Program} {f : FuncId} {args : Array Value} {w : World} {R : Ending → World → Prop} (h : Calls P f args w R) : CallsIn (Fw r) n P f args w R :=
  (callsIn_wide (n := n)).2 h

/-- What a round answers. -/
def YlOk (P : Program) (call : Call) (B : Base) : Prop := ∀ f tm ps asg bd args wr st p st', call (.yl f tm ps asg bd) args wr st = some (p, st') →
  ∀ (r : Option Nat) (n : Nat) g w l (rec : Go.Loop), SR B g st w → g.obj l = some rec → rec.state = .ready → rec.pending = none → rec.params = ps → rec.assign = asg → rec.body = bd → Reps g tm rec.tmps.toList →
  ∀ vs, Reps g args vs → vs.length = ps.size ∧ RoundIn (Fw r) n P l rec.fn ((rec.params.zip vs.toArray).foldl (fun tmps x => tmps.setIfInBounds x.1 x.2) rec.tmps) rec.assign rec.body w (Post B wr g st w p st')
/-- A function with a body. -/
def Bodied (P : Program) (f : FuncId) : Prop := ∃ fn, P.funcs[f]? = some fn ∧ fn.body.isNone = false
def CallHas (P : Program) (call : Call) : Prop := ∀ f args wr st r, call (.fn f) args wr st = some r → Bodied P f
def PrimHas (C : Cfg) : Prop := ∀ f args p, C.prim f args = some p → Bodied C.P f
def Plain (P : Program) : Prop := ∀ (f : FuncId) (fn : Func), P.funcs[f]? = some fn → fn.name ≠ "runtime.NumGoroutine"
theorem callBy_has {C : Cfg} {call : Call} (hc : CallHas C.P call) (hp : PrimHas C) {wr : Wr} {f : FuncId} {args : List PV} {st : St} {r : PV × St} (h : callBy C call wr f args st = some r) : Bodied C.P f := by
  unfold callBy at h
  split at h
  · rename_i p hp'; exact hp _ _ _ hp'
  · split at h
    · split at h
      · split at h
        · rename_i hcall; exact hc _ _ _ _ _ hcall
        · cases h
      · cases h
    · split at h
      · rename_i hcall; exact hc _ _ _ _ _ hcall
      · cases h
    · split at h
      · unfold callLoc at h
        split at h
        · split at h
          · rename_i hcall; exact hc _ _ _ _ _ hcall
          · cases h
        · cases h
      · cases h
    · exact hc _ _ _ _ _ h

section ops
variable {C : Cfg} {call : Call} {B : Base} {g : Gh} {st st' : St} {w : World} {wr : Wr} {tm : List PV} {a : Act} {o : Oper}
theorem wp_value {r : Option Nat} {n : Nat} {K : Act → World → Prop} {Q : Exit → Act → World → Prop} (hd : ∀ c, o.op ≠ .defer c) {v : Value} {w' : World} (h : (execOp a.eval o).run C.P w = .ok (.value v) w') (hK : K (a.put o.dst v) w') : o.wpIn (Fw r) n C.P a w K Q := by
  refine ⟨fun _ _ => trivial, ?_⟩
  rw [Oper.semAt_eq _ _ _ hd, h]
  exact hK
theorem wp_unit {r : Option Nat} {n : Nat} {K : Act → World → Prop} {Q : Exit → Act → World → Prop} (hd : ∀ c, o.op ≠ .defer c) {w' : World} (h : (execOp a.eval o).run C.P w = .ok .skip w') (hK : K (a.put o.dst undef) w') : o.wpIn (Fw r) n C.P a w K Q := by
  refine ⟨fun _ _ => trivial, ?_⟩
  rw [Oper.semAt_eq _ _ _ hd, h]
  exact hK
theorem parts_rep (ht : Reps g tm a.tmps.toList) (ps : Array (Nat × Operand)) : (ps.toList.map fun p => (p.1, PV.ev tm p.2)).length = (ps.map fun (i, x) => (i, a.eval x)).size ∧
    ∀ (j : Nat) (p : Nat × PV) (v : Nat × Value), (ps.toList.map fun p => (p.1, PV.ev tm p.2))[j]? = some p → (ps.map fun (i, x) => (i, a.eval x))[j]? = some v → p.1 = v.1 ∧ Rep g p.2 v.2 := by
  refine ⟨by simp, fun j p v hp hv => ?_⟩
  rw [List.getElem?_map] at hp
  rw [Array.getElem?_map] at hv
  simp only [Array.getElem?_toList, Option.map_eq_some_iff] at hp hv
  obtain ⟨q, hq, rfl⟩ := hp
  obtain ⟨q', hq', rfl⟩ := hv
  rw [hq] at hq'
  cases hq'
  exact ⟨rfl, Rep.ev ht _⟩
theorem reps_ev (ht : Reps g tm a.tmps.toList) : ∀ l : List Operand, Reps g (l.map (PV.ev tm)) (l.map a.eval)
  | [] => rfl
  | x :: l => by simp only [List.map_cons, Reps]; exact ⟨_, _, rfl, Rep.ev ht x, reps_ev ht l⟩
theorem optRep_ev (ht : Reps g tm a.tmps.toList) : ∀ x : Option Operand, OptRep g (x.map (PV.ev tm)) (x.map a.eval)
  | none => trivial
  | some x => Rep.ev ht x
theorem evOp_ok (hc : CallOk C.P call B) (hy : YlOk C.P call B) (hp : PrimOk C B) (hch : CallHas C.P call) (hph : PrimHas C) (hpl : Plain C.P) {f : FuncId} {p : PV} (h : evOp C call f wr tm st o = some (p, st')) (hs : SR B g st w) (ht : Reps g tm a.tmps.toList)
    {r : Option Nat} {n : Nat} {K : Act → World → Prop} {Q : Exit → Act → World → Prop} (hK : ∀ v w' g', Fr B wr g st w g' st' w' → SR B g' st' w' → Rep g' p v → K (a.put o.dst v) w') : o.wpIn (Fw r) n C.P a w K Q := by
  -- an operation that leaves world and state alone
  have quiet : ∀ {q : Option PV}, withSt st q = some (p, st') → (∀ c, o.op ≠ .defer c) → (∀ p', q = some p' → ∃ v, (execOp a.eval o).run C.P w = .ok (.value v) w ∧ Rep g p' v) → o.wpIn (Fw r) n C.P a w K Q := by
    intro q hq hd hv
    unfold withSt at hq
    rw [Option.map_eq_some_iff] at hq
    obtain ⟨p', hq', heq⟩ := hq
    simp only [Prod.mk.injEq] at heq
    obtain ⟨rfl, rfl⟩ := heq
    obtain ⟨v, h1, h2⟩ := hv _ hq'
    exact wp_value hd h1 (hK v w g (Fr.refl ..) hs h2)
  have quiet1 : (∀ c, o.op ≠ .defer c) → (∃ v, (execOp a.eval o).run C.P w = .ok (.value v) w ∧ Rep g p v) → st' = st → o.wpIn (Fw r) n C.P a w K Q := by
    rintro hd ⟨v, h1, h2⟩ rfl
    exact wp_value hd h1 (hK v w g (Fr.refl ..) hs h2)
  have flat : evFlat C.P tm o = some p → flatKind o.op = true → ∃ v, (execOp a.eval o).run C.P w = .ok (.value v) w ∧ Rep g p v := fun h1 h2 => flat_ok h1 h2 ht
  unfold evOp at h
  split at h
  case h_1 x ho =>
    simp only [Option.some.injEq, Prod.mk.injEq] at h
    obtain ⟨rfl, rfl⟩ := h
    exact quiet1 (by simp [ho]) ⟨a.eval x, by simp [execOp, ho], Rep.ev ht x⟩ rfl
  case h_2 x ho =>
    simp only [Option.some.injEq, Prod.mk.injEq] at h
    obtain ⟨rfl, rfl⟩ := h
    exact quiet1 (by simp [ho]) ⟨a.eval x, by simp [execOp, ho], Rep.ev ht x⟩ rfl
  case h_3 t ho =>
    obtain ⟨v, w', g', h1, h2, h3, h4⟩ := alloc_ok (P := C.P) hs wr h
    exact wp_value (by simp [ho]) (v := v) (w' := w') (by simp [execOp, ho, h1]) (hK v w' g' h2 h3 h4)
  case h_4 t x ho =>
    obtain ⟨v, w', g', h1, h2, h3, h4⟩ := box_ok (P := C.P) (t := t) hs wr h (Rep.ev ht x)
    exact wp_value (by simp [ho]) (v := v) (w' := w') (by simp [execOp, ho, h1]) (hK v w' g' h2 h3 h4)
  case h_5 t ps ho =>
    refine quiet h (by simp [ho]) fun p' hp' => ?_
    obtain ⟨hl, hpp⟩ := parts_rep ht ps
    obtain ⟨v, h1, h2⟩ := build_ok hp' hl hpp w
    exact ⟨v, by simp only [execOp, ho, Sem.run_bind, h1, Result.andThen_ok, Sem.run_pure], h2⟩
  case h_6 t len ps ho =>
    obtain ⟨hl, hpp⟩ := parts_rep ht ps
    obtain ⟨v, w', g', h1, h2, h3, h4⟩ := buildSlice_ok (P := C.P) hs wr h hl hpp
    exact wp_value (by simp [ho]) (v := v) (w' := w') (by simp only [execOp, ho, Sem.run_bind, h1, Result.andThen_ok, Sem.run_pure]) (hK v w' g' h2 h3 h4)
  case h_7 t x ho =>
    refine quiet h (by simp [ho]) fun p' hp' => ?_
    obtain ⟨v, h1, h2⟩ := load_ok hs hp' (Rep.ev ht x)
    exact ⟨v, by simp [execOp, ho, h1], h2⟩
  case h_8 t x y ho =>
    rw [Option.map_eq_some_iff] at h
    obtain ⟨s, h1, h2⟩ := h
    simp only [Prod.mk.injEq] at h2
    obtain ⟨rfl, rfl⟩ := h2
    obtain ⟨w', h3, h4, h5⟩ := store_ok hs h1 (Rep.ev ht x) (Rep.ev ht y)
    exact wp_unit (by simp [ho]) (w' := w') (by simp [execOp, ho, h3]) (hK undef w' g h4 h5 (Rep.ofFlat rfl))
  case h_9 x ho =>
    refine quiet h (by simp [ho]) fun p' hp' => ?_
    exact ⟨_, nilCheck_ok hp' (Rep.ev ht x) ho rfl⟩
  case h_10 t x ho =>
    split at h
    · cases h
    · cases h
    · rename_i d hnot hu
      split at h
      · simp only [Option.some.injEq, Prod.mk.injEq] at h
        obtain ⟨rfl, rfl⟩ := h
        refine quiet1 (by simp [ho]) ⟨.iface t (a.eval x), ?_, by rw [Rep]; exact ⟨_, rfl, Rep.ev ht x⟩⟩ rfl
        simp only [execOp, ho, Instr.makeInterface, Sem.run_bind, run_underlying hu, Result.andThen_ok]
        cases d <;> first | rfl | (rename_i ms; exact absurd hu (hnot ms))
      · cases h
  case h_11 fn first cap ho =>
    simp only [Option.some.injEq, Prod.mk.injEq] at h
    obtain ⟨rfl, rfl⟩ := h
    refine quiet1 (by simp [ho]) ⟨.func fn (first.map a.eval) (cap.map a.eval), ?_, ?_⟩ rfl
    · simp [execOp, ho, Instr.makeFunc]
    · rw [Rep]
      exact ⟨first.toList.map a.eval, cap.toList.map a.eval, by congr 1 <;> (apply Array.ext'; simp), reps_ev ht _, reps_ev ht _⟩
  case h_12 t l c ho =>
    obtain ⟨v, w', g', h1, h2, h3, h4⟩ := makeSlice_ok (P := C.P) hs wr h (Rep.ev ht l) (Rep.ev ht c)
    exact wp_value (by simp [ho]) (v := v) (w' := w') (by simp [execOp, ho, h1]) (hK v w' g' h2 h3 h4)
  case h_13 t x lo hi mx ho =>
    split at h
    · exact quiet h (by simp [ho]) fun p' hp' => flat_ok hp' (by simp [ho, flatKind]) ht
    · refine quiet h (by simp [ho]) fun p' hp' => ?_
      unfold evSl at hp'
      split at hp'
      · rename_i hmh
        obtain ⟨v, h1, h2⟩ := slice_ok (w := w) hp' (Rep.ev ht x) (optRep_ev ht lo) (optRep_ev ht hi) (optRep_ev ht mx) (by cases mx <;> cases hi <;> simp_all)
        exact ⟨v, by simp [execOp, ho, h1], h2⟩
      · cases hp'
  case h_14 s x i ho =>
    refine quiet h (by simp [ho]) fun p' hp' => ?_
    obtain ⟨v, h1, h2⟩ := fieldAddr_ok (w := w) hp' (Rep.ev ht x)
    exact ⟨v, by simp [execOp, ho, h1], h2⟩
  case h_15 s x i ho =>
    refine quiet h (by simp [ho]) fun p' hp' => ?_
    obtain ⟨v, h1, h2⟩ := field_ok (w := w) hp' (Rep.ev ht x)
    exact ⟨v, by simp [execOp, ho, h1], h2⟩
  case h_16 t x i ho =>
    refine quiet h (by simp [ho]) fun p' hp' => ?_
    obtain ⟨v, h1, h2⟩ := indexAddr_ok (w := w) hp' (Rep.ev ht x) (Rep.ev ht i)
    exact ⟨v, by simp [execOp, ho, h1], h2⟩
  case h_17 t x i ho =>
    split at h
    · exact quiet h (by simp [ho]) fun p' hp' => flat_ok hp' (by simp [ho, flatKind]) ht
    · refine quiet h (by simp [ho]) fun p' hp' => ?_
      obtain ⟨v, h1, h2⟩ := index_ok (w := w) hp' (Rep.ev ht x) (Rep.ev ht i)
      exact ⟨v, by simp [execOp, ho, h1], h2⟩
  case h_18 x i ho =>
    split at h
    · rename_i vs hvs
      refine quiet h (by simp [ho]) fun p' hp' => ?_
      have hx := Rep.ev ht x
      rw [hvs] at hx
      simp only [Rep] at hx
      obtain ⟨us, hxu, hr⟩ := hx
      have hlt := (List.getElem?_eq_some_iff.1 hp').1
      have hu : us[i]? = some (us.getD i undef) := by
        have : i < us.length := by rw [hr.length]; exact hlt
        simp [List.getD, this]
      refine ⟨us.getD i undef, ?_, hr.get hp' hu⟩
      have hex : (Instr.extract (a.eval x) i).run C.P w = .ok (us.getD i undef) w := by
        rw [hxu]
        simp only [Instr.extract, List.getElem?_toArray, hu]
        rfl
      simp only [execOp, ho, Sem.run_bind, hex, Result.andThen_ok, Sem.run_pure]
    · cases h
  case h_19 s d x ho =>
    split at h
    · exact quiet h (by simp [ho]) fun p' hp' => flat_ok hp' (by simp [ho, flatKind]) ht
    · refine quiet h (by simp [ho]) fun p' hp' => ?_
      obtain ⟨v, h1, h2⟩ := convert_ok hs hp' (Rep.ev ht x)
      exact ⟨v, by simp [execOp, ho, h1], h2⟩
  case h_20 op t x y t' ho =>
    split at h
    · rename_i q hq
      simp only [Option.some.injEq, Prod.mk.injEq] at h
      obtain ⟨rfl, rfl⟩ := h
      exact quiet1 (by simp [ho]) (evNilCmp_ok ho hq ht) rfl
    · exact quiet h (by simp [ho]) fun p' hp' => flat_ok hp' (by simp [ho, flatKind]) ht
  case h_21 op t x ho => exact quiet h (by simp [ho]) fun p' hp' => flat_ok hp' (by simp [ho, flatKind]) ht
  case h_22 c x y ho => exact quiet h (by simp [ho]) fun p' hp' => flat_ok hp' (by simp [ho, flatKind]) ht
  case h_23 c ho =>
    split at h
    · rename_i hb
      split at h
      · rename_i s x hargs
        have hargs' : c.args = #[s, x] := by apply Array.ext'; simpa using hargs
        obtain ⟨v, w', g', h1, h2, h3, h4⟩ := append_ok (P := C.P) (ty := o.type) hs h (Rep.ev ht s) (Rep.ev ht x)
        refine wp_value (by simp [ho]) (v := v) (w' := w') ?_ (hK v w' g' h2 h3 h4)
        have h1' : (Builtin.append_ c.argTypes o.type #[a.eval s, a.eval x]).run C.P w = .ok v w' := by simpa using h1
        simp [execOp, ho, resolve, hb, invoke, builtin, hargs', h1']
      · cases h
    · rename_i hb
      split at h
      · rename_i x hargs
        have hargs' : c.args = #[x] := by apply Array.ext'; simpa using hargs
        split at h
        · exact quiet h (by simp [ho]) fun p' hp' => flat_ok hp' (by simp [ho, flatKind, hb]) ht
        · split at h
          · rename_i t hts
            refine quiet h (by simp [ho]) fun p' hp' => ?_
            obtain ⟨v, h1, h2⟩ := len_ok (w := w) (ty := o.type) hp' hts (Rep.ev ht x)
            refine ⟨v, ?_, h2⟩
            simp [execOp, ho, resolve, hb, invoke, builtin, hargs', h1]
          · cases h
      · cases h
    · rename_i hb
      exact quiet h (by simp [ho]) fun p' hp' => flat_ok hp' (by simp [ho, flatKind, hb]) ht
    · rename_i hb
      exact quiet h (by simp [ho]) fun p' hp' => flat_ok hp' (by simp [ho, flatKind, hb]) ht
    · rename_i gf hb
      split at h
      · rename_i hf fa fb hg
        have hrep := Rep.ev ht gf
        rw [hg] at hrep
        simp only [Rep] at hrep
        obtain ⟨va, vb, hgv, ha1, ha2⟩ := hrep
        obtain ⟨fn, hfn, hbody⟩ := callBy_has hch hph h
        have hcall := callBy_ok hc hp h hs (vs := va ++ c.args.toList.map a.eval ++ vb) ((ha1.append (reps_ev ht _)).append ha2)
        have hname := hpl _ _ hfn
        obtain ⟨bc, hbc⟩ : ∃ bc, fn.body = some bc := by
          cases hx : fn.body with
          | none => rw [hx] at hbody; cases hbody
          | some bc => exact ⟨bc, rfl⟩
        have hrun : (execOp a.eval o).run C.P w = .ok (.enter hf (va ++ c.args.toList.map a.eval ++ vb).toArray) w := by
          have harr : va.toArray ++ c.args.map a.eval ++ vb.toArray = (va ++ c.args.toList.map a.eval ++ vb).toArray := by apply Array.ext'; simp
          simp only [execOp, ho, resolve, hb, hgv, Deferred.ofValue, Sem.run_bind, Sem.run_pure, Result.andThen_ok, invoke, callFunc, harr]
          simp [program, Sem.run, hfn, hname, hbc]
        refine ⟨fun _ _ => trivial, ?_⟩
        rw [Oper.semAt_eq _ _ _ (by simp [ho]), hrun, Oper.uponIn_enter]
        refine ⟨(fun hx => by cases hx), Fw_calls (Calls.post hcall ?_)⟩
        rintro e w' ⟨v, g', rfl, h1, h2, h3⟩
        exact hK v w' g' h1 h2 h3
      · rename_i fo to ps asg bd hg
        have hrep := Rep.ev ht gf
        rw [hg] at hrep
        simp only [Rep] at hrep
        obtain ⟨l, rec, vals, hgv, hobj, ⟨r1, r2, r4, r5, r6, rfl⟩, hrt⟩ := hrep
        obtain ⟨hsz, hround⟩ := hy _ _ _ _ _ _ _ _ _ _ h r (n - 1) g w l rec hs hobj r1 r2 r4 r5 r6 hrt (c.args.toList.map a.eval) (reps_ev ht _)
        have hrun : (execOp a.eval o).run C.P w = .ok (.round l rec.fn ((rec.params.zip (c.args.toList.map a.eval).toArray).foldl (fun tmps x => tmps.setIfInBounds x.1 x.2) rec.tmps) rec.assign rec.body) w := by
          have harr : c.args.map a.eval = (c.args.toList.map a.eval).toArray := by apply Array.ext'; simp
          have hy2 := run_yield (P := C.P) (args := (c.args.toList.map a.eval).toArray) (hs.obj l rec hobj).2 (by rw [r4, ← hsz]; simp)
          simp only [execOp, ho, resolve, hb, hgv, Deferred.ofValue, Sem.run_bind, Sem.run_pure, Result.andThen_ok, invoke, harr]
          simpa using hy2
        refine ⟨fun _ _ => trivial, ?_⟩
        rw [Oper.semAt_eq _ _ _ (by simp [ho]), hrun, Oper.uponIn_round]
        refine ⟨(fun hx => by cases hx), RoundIn.mono hround ?_⟩
        rintro e w' ⟨v, g', rfl, h1, h2, h3⟩
        exact hK v w' g' h1 h2 h3
      · cases h
    · cases h
  case h_24 => cases h
end ops
end Go.Proofs.YthngeddaeoeimaaDoorVE
