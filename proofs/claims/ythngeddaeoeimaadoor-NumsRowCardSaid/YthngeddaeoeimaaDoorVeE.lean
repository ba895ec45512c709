import Derived.Test.YthngeddaeoeimaaDoorVeD
namespace Go.Proofs.YthngeddaeoeimaaDoorVE
open Go Go.RowKit
set_option linter.unusedVariables false
set_option linter.unusedSimpArgs false

section types
variable {P : Program} {w : World}
theorem tySize_info {t : TypeId} {n : Nat} (h : tySize P t = some n) : ∃ i, P.info? t = some i ∧ i.size = n := by
  unfold tySize at h
  simpa using h
theorem run_size {t : TypeId} {n : Nat} (h : tySize P t = some n) : (sizeOf t).run P w = .ok n w := by
  obtain ⟨i, hi, rfl⟩ := tySize_info h
  simp [sizeOf, typeInfo, hi]
theorem run_agg {t : TypeId} {b : Bool} (h : tyAgg P t = some b) : (isAgg t).run P w = .ok b w := by
  unfold tyAgg at h
  cases hu : P.underlying t with
  | none => simp [hu] at h
  | some d =>
    simp only [hu, Option.map_some, Option.some.injEq] at h
    unfold isAgg
    simp only [Sem.run_bind, run_underlying hu, Result.andThen_ok]
    cases d <;> simp_all
theorem tyElem_under {t e : TypeId} (h : tyElem P t = some e) : P.underlying t = some (.slice e) := by
  unfold tyElem at h
  split at h
  · rename_i e' hu; simp only [Option.some.injEq] at h; subst h; exact hu
  · cases h
theorem zero_run {t : TypeId} {cs : List PV} (h : zeroCells P t = some cs) : ∃ i z, P.info? t = some i ∧ i.zero = some z ∧ cs = z.cells.toList.map ofC := by
  unfold zeroCells at h
  simp only [Option.map_eq_some_iff, Option.bind_eq_some_iff] at h
  obtain ⟨z, ⟨i, hi, hz⟩, rfl⟩ := h
  exact ⟨i, z, hi, hz, rfl⟩
theorem Reps.zero (g : Gh) : ∀ l : List Value, Reps g (l.map ofC) l
  | [] => rfl
  | v :: l => by simp only [List.map_cons, Reps]; exact ⟨v, l, rfl, Rep.ofC g v, Reps.zero g l⟩
end types

section cells
variable {P : Program} {B : Base} {g : Gh} {st : St} {w : World}
/-- Cells behind a pointer. -/
theorem rd_ok (hs : SR B g st w) {n : Nat} {p : PV} {cs : List PV} (h : rdCells st n p = some cs) {v : Value} (hr : Rep g p v) :
    ∃ b o vals, v = .pointer (some ⟨b, o, none⟩) ∧ vals.length = n ∧ cs.length = n ∧ Reps g cs vals ∧ ∀ j u, vals[j]? = some u → w.cell? ⟨b, o + j, none⟩ = some u := by
  unfold rdCells at h
  split at h
  · rename_i l off
    split at h
    · rename_i ds hl
      split at h
      · rename_i hn
        simp only [Option.some.injEq] at h
        subst h
        simp only [Rep] at hr
        obtain ⟨h1, h2, us, h3, h4⟩ := hs.loc l ds hl
        refine ⟨_, _, (us.drop off).take n, hr.1, by simp [h3.length]; omega, by simp; omega, (h3.drop off).take n, fun j u hj => ?_⟩
        rw [List.getElem?_take] at hj
        split at hj
        · rw [List.getElem?_drop] at hj
          have := h4 (off + j) u hj
          rwa [← Nat.add_assoc] at this
        · cases hj
      · cases h
    · cases h
  · rename_i ds
    split at h
    · rename_i hn
      simp only [Option.some.injEq] at h
      subst h
      simp only [Rep] at hr
      obtain ⟨b, o, vals, rfl, h2, h3⟩ := hr
      refine ⟨b, o, vals.take n, rfl, by simp [h3.length]; omega, by simp; omega, h3.take n, fun j u hj => ?_⟩
      rw [List.getElem?_take] at hj
      split at hj
      · exact hs.im _ _ _ (h2 j u hj)
      · cases hj
    · cases h
  · cases h
theorem load_cells {b o : Nat} {vals : List Value} (h : ∀ j u, vals[j]? = some u → w.cell? ⟨b, o + j, none⟩ = some u) : (loadCells ⟨b, o, none⟩ vals.length).run P w = .ok vals.toArray w :=
  run_loadCells_list w _ vals fun j v hv => by rw [Addr.add_lit]; exact h j v hv
theorem load_ok (hs : SR B g st w) {t : TypeId} {a p : PV} {av : Value} (h : evLoad P t a st = some p) (hr : Rep g a av) :
    ∃ v, (Instr.loadAt t av).run P w = .ok v w ∧ Rep g p v := by
  unfold evLoad at h
  split at h
  · rename_i n b hn hb
    split at h
    · rename_i cs hcs
      obtain ⟨bl, o, vals, rfl, hl, hl2, h3, h4⟩ := rd_ok hs hcs hr
      have hld := load_cells (P := P) h4
      rw [hl] at hld
      split at h
      · rename_i hbt
        subst hbt
        simp only [Option.some.injEq] at h
        subst h
        refine ⟨.agg vals.toArray, ?_, by simp only [Rep]; exact ⟨vals, rfl, h3⟩⟩
        simp [Instr.loadAt, Instr.sureAddr, loadVar, run_agg hb, run_size hn, hld]
      · rename_i hbf
        split at h
        · rename_i hn1
          subst hn1
          have hbf' : b = false := by simpa using hbf
          subst hbf'
          cases cs with
          | nil => simp at h
          | cons c cs =>
            simp only [List.head?_cons, Option.some.injEq] at h
            subst h
            simp only [Reps] at h3
            obtain ⟨u, us, rfl, h5, h6⟩ := h3
            refine ⟨u, ?_, h5⟩
            have := h4 0 u rfl
            simp only [Nat.add_zero] at this
            simp [Instr.loadAt, Instr.sureAddr, loadVar, run_agg hb, this]
        · cases h
    · cases h
  · cases h
theorem store_ok (hs : SR B g st w) {wr : Wr} {t : TypeId} {a x : PV} {av xv : Value} {st' : St} (h : evStore P wr t a x st = some st') (hr : Rep g a av) (hx : Rep g x xv) :
    ∃ w', (Instr.storeAt t av xv).run P w = .ok () w' ∧ Fr B wr g st w g st' w' ∧ SR B g st' w' := by
  unfold evStore at h
  split at h
  · rename_i n l off hn
    split at h
    · rename_i cs hl
      split at h
      · rename_i hc
        obtain ⟨h1, h2, h3, h4⟩ := hc
        simp only [Option.some.injEq] at h
        subst h
        simp only [Rep] at hr
        obtain ⟨rfl, hlt⟩ := hr
        have hcells := hx.cells h4
        have hvl := hcells.length
        obtain ⟨k1, k2, us, k3, k4⟩ := hs.loc l cs hl
        have hrun := run_storeCells_cells (P := P) (g.base l).1 ((g.base l).2 + off) xv.cells.toList 0 w
          (fun j hj => by
            have := (hs.mloc _ _ l (k2 (off + j) (by omega))).2.2.1
            rwa [show (g.base l).2 + (off + j) = (g.base l).2 + off + 0 + j by omega] at this)
          (fun j hj => by
            have := (hs.mloc _ _ l (k2 (off + j) (by omega))).2.2.2
            rwa [show (g.base l).2 + (off + j) = (g.base l).2 + off + 0 + j by omega] at this)
          (hcells.oneCell h4)
        refine ⟨_, ?_, Fr.store hs hl hvl (by omega) h1, SR.store hs hl hcells (by omega)⟩
        have hsz : xv.cells.size = n := by rw [← Array.length_toList, hvl, h2]
        simp only [Nat.add_zero] at hrun
        simp [Instr.storeAt, Instr.sureAddr, storeVar, run_size hn, hsz, hrun]
      · cases h
    · cases h
  · cases h
theorem run_newRow (e : TypeId) (arr : Array Value) : (newRow e arr).run P w = .ok ⟨w.heap.size, 0, none⟩ (w.alloc (.cells arr e)) := by
  simp [newRow, newObj, Sem.run]
theorem Rep.newLoc {h : SR B g st w} (n : Nat) : Rep (g.newLoc w.heap.size n) (.ptr st.locs.length 0) (.pointer (some ⟨w.heap.size, 0, none⟩)) := by
  rw [Rep, ← h.nl]
  simp [Gh.newLoc]
theorem alloc_ok (hs : SR B g st w) (wr : Wr) {t : TypeId} {p : PV} {st' : St} (h : evAlloc P t st = some (p, st')) :
    ∃ v w' g', (Instr.alloc t true (.tuple #[])).run P w = .ok v w' ∧ Fr B wr g st w g' st' w' ∧ SR B g' st' w' ∧ Rep g' p v := by
  unfold evAlloc at h
  split at h
  · rename_i cs hz
    obtain ⟨i, z, hi, hzz, rfl⟩ := zero_run hz
    split at h
    · simp only [Option.some.injEq, Prod.mk.injEq] at h
      obtain ⟨rfl, rfl⟩ := h
      refine ⟨_, _, _, ?_, Fr.newLoc hs _ z.cells.size _, SR.newLoc hs (Reps.zero g z.cells.toList) z.cells t (by simp) (fun j v hj => by simpa using hj), Rep.newLoc (h := hs) _⟩
      simp [Instr.alloc, zeroValue, typeInfo, hi, hzz, newVar, run_newRow]
    · cases h
  · cases h
theorem box_ok (hs : SR B g st w) (wr : Wr) {t : TypeId} {x p : PV} {xv : Value} {st' : St} (h : evBox x st = some (p, st')) (hx : Rep g x xv) :
    ∃ v w' g', (Instr.box t xv).run P w = .ok v w' ∧ Fr B wr g st w g' st' w' ∧ SR B g' st' w' ∧ Rep g' p v := by
  unfold evBox at h
  split at h
  · rename_i hall
    simp only [Option.some.injEq, Prod.mk.injEq] at h
    obtain ⟨rfl, rfl⟩ := h
    refine ⟨_, _, _, ?_, Fr.newLoc hs _ xv.cells.size _, SR.newLoc hs (hx.cells hall) xv.cells t (by simp) (fun j v hj => by simpa using hj), Rep.newLoc (h := hs) _⟩
    simp [Instr.box, newVar, run_newRow]
  · cases h
end cells

/-! What is filled in. -/
theorem foldl_set (off : Nat) : ∀ (l : List Value) (k : Nat) (cs : Array Value), off + k + l.length ≤ cs.size →
    ((l.zipIdx k).foldl (fun (cs : Array Value) (x : Value × Nat) => cs.setIfInBounds (off + x.2) x.1) cs).toList = cs.toList.take (off + k) ++ l ++ cs.toList.drop (off + k + l.length)
  | [], k, cs, h => by simp
  | v :: l, k, cs, h => by
    simp only [List.length_cons] at h
    rw [List.zipIdx_cons, List.foldl_cons, foldl_set off l (k + 1) _ (by simp; omega)]
    simp only [Array.toList_setIfInBounds, List.length_cons]
    have h1 : (cs.toList.set (off + k) v).take (off + (k + 1)) = cs.toList.take (off + k) ++ [v] := by
      rw [← Nat.add_assoc, List.take_add_one, List.getElem?_set_self (by simp; omega), List.take_set_of_le (Nat.le_refl _)]
      rfl
    have h2 : (cs.toList.set (off + k) v).drop (off + (k + 1) + l.length) = cs.toList.drop (off + k + (l.length + 1)) := by
      rw [List.drop_set_of_lt (by omega)]
      congr 1
      omega
    rw [h1, h2]
    simp
theorem fill_ok {g : Gh} {place : Nat → Option (Nat × Nat)} : ∀ {ps : List (Nat × PV)} {vs : List (Nat × Value)} {cells out : List PV} {arr : Array Value},
    fillP place cells ps = some out → Reps g cells arr.toList → ps.length = vs.length → (∀ (j : Nat) (p : Nat × PV) (v : Nat × Value), ps[j]? = some p → vs[j]? = some v → p.1 = v.1 ∧ Rep g p.2 v.2) →
    ∃ arr', Instr.fill place arr vs = some arr' ∧ Reps g out arr'.toList
  | [], [], cells, out, arr, h, hr, _, _ => by
    simp only [fillP, Option.some.injEq] at h
    subst h
    exact ⟨arr, rfl, hr⟩
  | [], _ :: _, _, _, _, _, _, hl, _ => by simp at hl
  | _ :: _, [], _, _, _, _, _, hl, _ => by simp at hl
  | (i, p) :: ps, (i', v) :: vs, cells, out, arr, h, hr, hl, hp => by
    obtain ⟨hi, hv⟩ := hp 0 (i, p) (i', v) rfl rfl
    simp only at hi hv
    subst hi
    simp only [fillP] at h
    split at h
    · cases h
    · rename_i off size hpl
      split at h
      · rename_i hc
        obtain ⟨h1, h2, h3⟩ := hc
        have hcells := hv.cells h3
        have hlen := hcells.length
        have hsz : v.cells.size = size := by rw [← Array.length_toList, hlen, h1]
        have harr : arr.size = cells.length := by rw [← Array.length_toList, hr.length]
        have hset : (v.cells.zipIdx.foldl (fun (cs : Array Value) (x : Value × Nat) => cs.setIfInBounds (off + x.2) x.1) arr).toList = arr.toList.take off ++ v.cells.toList ++ arr.toList.drop (off + v.cells.size) := by
          have := foldl_set off v.cells.toList 0 arr (by simp; omega)
          rw [← Array.foldl_toList, Array.toList_zipIdx]
          simpa using this
        obtain ⟨arr', h5, h6⟩ := fill_ok (arr := v.cells.zipIdx.foldl (fun (cs : Array Value) (x : Value × Nat) => cs.setIfInBounds (off + x.2) x.1) arr) h
          (by rw [hset]; unfold setAt; rw [h1, ← hsz]; exact ((hr.take off).append hcells).append (hr.drop _)) (by simpa using hl)
          (fun j q u hq hu => hp (j + 1) q u (by simpa using hq) (by simpa using hu))
        refine ⟨arr', ?_, h6⟩
        simp only [Instr.fill, hpl]
        rw [if_neg (by simp [hsz]; omega)]
        exact h5
      · cases h
theorem build_ok {P : Program} {g : Gh} {t : TypeId} {ps : List (Nat × PV)} {vs : Array (Nat × Value)} {p : PV} (h : evBuild P t ps = some p) (hl : ps.length = vs.size) (hp : ∀ (j : Nat) (p : Nat × PV) (v : Nat × Value), ps[j]? = some p → vs[j]? = some v → p.1 = v.1 ∧ Rep g p.2 v.2) (w : World) :
    ∃ v, (Instr.build t vs).run P w = .ok v w ∧ Rep g p v := by
  unfold evBuild at h
  split at h
  · rename_i z fs hz hu
    obtain ⟨i, zv, hi, hzv, rfl⟩ := zero_run hz
    split at h
    · rename_i places hpl
      simp only [Option.map_eq_some_iff] at h
      obtain ⟨out, hf, rfl⟩ := h
      obtain ⟨arr', h1, h2⟩ := fill_ok (vs := vs.toList) hf (Reps.zero g zv.cells.toList) (by simpa using hl) (fun j p v h1 h2 => hp j p v h1 (by simpa using h2))
      refine ⟨.agg arr', run_build w t vs arr' ?_, by rw [Rep]; exact ⟨arr'.toList, by simp, h2⟩⟩
      unfold Program.built
      simp only [hi, hu, hzv, hpl]
      simpa using h1
    · cases h
  · rename_i z len e hz hu
    obtain ⟨i, zv, hi, hzv, rfl⟩ := zero_run hz
    split at h
    · rename_i n hn
      obtain ⟨ie, hie, rfl⟩ := tySize_info hn
      simp only [Option.map_eq_some_iff] at h
      obtain ⟨out, hf, rfl⟩ := h
      obtain ⟨arr', h1, h2⟩ := fill_ok (vs := vs.toList) hf (Reps.zero g zv.cells.toList) (by simpa using hl) (fun j p v h1 h2 => hp j p v h1 (by simpa using h2))
      refine ⟨.agg arr', run_build w t vs arr' ?_, by rw [Rep]; exact ⟨arr'.toList, by simp, h2⟩⟩
      unfold Program.built
      simp only [hi, hu, hzv, hie]
      exact h1
    · cases h
  · cases h
end Go.Proofs.YthngeddaeoeimaaDoorVE
