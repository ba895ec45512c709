import Derived.Test.YtlkaoiceehlkmaaVeB1
namespace Go.Proofs.YtlkaoiceehlkmaaVE
open Go Go.RowKit
set_option linter.unusedVariables false
set_option linter.unusedSimpArgs false

/-! Rows whose elements are of one size. -/
theorem szOk_iff {n : Nat} {xs : List (List PV)} : szOk n xs = true ↔ ∀ c ∈ xs, c.length = n := by simp [szOk]
theorem flat_len {n : Nat} : ∀ {xs : List (List PV)}, (∀ c ∈ xs, c.length = n) → xs.flatten.length = xs.length * n
  | [], _ => by simp
  | c :: xs, h => by
    rw [List.flatten_cons, List.length_append, h c (by simp), flat_len (fun d hd => h d (by simp [hd])), List.length_cons, Nat.succ_mul, Nat.add_comm]
theorem flat_drop {n : Nat} : ∀ {xs : List (List PV)}, (∀ c ∈ xs, c.length = n) → ∀ i, (xs.drop i).flatten = xs.flatten.drop (i * n)
  | [], _, i => by simp
  | c :: xs, h, 0 => by simp
  | c :: xs, h, i + 1 => by
    have hc := h c (by simp)
    rw [List.drop_succ_cons, flat_drop (fun d hd => h d (by simp [hd])) i, List.flatten_cons, Nat.succ_mul, Nat.add_comm, ← List.drop_drop, ← hc, List.drop_left]
theorem flat_take {n : Nat} : ∀ {xs : List (List PV)}, (∀ c ∈ xs, c.length = n) → ∀ i, (xs.take i).flatten = xs.flatten.take (i * n)
  | [], _, i => by simp
  | c :: xs, h, 0 => by simp
  | c :: xs, h, i + 1 => by
    have hc := h c (by simp)
    rw [List.take_succ_cons, List.flatten_cons, flat_take (fun d hd => h d (by simp [hd])) i, List.flatten_cons, Nat.succ_mul, Nat.add_comm, ← hc, List.take_length_add_append]
theorem flat_set {n : Nat} {d : List PV} (hd : d.length = n) : ∀ {xs : List (List PV)}, (∀ c ∈ xs, c.length = n) → ∀ i, i < xs.length → (xs.set i d).flatten = setAt xs.flatten (i * n) d
  | c :: xs, h, 0, _ => by
    have hc := h c (by simp)
    simp [setAt, hd, ← hc]
  | c :: xs, h, i + 1, hi => by
    have hc := h c (by simp)
    rw [List.set_cons_succ, List.flatten_cons, flat_set hd (fun e he => h e (by simp [he])) i (by simpa using hi), List.flatten_cons]
    unfold setAt
    rw [Nat.succ_mul, Nat.add_comm (i * n) n, ← hc, List.take_length_add_append, Nat.add_assoc, List.drop_length_add_append]
    simp
theorem flat_at {n : Nat} {xs : List (List PV)} (h : ∀ c ∈ xs, c.length = n) {i : Nat} {c : List PV} (hc : xs[i]? = some c) : (xs.flatten.drop (i * n)).take n = c := by
  have hi := (List.getElem?_eq_some_iff.1 hc)
  rw [← flat_drop h, List.drop_eq_getElem_cons hi.1, List.flatten_cons, hi.2]
  have := h c (List.mem_of_getElem? hc)
  rw [← this, List.take_left]
theorem set_len {n : Nat} {xs : List (List PV)} {i : Nat} {d : List PV} (h : ∀ c ∈ xs, c.length = n) (hd : d.length = n) : ∀ c ∈ xs.set i d, c.length = n := fun c hc => by
  rcases List.mem_or_eq_of_mem_set hc with hc | rfl
  · exact h c hc
  · exact hd
theorem flat_rep {α : Type} (l : List α) : ∀ k j, (List.replicate k l).flatten[j]? = if j < k * l.length then l[j % l.length]? else none
  | 0, j => by simp
  | k + 1, j => by
    rw [List.replicate_succ, List.flatten_cons, List.getElem?_append, flat_rep l k]
    by_cases h : j < l.length
    · rw [if_pos h, if_pos (by rw [Nat.succ_mul]; omega), Nat.mod_eq_of_lt h]
    · have hm : j % l.length = (j - l.length) % l.length := Nat.mod_eq_sub_mod (by omega)
      rw [if_neg h, Nat.succ_mul, hm]
      by_cases h2 : j - l.length < k * l.length
      · rw [if_pos h2, if_pos (by omega)]
      · rw [if_neg h2, if_neg (by omega)]
theorem made_flat (z : Array Value) (k : Nat) (hz : 0 < z.size) : (madeCells z (k * z.size)).toList = (List.replicate k z.toList).flatten := by
  apply List.ext_getElem?
  intro j
  rw [flat_rep, Array.length_toList]
  unfold madeCells
  by_cases h : j < k * z.size
  · have h2 : j % z.size < z.size := Nat.mod_lt _ hz
    rw [if_pos h]
    simp [h, getElem!_pos z (j % z.size) h2, Array.getElem?_eq_getElem h2]
  · rw [if_neg h]
    simp
    omega
theorem Reps.reps {g : Gh} {c : List PV} {vs : List Value} (h : Reps g c vs) : ∀ k, Reps g (List.replicate k c).flatten (List.replicate k vs).flatten
  | 0 => by simp [Reps]
  | k + 1 => by simp only [List.replicate_succ, List.flatten_cons]; exact h.append (Reps.reps h k)

section rows
variable {P : Program} {B : Base} {g : Gh} {st : St} {w : World} {wr : Wr}
theorem mkRow_ok (hs : SR B g st w) (wr : Wr) (ref : Bool) {n : Nat} {xs : List (List PV)} (hn : ∀ c ∈ xs, c.length = n) {arr : Array Value} (hr : Reps g xs.flatten arr.toList) (e : TypeId) :
    ∃ g', Fr B wr g st w g' (mkRow ref n xs st).2 (w.alloc (.cells arr e)) ∧ SR B g' (mkRow ref n xs st).2 (w.alloc (.cells arr e)) ∧ Rep g' (mkRow ref n xs st).1 (.slice (some ⟨w.heap.size, 0, none⟩) xs.length xs.length) := by
  have hsz : arr.size = xs.length * n := by rw [← Array.length_toList, hr.length, flat_len hn]
  unfold mkRow
  cases ref with
  | true =>
    simp only [if_true]
    refine ⟨_, Fr.newLoc hs xs.flatten arr.size _, SR.newLoc hs hr arr e (by simp) (fun j v hj => by simpa using hj), ?_⟩
    rw [Rep, ← hs.nl]
    refine ⟨xs.length, by simp [Gh.newLoc], by simp [Gh.newLoc], Nat.le_refl _, by simp [Gh.newLoc, hsz]⟩
  | false =>
    simp only [Bool.false_eq_true, if_false]
    refine ⟨_, Fr.newRow hs arr.toList _, SR.newRow hs arr.toList arr e (fun j v hj => by simpa using hj), ?_⟩
    rw [Rep]
    exact .inr ⟨w.heap.size, 0, n, xs.length, arr.toList, rfl, hn, im_newRow g _ _, Repss_iff.2 (Reps.mono (le_newRow hs _) _ _ hr), Nat.le_refl _, rfl⟩
theorem rowFill_ok {n : Nat} : ∀ {ps : List (Nat × PV)} {vs : List (Nat × Value)} {xs out : List (List PV)} {arr : Array Value},
    rowParts n xs ps = some out → (∀ c ∈ xs, c.length = n) → Reps g xs.flatten arr.toList → ps.length = vs.length → (∀ (j : Nat) (p : Nat × PV) (v : Nat × Value), ps[j]? = some p → vs[j]? = some v → p.1 = v.1 ∧ Rep g p.2 v.2) →
    ∃ arr', Instr.fill (fun i => some (i * n, n)) arr vs = some arr' ∧ Reps g out.flatten arr'.toList ∧ (∀ c ∈ out, c.length = n) ∧ out.length = xs.length
  | [], [], xs, out, arr, h, hx, hr, _, _ => by
    simp only [rowParts, Option.some.injEq] at h
    subst h
    exact ⟨arr, rfl, hr, hx, rfl⟩
  | [], _ :: _, _, _, _, _, _, _, hl, _ => by simp at hl
  | _ :: _, [], _, _, _, _, _, _, hl, _ => by simp at hl
  | (i, p) :: ps, (i', v) :: vs, xs, out, arr, h, hx, hr, hl, hp => by
    obtain ⟨hi, hv⟩ := hp 0 (i, p) (i', v) rfl rfl
    simp only at hi hv
    subst hi
    simp only [rowParts] at h
    split at h
    · rename_i hc
      obtain ⟨h1, h2, h3⟩ := hc
      have hcells := hv.cells h3
      have hlen := hcells.length
      have hsz : v.cells.size = n := by rw [← Array.length_toList, hlen, h1]
      have harr : arr.size = xs.length * n := by rw [← Array.length_toList, hr.length, flat_len hx]
      have hin : i * n + n ≤ arr.size := by rw [harr, ← Nat.succ_mul]; exact Nat.mul_le_mul_right n h2
      have hset : (v.cells.zipIdx.foldl (fun (cs : Array Value) (x : Value × Nat) => cs.setIfInBounds (i * n + x.2) x.1) arr).toList = arr.toList.take (i * n) ++ v.cells.toList ++ arr.toList.drop (i * n + v.cells.size) := by
        have := foldl_set (i * n) v.cells.toList 0 arr (by simp; omega)
        rw [← Array.foldl_toList, Array.toList_zipIdx]
        simpa using this
      have hstrip : (p.cells.map PV.strip).length = n := by simp [h1]
      obtain ⟨arr', h5, h6, h7, h8⟩ := rowFill_ok (arr := v.cells.zipIdx.foldl (fun (cs : Array Value) (x : Value × Nat) => cs.setIfInBounds (i * n + x.2) x.1) arr) h (set_len hx hstrip)
        (by rw [hset, flat_set hstrip hx i h2]; unfold setAt; rw [hstrip, hsz]; exact ((hr.take _).append (hcells.map fun _ _ h => h.strip)).append (hr.drop _)) (by simpa using hl)
        (fun j q u hq hu => hp (j + 1) q u (by simpa using hq) (by simpa using hu))
      refine ⟨arr', ?_, h6, h7, by rw [h8]; simp⟩
      simp only [Instr.fill]
      rw [if_neg (by simp [hsz]; omega)]
      exact h5
    · cases h
theorem buildSlice_ok (hs : SR B g st w) (wr : Wr) {ref : Bool} {t : TypeId} {len : Nat} {ps : List (Nat × PV)} {vs : Array (Nat × Value)} {p : PV} {st' : St} (h : evBuildSlice P ref t len ps st = some (p, st'))
    (hl : ps.length = vs.size) (hp : ∀ (j : Nat) (p : Nat × PV) (v : Nat × Value), ps[j]? = some p → vs[j]? = some v → p.1 = v.1 ∧ Rep g p.2 v.2) :
    ∃ v w' g', (Instr.buildSlice t len vs).run P w = .ok v w' ∧ Fr B wr g st w g' st' w' ∧ SR B g' st' w' ∧ Rep g' p v := by
  unfold evBuildSlice at h
  split at h
  · rename_i e he
    have hu := tyElem_under he
    split at h
    · rename_i n z hn hz
      obtain ⟨ie, hie, rfl⟩ := tySize_info hn
      obtain ⟨i, zv, hi, hzv, rfl⟩ := zero_run hz
      rw [hie] at hi
      cases hi
      split at h
      · rename_i hc
        obtain ⟨h1, h2, h3, h4⟩ := hc
        simp only [Option.map_eq_some_iff] at h
        obtain ⟨out, hf, hm⟩ := h
        have hzs : zv.cells.size = ie.size := by simpa using h1
        have hx0 : ∀ c ∈ List.replicate len (zv.cells.toList.map ofC), c.length = ie.size := fun c hc => by rw [List.eq_of_mem_replicate hc]; exact h1
        have hmade : Reps g (List.replicate len (zv.cells.toList.map ofC)).flatten (madeCells zv.cells (len * ie.size)).toList := by
          rw [← hzs, made_flat zv.cells len (by omega)]
          exact (Reps.zero g _).reps len
        obtain ⟨arr', h5, h6, h7, h8⟩ := rowFill_ok (vs := vs.toList) hf hx0 hmade (by simpa using hl) (fun j p v h1 h2 => hp j p v h1 (by simpa using h2))
        have hlen : out.length = len := by rw [h8]; simp
        obtain ⟨g', h9, h10, h11⟩ := mkRow_ok hs wr ref h7 h6 e
        rw [hm] at h9 h10 h11
        rw [hlen] at h11
        refine ⟨_, _, g', ?_, h9, h10, h11⟩
        have hlim : ¬ (2 ^ 24 < len * ie.size) := by omega
        by_cases h0 : len * ie.size = 0
        · have hl0 : len = 0 := by
            rcases Nat.mul_eq_zero.1 h0 with h | h
            · exact h
            · omega
          subst hl0
          have hm0 : madeCells zv.cells (0 * ie.size) = #[] := by simp [madeCells]
          rw [hm0] at h5
          simp [Instr.buildSlice, run_underlying hu, sizeOf, typeInfo, hie, h5, run_newRow, show Array.range 0 = #[] from rfl]
        · have h5' : Instr.fill (fun i => some (i * ie.size, ie.size)) (Array.map (fun x => zv.cells[x % zv.cells.size]!) (Array.range (len * ie.size))) vs.toList = some arr' := h5
          simp [Instr.buildSlice, run_underlying hu, sizeOf, typeInfo, hie, zeroValue, hzv, h0, hlim, h5', run_newRow]
      · cases h
    · cases h
  · cases h
theorem asI_rep {p : PV} {v : Value} {i : Int} (h : asI p = some i) (hr : Rep g p v) : ∃ k, v = .int k i := by
  unfold asI at h
  split at h
  · rename_i k n
    simp only [Option.some.injEq] at h
    subst h
    simp only [Rep] at hr
    exact ⟨k, hr.1⟩
  · cases h
theorem makeSlice_ok (hs : SR B g st w) (wr : Wr) {ref : Bool} {t : TypeId} {l c p : PV} {lv cv : Value} {st' : St} (h : evMakeSlice P ref t l c st = some (p, st')) (hl : Rep g l lv) (hc : Rep g c cv) :
    ∃ v w' g', (Instr.makeSlice t lv cv).run P w = .ok v w' ∧ Fr B wr g st w g' st' w' ∧ SR B g' st' w' ∧ Rep g' p v := by
  unfold evMakeSlice at h
  split at h
  · rename_i e li ci he hli hci
    have hu := tyElem_under he
    obtain ⟨kl, rfl⟩ := asI_rep hli hl
    obtain ⟨kc, rfl⟩ := asI_rep hci hc
    split at h
    · rename_i i z hi hz
      obtain ⟨i', zv, hi', hzv, rfl⟩ := zero_run hz
      rw [hi] at hi'
      cases hi'
      split at h
      · rename_i hcond
        obtain ⟨rfl, h1, h2, h3, h4, h5, h6⟩ := hcond
        simp only [Option.some.injEq] at h
        have hzs : zv.cells.size = i.size := by simpa using h4
        have hrun := run_make (P := P) w t e i zv hu hi hzv kl kc li li h1 (Int.le_refl _) (by omega) h2
        have hx0 : ∀ c ∈ List.replicate li.toNat (zv.cells.toList.map ofC), c.length = i.size := fun c hc => by rw [List.eq_of_mem_replicate hc]; exact h4
        have hmade : Reps g (List.replicate li.toNat (zv.cells.toList.map ofC)).flatten (madeCells zv.cells (li.toNat * i.size)).toList := by
          rw [← hzs, made_flat zv.cells li.toNat (by omega)]
          exact (Reps.zero g _).reps _
        obtain ⟨g', h9, h10, h11⟩ := mkRow_ok hs wr ref hx0 hmade e
        rw [h] at h9 h10 h11
        simp only [List.length_replicate] at h11
        exact ⟨_, _, g', hrun, h9, h10, h11⟩
      · cases h
    · cases h
  · cases h
theorem fieldOf_some {s : TypeId} {i off : Nat} {t : TypeId} (h : fieldOf P s i = some (off, t)) : ∃ fs f, P.underlying s = some (.struct fs) ∧ fs[i]? = some f ∧ f.offset = off ∧ f.type = t := by
  unfold fieldOf at h
  split at h
  · rename_i fs hu
    simp only [Option.map_eq_some_iff, Prod.mk.injEq] at h
    obtain ⟨f, h1, h2, h3⟩ := h
    exact ⟨fs, f, hu, h1, h2, h3⟩
  · cases h
theorem fieldAddr_ok {s : TypeId} {i : Nat} {x p : PV} {xv : Value} (h : evFieldAddr P s x i = some p) (hx : Rep g x xv) : ∃ v, (Instr.fieldAt s xv i).run P w = .ok v w ∧ Rep g p v := by
  unfold evFieldAddr at h
  split at h
  · rename_i off t hf
    obtain ⟨fs, f, hu, hfi, rfl, rfl⟩ := fieldOf_some hf
    split at h
    · rename_i n l o hn
      simp only [Option.some.injEq] at h
      subst h
      simp only [Rep] at hx
      obtain ⟨rfl, hl⟩ := hx
      refine ⟨_, ?_, by rw [Rep]; exact ⟨rfl, hl⟩⟩
      simp [Instr.fieldAt, run_underlying hu, hfi, Instr.sureAddr, fieldPlace, run_size hn, Addr.add_lit, Nat.add_assoc]
    · rename_i n cs hn
      simp only [Option.some.injEq] at h
      subst h
      simp only [Rep] at hx
      obtain ⟨b, o, vals, rfl, h2, h3⟩ := hx
      refine ⟨.pointer (some ⟨b, o + f.offset, none⟩), ?_, by rw [Rep]; exact ⟨b, o + f.offset, vals.drop f.offset, rfl, fun j u hj => by rw [List.getElem?_drop] at hj; have := h2 _ u hj; rwa [← Nat.add_assoc] at this, h3.drop _⟩⟩
      simp [Instr.fieldAt, run_underlying hu, hfi, Instr.sureAddr, fieldPlace, run_size hn, Addr.add_lit]
    · cases h
  · cases h
theorem part_ok {t : TypeId} {cs : List PV} {off : Nat} {p : PV} {vs : List Value} (h : partOf P t cs off = some p) (hr : Reps g cs vs) : ∃ v, (part t vs.toArray off).run P w = .ok v w ∧ Rep g p v := by
  unfold partOf at h
  split at h
  · rename_i n b hn hb
    split at h
    · rename_i hbt
      subst hbt
      split at h
      · rename_i hle
        simp only [Option.some.injEq] at h
        subst h
        refine ⟨.agg ((vs.drop off).take n).toArray, ?_, by rw [Rep]; exact ⟨_, rfl, (hr.drop off).take n⟩⟩
        simp [part, run_agg hb, run_size hn, List.extract_eq_take_drop]
      · cases h
    · rename_i hbf
      have : b = false := by simpa using hbf
      subst this
      have hlt := (List.getElem?_eq_some_iff.1 h).1
      have hv : vs[off]? = some (vs.getD off undef) := by
        have : off < vs.length := by rw [hr.length]; exact hlt
        simp [List.getD, this]
      refine ⟨vs.getD off undef, ?_, hr.get h hv⟩
      simp only [part, Sem.run_bind, run_agg hb, Result.andThen_ok, List.getElem?_toArray, hv]
      rfl
  · cases h
theorem field_ok {s : TypeId} {i : Nat} {x p : PV} {xv : Value} (h : evField P s x i = some p) (hx : Rep g x xv) : ∃ v, (Instr.field s xv i).run P w = .ok v w ∧ Rep g p v := by
  unfold evField at h
  split at h
  · rename_i off t cs hf
    obtain ⟨fs, f, hu, hfi, rfl, rfl⟩ := fieldOf_some hf
    simp only [Rep] at hx
    obtain ⟨vs, rfl, hr⟩ := hx
    obtain ⟨v, h1, h2⟩ := part_ok (P := P) (w := w) h hr
    refine ⟨v, ?_, h2⟩
    simp [Instr.field, run_underlying hu, hfi, asAgg, h1]
  · cases h
theorem index_ok {t : TypeId} {x i p : PV} {xv iv : Value} (h : evIndex P t x i = some p) (hx : Rep g x xv) (hi : Rep g i iv) : ∃ v, (Instr.index t xv iv).run P w = .ok v w ∧ Rep g p v := by
  unfold evIndex at h
  split at h
  · rename_i n len e cs hn hu
    obtain ⟨k, rfl⟩ := asI_rep hn hi
    simp only [Rep] at hx
    obtain ⟨vs, rfl, hr⟩ := hx
    split at h
    · rename_i m hm
      split at h
      · rename_i hc
        obtain ⟨v, h1, h2⟩ := part_ok (P := P) (w := w) h hr
        refine ⟨v, ?_, h2⟩
        simp [Instr.index, asIntOf, run_underlying hu, hc, run_size hm, h1]
      · cases h
    · cases h
  · cases h
theorem indexAddr_ok {t : TypeId} {x i p : PV} {xv iv : Value} (h : evIndexAddr P t x i = some p) (hx : Rep g x xv) (hi : Rep g i iv) : ∃ v, (Instr.indexAt t xv iv).run P w = .ok v w ∧ Rep g p v := by
  unfold evIndexAddr at h
  split at h
  · cases h
  · rename_i n hn
    obtain ⟨k, rfl⟩ := asI_rep hn hi
    split at h
    · rename_i e xs f hu
      split at h
      · rename_i m hm
        split at h
        · rename_i h0
          split at h
          · rename_i c hc
            split at h
            · rename_i hcl
              simp only [Option.some.injEq] at h
              subst h
              have hlt := (List.getElem?_eq_some_iff.1 hc).1
              simp only [Rep] at hx
              rcases hx with ⟨rfl, _⟩ | ⟨b, o, sz, cap, vals, rfl, h2, h3, h4, h5, h6⟩
              · simp at hlt
              · have hsz : sz = m := by rw [← hcl]; exact (h2 c (List.mem_of_getElem? hc)).symm
                subst hsz
                have hr := Repss_iff.1 h4
                refine ⟨.pointer (some ⟨b, o + n.toNat * sz, none⟩), ?_, ?_⟩
                rotate_left
                · rw [Rep]
                  refine ⟨b, o + n.toNat * sz, (vals.drop (n.toNat * sz)).take sz, rfl, fun j u hj => ?_, ?_⟩
                  rotate_left
                  · have := (hr.drop (n.toNat * sz)).take sz
                    rwa [flat_at h2 hc] at this
                  · rw [List.getElem?_take] at hj
                    split at hj
                    · rw [List.getElem?_drop] at hj
                      have := h3 _ u hj
                      rwa [← Nat.add_assoc] at this
                    · cases hj
                · have hb : 0 ≤ n ∧ n < (xs.length : Int) := by omega
                  simp [Instr.indexAt, asIntOf, run_underlying hu, run_size hm, hb, Addr.add_lit]
            · cases h
          · cases h
        · cases h
      · cases h
    · rename_i e l sz off len hu
      split at h
      · rename_i m hm
        split at h
        · rename_i hc
          obtain ⟨rfl, h0, h1⟩ := hc
          simp only [Option.some.injEq] at h
          subst h
          simp only [Rep] at hx
          obtain ⟨cap, rfl, h3, h4, h5⟩ := hx
          refine ⟨_, ?_, by rw [Rep]; exact ⟨rfl, h3⟩⟩
          simp [Instr.indexAt, asIntOf, run_underlying hu, run_size hm, h0, h1, Addr.add_lit, Nat.add_assoc]
        · cases h
      · cases h
    · rename_i len e l o hu
      split at h
      · rename_i m hm
        split at h
        · rename_i hc
          simp only [Option.some.injEq] at h
          subst h
          simp only [Rep] at hx
          obtain ⟨rfl, hl⟩ := hx
          refine ⟨_, ?_, by rw [Rep]; exact ⟨rfl, hl⟩⟩
          simp [Instr.indexAt, asIntOf, run_underlying hu, run_size hm, hc, Instr.sureAddr, Addr.add_lit, Nat.add_assoc]
        · cases h
      · cases h
    · rename_i len e cs hu
      split at h
      · rename_i m hm
        split at h
        · rename_i hc
          simp only [Option.some.injEq] at h
          subst h
          simp only [Rep] at hx
          obtain ⟨b, o, vals, rfl, h2, h3⟩ := hx
          refine ⟨.pointer (some ⟨b, o + n.toNat * m, none⟩), ?_, by rw [Rep]; exact ⟨b, o + n.toNat * m, vals.drop (n.toNat * m), rfl, fun j u hj => by rw [List.getElem?_drop] at hj; have := h2 _ u hj; rwa [← Nat.add_assoc] at this, h3.drop _⟩⟩
          simp [Instr.indexAt, asIntOf, run_underlying hu, run_size hm, hc, Instr.sureAddr, Addr.add_lit]
        · cases h
      · cases h
    · cases h
end rows
end Go.Proofs.YtlkaoiceehlkmaaVE

namespace Go.Proofs.YtlkaoiceehlkmaaVE
open Go Go.RowKit
set_option linter.unusedVariables false
set_option linter.unusedSimpArgs false

section slices
variable {P : Program} {B : Base} {g : Gh} {st : St} {w : World} {wr : Wr}
/-- A bound, as the machine reckons it. -/
theorem bnd_ok {p : Option PV} {v : Option Value} (hv : match p, v with | none, none => True | some p, some v => Rep g p v | _, _ => False) {d n : Nat} (h : bnd p d = some n) :
    (v = none ∧ n = d) ∨ ∃ k, v = some (.int k (n : Int)) := by
  cases p with
  | none =>
    cases v with
    | none => simp only [bnd, Option.some.injEq] at h; exact .inl ⟨rfl, h.symm⟩
    | some v => exact hv.elim
  | some p =>
    cases v with
    | none => exact hv.elim
    | some v =>
      simp only [bnd] at h
      split at h
      · rename_i i hi
        split at h
        · rename_i h0
          simp only [Option.some.injEq] at h
          obtain ⟨k, rfl⟩ := asI_rep hi hv
          refine .inr ⟨k, ?_⟩
          rw [← h, Int.toNat_of_nonneg h0]
        · cases h
      · cases h
def OptRep (g : Gh) (p : Option PV) (v : Option Value) : Prop := match p, v with | none, none => True | some p, some v => Rep g p v | _, _ => False
theorem run_bound {x : Value} {k : IntKind} {n y : Nat} (c : BoundsCode) (h : n ≤ y) (hx : x = .int k (n : Int)) : (Instr.sliceBound x y c).run P w = .ok n w := by
  subst hx
  have : 0 ≤ (n : Int) ∧ (n : Int) ≤ y := by omega
  simp [Instr.sliceBound, asIntOf, this]
theorem run_bounds {lo hi : Option PV} {lv hv : Option Value} {l h len cap : Nat} (hl : OptRep g lo lv) (hh : OptRep g hi hv) (h1 : bnd lo 0 = some l) (h2 : bnd hi len = some h) (hlh : l ≤ h) (hhl : h ≤ cap) :
    (Instr.sliceBounds true len cap lv hv none).run P w = .ok (l, h, cap) w := by
  rcases bnd_ok hl h1 with ⟨rfl, rfl⟩ | ⟨k, rfl⟩ <;> rcases bnd_ok hh h2 with ⟨rfl, rfl⟩ | ⟨k', rfl⟩ <;>
    simp [Instr.sliceBounds, run_bound _ hlh rfl, run_bound _ hhl rfl]
theorem run_bounds3 {lo hi mx : Option PV} {lv hv mv : Option Value} {l h len cap : Nat} (hl : OptRep g lo lv) (hh : OptRep g hi hv) {m : PV} (hmx : mx = some m) (hm : OptRep g mx mv) (hhi : hi.isSome = true) (h1 : bnd lo 0 = some l) (h2 : bnd hi len = some h) (h3 : bnd mx 0 = some h) (hlh : l ≤ h) (hhl : h ≤ cap) :
    (Instr.sliceBounds true len cap lv hv mv).run P w = .ok (l, h, h) w := by
  subst hmx
  rcases bnd_ok hm h3 with ⟨rfl, h4⟩ | ⟨k3, rfl⟩
  · cases hm
  cases hi with
  | none => simp at hhi
  | some hi =>
    rcases bnd_ok hh h2 with ⟨rfl, h5⟩ | ⟨k', rfl⟩
    · cases hh
    · rcases bnd_ok hl h1 with ⟨rfl, rfl⟩ | ⟨k, rfl⟩ <;>
        simp [Instr.sliceBounds, run_bound _ hlh rfl, run_bound _ hhl rfl, run_bound _ (Nat.le_refl h) rfl]
theorem sliceAt_slice {t e : TypeId} (hu : P.underlying t = some (.slice e)) {n : Nat} (hn : tySize P e = some n) {a : Option Addr} {len cap l h m : Nat} {lv hv mv : Option Value}
    (hb : (Instr.sliceBounds true len cap lv hv mv).run P w = .ok (l, h, m) w) :
    (Instr.sliceAt t (.slice a len cap) lv hv mv).run P w = .ok (.slice (if m = l then a else a.map (·.add (l * n))) (h - l) (m - l)) w := by
  simp [Instr.sliceAt, Instr.slice, run_underlying hu, hb, run_size hn]
theorem Rep.sub {xs : List (List PV)} {f : Flag} {v : Value} (hx : Rep g (.row xs f) v) {n : Nat} (hsz : szOk n xs = true) {l h m : Nat} (hlh : l ≤ h) (hhl : h ≤ xs.length) :
    ∃ a len cap, v = .slice a len cap ∧ len = xs.length ∧ len ≤ cap ∧ ∀ f' m, h ≤ m → m ≤ cap → (f' = .sh ∨ (f' = .full ∧ m = h)) →
      Rep g (.row ((xs.drop l).take (h - l)) f') (.slice (if m = l then a else a.map (·.add (l * n))) (h - l) (m - l)) := by
  have hlen : ((xs.drop l).take (h - l)).length = h - l := by simp; omega
  simp only [Rep] at hx
  rcases hx with ⟨rfl, rfl, _⟩ | ⟨b, o, sz, cap, vals, rfl, h2, h3, h4, h5, h6⟩
  · simp only [List.length_nil] at hhl
    have h0 : h = 0 := by omega
    have l0 : l = 0 := by omega
    subst h0; subst l0
    refine ⟨none, 0, 0, rfl, rfl, Nat.le_refl _, fun f' m hm hm2 hf => ?_⟩
    have m0 : m = 0 := by omega
    subst m0
    simp only [Rep]
    refine .inl ⟨by simp, by simp, ?_⟩
    rcases hf with rfl | ⟨rfl, _⟩ <;> trivial
  · refine ⟨some ⟨b, o, none⟩, xs.length, cap, rfl, rfl, h5, fun f' m hm hm2 hf => ?_⟩
    have hmem : ∀ c ∈ (xs.drop l).take (h - l), c.length = sz := fun c hc => h2 c (List.mem_of_mem_drop (List.mem_of_mem_take hc))
    have fok : ∀ b o sz, FlagOk g f' b o sz (h - l) (m - l) := fun b o sz => by
      rcases hf with rfl | ⟨rfl, rfl⟩
      · trivial
      · rfl
    rw [Rep]
    right
    by_cases hml : m = l
    · rw [if_pos hml]
      have hz : h - l = 0 := by omega
      refine ⟨b, o, sz, m - l, [], by rw [hlen], hmem, fun j u hj => by simp at hj, ?_, by rw [hlen]; omega, by rw [hlen]; exact fok _ _ _⟩
      rw [hz]
      simp [Repss]
    · rw [if_neg hml]
      have hszn : xs ≠ [] → sz = n := fun hne => by
        cases xs with
        | nil => exact absurd rfl hne
        | cons c xs => rw [← h2 c (by simp)]; exact szOk_iff.1 hsz c (by simp)
      have hoff : l * n = l * sz := by
        by_cases hne : xs = []
        · subst hne
          simp only [List.length_nil] at hhl
          have l0 : l = 0 := by omega
          subst l0
          simp
        · rw [hszn hne]
      refine ⟨b, o + l * n, sz, m - l, (vals.drop (l * sz)).take ((h - l) * sz), by simp [hlen, Addr.add_lit], hmem, fun j u hj => ?_, ?_, by rw [hlen]; omega, by rw [hlen]; exact fok _ _ _⟩
      · rw [List.getElem?_take] at hj
        split at hj
        · rw [List.getElem?_drop] at hj
          have := h3 _ u hj
          rwa [← Nat.add_assoc, ← hoff] at this
        · cases hj
      · rw [Repss_iff, flat_take (fun c hc => h2 c (List.mem_of_mem_drop hc)), flat_drop h2]
        exact ((Repss_iff.1 h4).drop _).take _
theorem slice_ok {t : TypeId} {x p : PV} {lo hi mx : Option PV} {xv : Value} {lv hv mv : Option Value} (h : evSlice P t x lo hi mx = some p) (hx : Rep g x xv) (hl : OptRep g lo lv) (hh : OptRep g hi hv) (hm : OptRep g mx mv) (hmh : mx.isSome = true → hi.isSome = true) :
    ∃ v, (Instr.sliceAt t xv lv hv mv).run P w = .ok v w ∧ Rep g p v := by
  unfold evSlice at h
  split at h
  · rename_i e xs f he
    have hu := tyElem_under he
    split at h
    · rename_i l hh' h1 h2 h3
      have hex : ∃ n, tySize P e = some n ∧ szOk n xs = true := by
        split at h3
        · rename_i n hn; exact ⟨n, hn, h3⟩
        · cases h3
      obtain ⟨n, hn, hsz⟩ := hex
      cases mx with
      | none =>
        cases mv with
        | some mv => exact hm.elim
        | none =>
          simp only at h
          split at h
          · rename_i hc
            simp only [Option.some.injEq] at h
            obtain ⟨a, len, cap, rfl, hlen, hcap, hsub⟩ := hx.sub hsz hc.1 hc.2 (m := 0)
            have hb := run_bounds (P := P) (w := w) (len := len) (cap := cap) hl hh h1 (by rw [hlen]; exact h2) hc.1 (by omega)
            refine ⟨_, sliceAt_slice hu hn hb, ?_⟩
            subst h
            split
            · rename_i hk
              obtain ⟨rfl, rfl⟩ := hk
              subst hlen
              have : (if cap = 0 then a else a.map (·.add (0 * n))) = a := by
                split
                · rfl
                · simp only [Nat.zero_mul, Addr.add_zero']; cases a <;> rfl
              rw [this]
              exact hx
            · exact hsub .sh cap (by omega) (Nat.le_refl _) (.inl rfl)
          · cases h
      | some m =>
        simp only at h
        split at h
        · rename_i mm h4
          split at h
          · rename_i hc
            obtain ⟨hc1, rfl, hc3⟩ := hc
            simp only [Option.some.injEq] at h
            obtain ⟨a, len, cap, rfl, hlen, hcap, hsub⟩ := hx.sub hsz hc1 hc3 (m := 0)
            have hb := run_bounds3 (P := P) (w := w) (len := len) (cap := cap) hl hh rfl hm (hmh rfl) h1 (by rw [hlen]; exact h2) h4 hc1 (by omega)
            subst h
            exact ⟨_, sliceAt_slice hu hn hb, hsub .full _ (Nat.le_refl _) (by omega) (.inr ⟨rfl, rfl⟩)⟩
          · cases h
        · cases h
    · cases h
  · rename_i e r n off len he
    have hu := tyElem_under he
    split at h
    · rename_i l hh' m h1 h2 h4
      cases mv with
      | some mv => exact hm.elim
      | none =>
        split at h
        · rename_i hc
          obtain ⟨hc1, hc2, rfl⟩ := hc
          simp only [Rep] at hx
          obtain ⟨cap, rfl, h5, h6, h7⟩ := hx
          have hb := run_bounds (P := P) (w := w) (len := len) (cap := cap) hl hh h1 h2 hc1 (by omega)
          refine ⟨_, sliceAt_slice hu h4 hb, ?_⟩
          split at h
          · rename_i hl0
            subst hl0
            simp only [Option.some.injEq] at h
            subst h
            have : (if cap = 0 then some (⟨(g.base r).1, (g.base r).2 + off, none⟩ : Addr) else (some (⟨(g.base r).1, (g.base r).2 + off, none⟩ : Addr)).map (·.add (0 * m))) = some ⟨(g.base r).1, (g.base r).2 + off, none⟩ := by
              split
              · rfl
              · rw [Nat.zero_mul, Option.map_some, Addr.add_zero']
            rw [this, Rep]
            exact ⟨cap, rfl, h5, by omega, h7⟩
          · split at h
            · rename_i hl0 hlh
              subst hlh
              simp only [Option.some.injEq] at h
              subst h
              rw [Rep]
              right
              simp only [Nat.sub_self, List.length_nil]
              split
              · exact ⟨_, _, 0, cap - l, [], rfl, (fun c hc => by cases hc), (fun j u hj => by simp at hj), rfl, Nat.zero_le _, trivial⟩
              · exact ⟨_, _, 0, cap - l, [], (by rw [Option.map_some, Addr.add_lit]), (fun c hc => by cases hc), (fun j u hj => by simp at hj), rfl, Nat.zero_le _, trivial⟩
            · simp only [Option.some.injEq] at h
              subst h
              rw [Rep]
              refine ⟨cap - l, ?_, h5, by omega, ?_⟩
              · rw [if_neg (by omega)]
                simp [Addr.add_lit, Nat.add_assoc]
              · have h8 : l * m + (cap - l) * m = cap * m := by rw [← Nat.add_mul]; congr 1; omega
                omega
        · cases h
    · cases h
  · cases h
end slices
end Go.Proofs.YtlkaoiceehlkmaaVE

namespace Go.Proofs.YtlkaoiceehlkmaaVE
open Go Go.RowKit
set_option linter.unusedVariables false
set_option linter.unusedSimpArgs false

section append
variable {P : Program} {B : Base} {g : Gh} {st : St} {w : World} {wr : Wr}
theorem SR.less (h : SR B g st w) {l : List Nat} (hl : ∀ t ∈ l, t ∈ st.live) : SR B g { st with live := l } w :=
  ⟨h.nl, h.nt, h.old, h.im, h.mloc, h.mspare, h.loc, fun t ht => h.tok t (hl t ht), h.obj⟩
theorem Fr.less {g' : Gh} {st' : St} {w' : World} (h : Fr B wr g st w g' st' w') {l : List Nat} (hl : ∀ t ∈ l, t ∈ st'.live) : Fr B wr g st w g' { st' with live := l } w' :=
  ⟨h.le, h.below, h.len, h.locs, h.dead, fun t ht hm => h.live t ht (hl t hm), h.keep, h.fz, h.there, h.ol, h.obj⟩
theorem allOne_flat {xs : List (List PV)} (h : allOne xs = true) : xs.flatten.all PV.one = true := by
  unfold allOne at h
  rw [List.all_eq_true] at h ⊢
  intro p hp
  obtain ⟨c, hc, hp⟩ := List.mem_flatten.1 hp
  exact List.all_eq_true.1 (h c hc) p hp
theorem chunk_ok (n : Nat) : ∀ (k : Nat) (cs : List PV), k * n ≤ cs.length → (chunk n k cs).flatten = cs.take (k * n) ∧ (∀ c ∈ chunk n k cs, c.length = n) ∧ (chunk n k cs).length = k
  | 0, cs, _ => ⟨by simp [chunk], (fun c hc => by cases hc), rfl⟩
  | k + 1, cs, h => by
    rw [Nat.succ_mul] at h
    obtain ⟨h1, h2, h3⟩ := chunk_ok n k (cs.drop n) (by simp; omega)
    refine ⟨?_, ?_, by simp [chunk, h3]⟩
    · simp only [chunk, List.flatten_cons, h1]
      rw [Nat.succ_mul, Nat.add_comm (k * n) n, List.take_add]
    · intro c hc
      simp only [chunk, List.mem_cons] at hc
      rcases hc with rfl | hc
      · simp; omega
      · exact h2 c hc
theorem src_ok (hs : SR B g st w) {n : Nat} {tx : TypeId} {x : PV} {xv : Value} {ys : List (List PV)} (h : srcRow P n tx st x = some ys) (hx : Rep g x xv) (ha : allOne ys = true) :
    ∃ news, Src P n tx xv ys.length news w ∧ Reps g ys.flatten news ∧ (∀ c ∈ ys, c.length = n) := by
  have hone := allOne_flat ha
  unfold srcRow at h
  split at h
  · rename_i zs f
    split at h
    · rename_i e hk
      split at h
      · rename_i hsz
        simp only [Option.some.injEq] at h
        subst h
        have hsz' := szOk_iff.1 hsz
        simp only [Rep] at hx
        rcases hx with ⟨rfl, rfl, _⟩ | ⟨b, o, sz, cap, vals, rfl, h2, h3, h4, h5, h6⟩
        · exact ⟨[], Src.ofNil w hk 0, rfl, hsz'⟩
        · have hr := Repss_iff.1 h4
          have hl : vals.length = zs.length * n := by rw [hr.length, flat_len hsz']
          exact ⟨vals, Src.ofSlice w hk ⟨b, o, none⟩ zs.length cap vals hl (fun j u hj => by rw [Addr.add_lit]; exact hs.im _ _ _ (h3 j u hj)) (hr.oneCell hone), hr, hsz'⟩
      · cases h
    · cases h
  · rename_i l m off len
    split at h
    · rename_i cs e hl hk
      split at h
      · rename_i hc
        obtain ⟨rfl, hc2⟩ := hc
        simp only [Option.some.injEq] at h
        subst h
        simp only [Rep] at hx
        obtain ⟨cap, rfl, h3, h4, h5⟩ := hx
        obtain ⟨k1, k2, us, k3, k4⟩ := hs.loc l cs hl
        obtain ⟨c1, c2, c3⟩ := chunk_ok m len (cs.drop off) (by simp; omega)
        rw [c1] at hone
        have hr : Reps g ((cs.drop off).take (len * m)) ((us.drop off).take (len * m)) := (k3.drop off).take _
        have hll : ((us.drop off).take (len * m)).length = len * m := by rw [hr.length]; simp; omega
        refine ⟨(us.drop off).take (len * m), ?_, by rw [c1]; exact hr, c2⟩
        rw [c3]
        refine Src.ofSlice w hk _ len cap _ hll (fun j u hj => ?_) (hr.oneCell hone)
        rw [Addr.add_lit]
        rw [List.getElem?_take] at hj
        split at hj
        · rw [List.getElem?_drop] at hj
          have := k4 _ u hj
          rwa [← Nat.add_assoc] at this
        · cases hj
      · cases h
    · cases h
  · rename_i s
    split at h
    · rename_i hk
      split at h
      · rename_i hn
        subst hn
        simp only [Option.some.injEq] at h
        subst h
        simp only [Rep] at hx
        obtain ⟨rfl, _⟩ := hx
        have hlen : (s.data.toList.map fun b => [bytePV b]).length = s.size := by simp
        refine ⟨byteCells s, ?_, ?_, by intro c hc; obtain ⟨b, _, rfl⟩ := List.mem_map.1 hc; rfl⟩
        · rw [hlen]; exact Src.ofString w hk s
        · have : ∀ l : List UInt8, Reps g (l.map fun b => [bytePV b]).flatten (l.map fun b => Value.int .u8 b.toNat) := by
            intro l
            induction l with
            | nil => rfl
            | cons b l ih =>
              simp only [List.map_cons, List.flatten_cons, List.singleton_append, Reps]
              exact ⟨_, _, rfl, Rep.ofFlat rfl, ih⟩
          exact this _
      · cases h
    · cases h
  · cases h
/-- Behind a draw a new block with all the elements and zeros. -/
structure Grown (P : Program) (w : World) (i : TypeInfo) (e : TypeId) (vals : List Value) (need : Nat) (arr : Array Value) (cap : Nat) : Prop where
  size : arr.size = cap * i.size
  le : need ≤ cap
  at_ : ∀ (j : Nat) (v : Value), vals[j]? = some v → arr[j]? = some v
  len : vals.length = need * i.size
theorem grow_ok {t tx ty e : TypeId} {i : TypeInfo} {z : Value} (ht : P.underlying t = some (.slice e)) (hi : P.info? e = some i) (hz : i.zero = some z) (hzs : z.cells.size = i.size) {base : Option Addr} {sLen sCap : Nat} {olds : List Value}
    (hol : olds.length = sLen * i.size) (hold : (Builtin.firstCells i.size sLen (.slice base sLen sCap)).run P w.drew = .ok olds.toArray w.drew) {x : Value} {n : Nat} {news : List Value} (hsrc : Src P i.size tx x n news w)
    (hg : sCap < sLen + n) (hb : (sLen + n) * i.bytes ≤ 140737488355328) (h63 : sLen + n ≤ 9223372036854775807) :
    ∃ arr cap, (Builtin.append_ #[t, tx] ty #[.slice base sLen sCap, x]).run P w = .ok (.slice (some ⟨w.heap.size, 0, none⟩) (sLen + n) cap) ((w.drewN 1).alloc (.cells arr e)) ∧ Grown P w i e (olds ++ news) (sLen + n) arr cap := by
  have hr := run_append_grow_src (P := P) w t tx ty e i z ht hi hz base sLen sCap olds hold x n news hsrc hg (by omega) (growslice_fits hg hb)
  have hge := grownCap_ge w (sLen + n) sCap e
  refine ⟨_, _, hr, ?_, hge, fun j v hj => ?_, by rw [List.length_append, hol, hsrc.newsLen, Nat.add_mul]⟩
  · simp only [Array.size_append, List.size_toArray, List.length_append, size_zeroCells, hzs, hol, hsrc.newsLen, ← Nat.add_mul]
    congr 1
    omega
  · have hlt := (List.getElem?_eq_some_iff.1 hj).1
    rw [Array.getElem?_append_left (by simpa using hlt)]
    simpa using hj
theorem grown_tok (hs : SR B g st w) {i : TypeInfo} {e : TypeId} {vals : List Value} {need : Nat} {arr : Array Value} {cap : Nat} (hg : Grown P w i e vals need arr cap) {xs : List (List PV)} (hx : ∀ c ∈ xs, c.length = i.size) (hxl : xs.length = need) (hn : 0 < need) (hr : Reps g xs.flatten vals) (wr : Wr) :
    ∃ g', Fr B wr g st w g' (tokSt st) ((w.drewN 1).alloc (.cells arr e)) ∧ SR B g' (tokSt st) ((w.drewN 1).alloc (.cells arr e)) ∧ Rep g' (.row xs (.tok st.next)) (.slice (some ⟨w.heap.size, 0, none⟩) need cap) := by
  have hs1 := hs.draws 1
  refine ⟨_, Fr.trans hs hs1 (Fr.draws B wr g st w 1) (Fr.newTok hs1 vals arr.size _), SR.newTok hs1 vals arr e hg.at_, ?_⟩
  subst hxl
  rw [Rep]
  refine .inr ⟨w.heap.size, 0, i.size, cap, vals, rfl, hx, im_newTok g _ _ _, Repss_iff.2 (Reps.mono (le_newTok hs1 _ _) _ _ hr), hg.le, ?_⟩
  refine ⟨by rw [← hs.nt]; simp [Gh.newTok], hn, ?_⟩
  rw [← hs.nt]
  simp [Gh.newTok, hg.len, hg.size]
theorem grown_ref (hs : SR B g st w) {i : TypeInfo} {e : TypeId} {vals : List Value} {need : Nat} {arr : Array Value} {cap : Nat} (hg : Grown P w i e vals need arr cap) {cs : List PV} (hr : Reps g cs vals) (wr : Wr) :
    ∃ g', Fr B wr g st w g' (YtlkaoiceehlkmaaVE.newLoc st cs) ((w.drewN 1).alloc (.cells arr e)) ∧ SR B g' (YtlkaoiceehlkmaaVE.newLoc st cs) ((w.drewN 1).alloc (.cells arr e)) ∧ Rep g' (.ref st.locs.length i.size 0 need) (.slice (some ⟨w.heap.size, 0, none⟩) need cap) := by
  have hs1 := hs.draws 1
  have hle : vals.length ≤ arr.size := by rw [hg.len, hg.size]; exact Nat.mul_le_mul_right _ hg.le
  refine ⟨_, Fr.trans hs hs1 (Fr.draws B wr g st w 1) (Fr.newLoc hs1 cs arr.size _), SR.newLoc hs1 hr arr e hle hg.at_, ?_⟩
  rw [Rep, ← hs.nl]
  refine ⟨cap, by simp [Gh.newLoc], by simp [Gh.newLoc], hg.le, by simp [Gh.newLoc, hg.size]⟩
theorem nothing_ok {t tx ty e : TypeId} {i : TypeInfo} (ht : P.underlying t = some (.slice e)) (hi : P.info? e = some i) {x : Value} (hsrc : Src P i.size tx x 0 [] w) {base : Option Addr} {n cap : Nat} (hc : n ≤ cap) (hb : ∀ a, base = some a → a.spot = none) :
    (Builtin.append_ #[t, tx] ty #[.slice base n cap, x]).run P w = .ok (.slice base n cap) w := by
  cases base with
  | none => rcases hsrc.kind with ⟨e', hk⟩ | hk <;> simp [Builtin.append_, run_underlying ht, run_underlying hk, sizeOf, typeInfo, hi, hsrc.len, hsrc.cells, hc]
  | some a =>
    obtain ⟨b, o, s⟩ := a
    have : s = none := hb _ rfl
    subst this
    have := run_append_room_src (P := P) w t tx ty e i ht hi b o n cap x 0 [] hsrc hc (by simp) (by simp)
    simpa [World.setCells] using this
theorem len_strip {xs : List (List PV)} {n : Nat} (h : ∀ c ∈ xs, c.length = n) : ∀ c ∈ stripRow xs, c.length = n := fun c hc => by
  obtain ⟨d, hd, rfl⟩ := List.mem_map.1 hc
  rw [List.length_map]
  exact h d hd
theorem append_ok (hs : SR B g st w) {ref : Bool} {ts : List TypeId} {ty : TypeId} {s x p : PV} {sv xv : Value} {st' : St} (h : evAppend P ref wr ts s x st = some (p, st')) (hsv : Rep g s sv) (hx : Rep g x xv) :
    ∃ v w' g', (Builtin.append_ ts.toArray ty #[sv, xv]).run P w = .ok v w' ∧ Fr B wr g st w g' st' w' ∧ SR B g' st' w' ∧ Rep g' p v := by
  unfold evAppend at h
  split at h
  · rename_i t tx
    split at h
    · cases h
    · rename_i e he
      have hu := tyElem_under he
      split at h
      · cases h
      · rename_i i hi
        split at h
        · cases h
        · rename_i ys hys
          split at h
          · cases h
          · rename_i hcond
            have hcond : (allOne ys && decide (0 < i.size) && zOk P e i.size) = true := by
              cases hbb : (allOne ys && decide (0 < i.size) && zOk P e i.size) with
              | true => rfl
              | false => rw [hbb] at hcond; exact absurd rfl hcond
            simp only [Bool.and_eq_true, decide_eq_true_eq] at hcond
            obtain ⟨⟨hone, hpos⟩, hzc⟩ := hcond
            obtain ⟨z, hz, hzs⟩ : ∃ z : Value, i.zero = some z ∧ z.cells.size = i.size := by
              unfold zOk at hzc
              split at hzc
              · rename_i cs hcs
                obtain ⟨i', z, hi', hz, rfl⟩ := zero_run hcs
                rw [hi] at hi'
                cases hi'
                exact ⟨z, hz, by simpa using hzc⟩
              · cases hzc
            obtain ⟨news, hsrc, hrn, hyl⟩ := src_ok hs hys hx hone
            split at h
            · rename_i xs f
              split at h
              · rename_i hemp
                have hy0 : ys = [] := by simpa using hemp
                subst hy0
                simp only [Option.some.injEq, Prod.mk.injEq] at h
                obtain ⟨rfl, rfl⟩ := h
                have hn0 : news = [] := by simpa [Reps] using hrn
                subst hn0
                refine ⟨sv, w, g, ?_, Fr.refl .., hs, hsv⟩
                simp only [Rep] at hsv
                rcases hsv with ⟨rfl, rfl, _⟩ | ⟨b, o, sz, cap, vals, rfl, h2, h3, h4, h5, h6⟩
                · exact nothing_ok hu hi hsrc (Nat.le_refl _) (fun a ha => by cases ha)
                · exact nothing_ok hu hi hsrc h5 (fun a ha => by cases ha; rfl)
              · rename_i hne
                have hm : 0 < ys.length := by
                  cases ys with
                  | nil => simp at hne
                  | cons _ _ => simp
                split at h
                · cases h
                · rename_i hb
                  have hb : (decide ((xs.length + ys.length) * i.bytes ≤ 140737488355328) && decide (xs.length + ys.length ≤ 9223372036854775807) && szOk i.size xs) = true := by
                    cases hbb : (decide ((xs.length + ys.length) * i.bytes ≤ 140737488355328) && decide (xs.length + ys.length ≤ 9223372036854775807) && szOk i.size xs) with
                    | true => rfl
                    | false => rw [hbb] at hb; exact absurd rfl hb
                  simp only [Bool.and_eq_true, decide_eq_true_eq] at hb
                  obtain ⟨⟨hbytes, h63⟩, hszx⟩ := hb
                  have hxl := szOk_iff.1 hszx
                  have hall : ∀ c ∈ xs ++ stripRow ys, c.length = i.size := fun c hc => (List.mem_append.1 hc).elim (hxl c) (len_strip hyl c)
                  have hlen : (xs ++ stripRow ys).length = xs.length + ys.length := by simp [stripRow]
                  -- a row that must grow
                  have grow : ∀ {base : Option Addr} {cap : Nat} {olds : List Value}, sv = .slice base xs.length cap → cap < xs.length + ys.length → Reps g xs.flatten olds →
                      (Builtin.firstCells i.size xs.length (.slice base xs.length cap)).run P w.drew = .ok olds.toArray w.drew →
                      ∃ arr c, (Builtin.append_ #[t, tx] ty #[sv, xv]).run P w = .ok (.slice (some ⟨w.heap.size, 0, none⟩) (xs.length + ys.length) c) ((w.drewN 1).alloc (.cells arr e)) ∧ Grown P w i e (olds ++ news) (xs.length + ys.length) arr c ∧
                        Reps g (xs ++ stripRow ys).flatten (olds ++ news) ∧ Reps g (xs.flatten ++ ys.flatten) (olds ++ news) := by
                    intro base cap olds hv hcap ho hold
                    subst hv
                    obtain ⟨arr, c, h1, h2⟩ := grow_ok (P := P) (w := w) (ty := ty) hu hi hz hzs (by rw [ho.length, flat_len hxl]) hold hsrc hcap hbytes h63
                    refine ⟨arr, c, h1, h2, ?_, ho.append hrn⟩
                    rw [List.flatten_append]
                    exact ho.append hrn.stripRow
                  -- nil or full
                  have fresh : ((∃ (_ : notTok f), f = .nil ∨ f = .full)) → (if ref = true then some (PV.ref st.locs.length i.size 0 (xs.length + ys.length), YtlkaoiceehlkmaaVE.newLoc st (xs.flatten ++ ys.flatten)) else some (PV.row (xs ++ stripRow ys) (.tok st.next), { st with live := st.next :: st.live, next := st.next + 1 })) = some (p, st') →
                      ∃ v w' g', (Builtin.append_ #[t, tx] ty #[sv, xv]).run P w = .ok v w' ∧ Fr B wr g st w g' st' w' ∧ SR B g' st' w' ∧ Rep g' p v := by
                    rintro ⟨_, hf⟩ heq
                    have hgr : ∃ base cap olds, sv = .slice base xs.length cap ∧ cap < xs.length + ys.length ∧ Reps g xs.flatten olds ∧ (Builtin.firstCells i.size xs.length (.slice base xs.length cap)).run P w.drew = .ok olds.toArray w.drew := by
                      simp only [Rep] at hsv
                      rcases hsv with ⟨rfl, rfl, _⟩ | ⟨b, o, sz, cap, vals, rfl, h2, h3, h4, h5, h6⟩
                      · exact ⟨none, 0, [], rfl, by simpa using hm, rfl, by simp [Builtin.firstCells]⟩
                      · rcases hf with rfl | rfl
                        · exact h6.elim
                        · have hr := Repss_iff.1 h4
                          simp only [FlagOk] at h6
                          refine ⟨_, cap, vals, rfl, by omega, hr, ?_⟩
                          exact run_firstCells_some w.drew i.size xs.length ⟨b, o, none⟩ xs.length cap vals (by rw [hr.length, flat_len hxl]) (fun j u hj => by rw [Addr.add_lit]; exact hs.im _ _ _ (h3 j u hj))
                    obtain ⟨base, cap, olds, h1, h2, h3, h4⟩ := hgr
                    obtain ⟨arr, c, h5, h6, h7, h8⟩ := grow h1 h2 h3 h4
                    cases ref with
                    | true =>
                      simp only [if_true, Option.some.injEq, Prod.mk.injEq] at heq
                      obtain ⟨rfl, rfl⟩ := heq
                      obtain ⟨g', k1, k2, k3⟩ := grown_ref hs h6 h8 wr
                      exact ⟨_, _, g', h5, k1, k2, k3⟩
                    | false =>
                      simp only [Bool.false_eq_true, if_false, Option.some.injEq, Prod.mk.injEq] at heq
                      obtain ⟨rfl, rfl⟩ := heq
                      obtain ⟨g', k1, k2, k3⟩ := grown_tok hs h6 hall hlen (by omega) h7 wr
                      exact ⟨_, _, g', h5, k1, k2, k3⟩
                  split at h
                  · cases h
                  · rename_i t'
                    split at h
                    · rename_i hlive
                      have hlive' : t' ∈ st.live := by simpa using hlive
                      simp only [Option.some.injEq, Prod.mk.injEq] at h
                      obtain ⟨rfl, rfl⟩ := h
                      have hsv' := hsv
                      simp only [Rep] at hsv'
                      rcases hsv' with ⟨_, _, hnt⟩ | ⟨b, o, sz, cap, vals, rfl, h2, h3, h4, h5, h6⟩
                      · exact hnt.elim
                      · obtain ⟨h7, h8, h9⟩ := h6
                        have hsz : sz = i.size := by
                          cases xs with
                          | nil => simp at h8
                          | cons c xs => rw [← h2 c (by simp)]; exact hxl c (by simp)
                        subst hsz
                        have hr := Repss_iff.1 h4
                        have hvl : vals.length = xs.length * i.size := by rw [hr.length, flat_len hxl]
                        by_cases hroom : xs.length + ys.length ≤ cap
                        · have hnl := hsrc.newsLen
                          have hfit : o + xs.length * i.size + news.length ≤ o + cap * i.size := by
                            rw [hnl, Nat.add_assoc, ← Nat.add_mul]
                            exact Nat.add_le_add_left (Nat.mul_le_mul_right _ hroom) _
                          have htok := (hs.tok t' hlive').2
                          rw [h9] at htok
                          have hrun := run_append_room_src (P := P) w t tx ty e i hu hi b o xs.length cap xv ys.length news hsrc hroom
                            (fun j hj => (hs.mspare _ _ t' (htok (o + xs.length * i.size + j) (Nat.le_add_right _ _) (by simp only; omega))).2.2.1)
                            (fun j hj => (hs.mspare _ _ t' (htok (o + xs.length * i.size + j) (Nat.le_add_right _ _) (by simp only; omega))).2.2.2)
                          have hle := le_useTok hs hlive' h9 hfit
                          refine ⟨_, _, _, hrun, Fr.useTok hs hlive' h9 hfit, SR.useTok hs hlive' h9 hfit, ?_⟩
                          rw [Rep]
                          refine .inr ⟨b, o, i.size, cap, vals ++ news, by rw [hlen], hall, fun j u hj => ?_, ?_, by rw [hlen]; exact hroom, ?_⟩
                          · rcases Nat.lt_or_ge j vals.length with hj1 | hj1
                            · rw [List.getElem?_append_left hj1] at hj
                              exact hle.im _ _ _ (h3 j u hj)
                            · rw [List.getElem?_append_right hj1] at hj
                              have := im_useTok g t' b (o + xs.length * i.size) (o + cap * i.size) news (j - vals.length) u hj
                              rwa [hvl, show o + xs.length * i.size + (j - xs.length * i.size) = o + j by omega] at this
                          · rw [Repss_iff, List.flatten_append]
                            exact (Reps.mono hle _ _ hr).append (Reps.mono hle _ _ hrn.stripRow)
                          · refine ⟨by rw [← hs.nt]; simp [Gh.useTok], by rw [hlen]; omega, ?_⟩
                            rw [← hs.nt, hlen, Nat.add_mul, ← hnl]
                            simp [Gh.useTok, Nat.add_assoc]
                        · obtain ⟨arr, c, k5, k6, k7, k8⟩ := grow rfl (by omega) hr
                            (run_firstCells_some w.drew i.size xs.length ⟨b, o, none⟩ xs.length cap vals hvl (fun j u hj => by rw [Addr.add_lit]; exact hs.im _ _ _ (h3 j u hj)))
                          obtain ⟨g', m1, m2, m3⟩ := grown_tok hs k6 hall hlen (by omega) k7 wr
                          have hsub : ∀ t ∈ (st.next :: st.live.filter fun u => u != t'), t ∈ (tokSt st).live := fun t ht => by
                            simp only [List.mem_cons, List.mem_filter] at ht
                            simp only [tokSt, List.mem_cons]
                            rcases ht with ht | ht
                            · exact .inl ht
                            · exact .inr ht.1
                          exact ⟨_, _, g', k5, m1.less hsub, m2.less hsub, m3⟩
                    · cases h
                  · rename_i hns hnt
                    refine fresh ⟨?_, ?_⟩ h
                    · cases f with
                      | tok t' => exact absurd rfl (hnt t')
                      | _ => trivial
                    · cases f with
                      | tok t' => exact absurd rfl (hnt t')
                      | sh => exact absurd rfl hns
                      | nil => exact .inl rfl
                      | full => exact .inr rfl
            · rename_i l n off len
              split at h
              · rename_i cs hl
                have hsv' := hsv
                simp only [Rep] at hsv'
                obtain ⟨cap, rfl, h3, h4, h5⟩ := hsv'
                split at h
                · rename_i hemp
                  have hy0 : ys = [] := by simpa using hemp
                  subst hy0
                  simp only [Option.some.injEq, Prod.mk.injEq] at h
                  obtain ⟨rfl, rfl⟩ := h
                  have hn0 : news = [] := by simpa [Reps] using hrn
                  subst hn0
                  exact ⟨_, w, g, nothing_ok hu hi hsrc h4 (fun a ha => by cases ha; rfl), Fr.refl .., hs, hsv⟩
                · split at h
                  · rename_i hc
                    obtain ⟨c1, rfl, c3, c4, c5⟩ := hc
                    simp only [Option.some.injEq, Prod.mk.injEq] at h
                    obtain ⟨rfl, rfl⟩ := h
                    obtain ⟨k1, k2, us, k3, k4⟩ := hs.loc l cs hl
                    have hnl := hsrc.newsLen
                    have hlt := locAt_lt hl
                    have hkl : (killSt st l).locs.length = st.locs.length := by simp [killSt]
                    by_cases hroom : len + ys.length ≤ cap
                    · have hfit : off + len * i.size + news.length ≤ g.ext l := by
                        rw [hnl, Nat.add_assoc, ← Nat.add_mul]
                        exact Nat.le_trans (Nat.add_le_add_left (Nat.mul_le_mul_right _ hroom) _) h5
                      have hrun := run_append_room_src (P := P) w t tx ty e i hu hi (g.base l).1 ((g.base l).2 + off) len cap xv ys.length news hsrc hroom
                        (fun j hj => by
                          have := (hs.mloc _ _ l (k2 (off + len * i.size + j) (by omega))).2.2.1
                          rwa [show (g.base l).2 + (off + len * i.size + j) = (g.base l).2 + off + len * i.size + j by omega] at this)
                        (fun j hj => by
                          have := (hs.mloc _ _ l (k2 (off + len * i.size + j) (by omega))).2.2.2
                          rwa [show (g.base l).2 + (off + len * i.size + j) = (g.base l).2 + off + len * i.size + j by omega] at this)
                      refine ⟨_, _, _, hrun, Fr.moveLoc hs hl hfit c1 _, SR.moveLoc hs hl c3 hrn hfit, ?_⟩
                      rw [Rep, ← hs.nl]
                      refine ⟨cap, by simp [Gh.moveLoc], by simp [Gh.moveLoc], hroom, ?_⟩
                      simp only [Gh.moveLoc, if_true]
                      omega
                    · have hll : ((us.drop off).take (len * i.size)).length = len * i.size := by rw [List.length_take, List.length_drop, k3.length]; omega
                      obtain ⟨arr, c, m1, m2⟩ := grow_ok (P := P) (w := w) (ty := ty) hu hi hz hzs hll
                        (run_firstCells_some w.drew i.size len ⟨(g.base l).1, (g.base l).2 + off, none⟩ len cap _ hll (fun j u hj => by
                          rw [List.getElem?_take] at hj
                          split at hj
                          · rw [List.getElem?_drop] at hj
                            have := k4 _ u hj
                            rw [Addr.add_lit]
                            rwa [← Nat.add_assoc] at this
                          · cases hj)) hsrc (by omega) c4 c5
                      obtain ⟨g', m3, m4, m5⟩ := grown_ref (hs.kill l) m2 (((k3.drop off).take (len * i.size)).append hrn) wr
                      rw [hkl] at m5
                      exact ⟨_, _, g', m1, Fr.trans hs (hs.kill l) (Fr.kill c1) m3, m4, m5⟩
                  · cases h
              · cases h
            · cases h
  · cases h
end append
end Go.Proofs.YtlkaoiceehlkmaaVE

namespace Go.Proofs.YtlkaoiceehlkmaaVE
open Go Go.RowKit
set_option linter.unusedVariables false
set_option linter.unusedSimpArgs false

/-- The kinds of operations that are reckoned by the machine itself, over values without addresses. -/
def flatKind : Op → Bool
  | .binOp .. | .unOp .. | .convert .. | .index .. | .slice .. | .pick .. => true
  | .call c => match c.callee with
    | .builtin _ => true
    | _ => false
  | _ => false
theorem execOp_congr {ρ ρ' : Operand → Value} {o : Oper} (hk : flatKind o.op = true) (h : ∀ x ∈ o.op.operands.toList, ρ x = ρ' x) : execOp ρ o = execOp ρ' o := by
  cases ho : o.op <;> rw [ho] at hk h <;> simp only [flatKind] at hk <;> (try cases hk)
  case binOp op t x y t' =>
    simp only [Op.operands, List.mem_cons, List.not_mem_nil, or_false] at h
    simp only [execOp, ho, h x (.inl rfl), h y (.inr rfl)]
  case unOp op t x =>
    simp only [Op.operands, List.mem_cons, List.not_mem_nil, or_false] at h
    simp only [execOp, ho, h x rfl]
  case convert s d x =>
    simp only [Op.operands, List.mem_cons, List.not_mem_nil, or_false] at h
    simp only [execOp, ho, h x rfl]
  case index t x i =>
    simp only [Op.operands, List.mem_cons, List.not_mem_nil, or_false] at h
    simp only [execOp, ho, h x (.inl rfl), h i (.inr rfl)]
  case pick c x y =>
    simp only [Op.operands, List.mem_cons, List.not_mem_nil, or_false] at h
    simp only [execOp, ho, h c (.inl rfl), h x (.inr (.inl rfl)), h y (.inr (.inr rfl))]
  case slice t x lo hi mx =>
    have h1 : ρ x = ρ' x := h x (by simp [Op.operands])
    have h2 : lo.map ρ = lo.map ρ' := by cases lo with | none => rfl | some l => simp only [Option.map_some]; rw [h l (by simp [Op.operands])]
    have h3 : hi.map ρ = hi.map ρ' := by cases hi with | none => rfl | some l => simp only [Option.map_some]; rw [h l (by simp [Op.operands])]
    have h4 : mx.map ρ = mx.map ρ' := by cases mx with | none => rfl | some l => simp only [Option.map_some]; rw [h l (by simp [Op.operands])]
    simp only [execOp, ho, h1, h2, h3, h4]
  case call c =>
    split at hk
    · rename_i b hb
      have h1 : c.args.map ρ = c.args.map ρ' := by
        apply Array.map_congr_left
        intro x hx
        exact h x (by simp [Op.operands, Call.operands, hb]; exact hx)
      simp only [execOp, ho, resolve, hb, h1]
    · cases hk

section ops
variable {P : Program} {B : Base} {g : Gh} {st : St} {w : World} {wr : Wr} {tm : List PV} {a : Act}
theorem flat_ok {o : Oper} {p : PV} (h : evFlat P tm o = some p) (hk : flatKind o.op = true) (ht : Reps g tm a.tmps.toList) : ∃ v, (execOp a.eval o).run P w = .ok (.value v) w ∧ Rep g p v := by
  unfold evFlat at h
  split at h
  · rename_i hall
    rw [List.all_eq_true] at hall
    have hcongr : execOp (fun x => (toV (PV.ev tm x)).getD undef) o = execOp a.eval o := execOp_congr hk fun x hx => by
      obtain ⟨y, hy⟩ := Option.isSome_iff_exists.1 (hall x hx)
      rw [hy, Option.getD_some]
      exact (Rep.toV _ _ _ (Rep.ev ht x) hy).symm
    split at h
    · rename_i v hv
      have := runP_run hv w
      rw [hcongr] at this
      exact ⟨v, this, Rep.ofV h⟩
    · cases h
  · cases h
theorem len_ok {t : TypeId} {ts : Array TypeId} {ty : TypeId} {x p : PV} {xv : Value} (h : evLen P t x = some p) (hts : ts[0]? = some t) (hx : Rep g x xv) : ∃ v, (Builtin.len_ ts ty #[xv]).run P w = .ok v w ∧ Rep g p v := by
  unfold evLen at h
  split at h
  · rename_i e xs f hu
    simp only [Option.some.injEq] at h
    subst h
    simp only [Rep] at hx
    rcases hx with ⟨rfl, rfl, _⟩ | ⟨b, o, sz, cap, vals, rfl, _⟩
    · exact ⟨goInt 0, by simp [Builtin.len_, hts, run_underlying hu], Rep.ofFlat rfl⟩
    · exact ⟨goInt xs.length, by simp [Builtin.len_, hts, run_underlying hu], Rep.ofFlat rfl⟩
  · rename_i e l sz off len hu
    simp only [Option.some.injEq] at h
    subst h
    simp only [Rep] at hx
    obtain ⟨cap, rfl, _⟩ := hx
    exact ⟨goInt len, by simp [Builtin.len_, hts, run_underlying hu], Rep.ofFlat rfl⟩
  · cases h
theorem nilCheck_ok {x p : PV} {xv : Value} (h : evNilCheck x = some p) (hx : Rep g x xv) {o : Oper} {y : Operand} (ho : o.op = .nilCheck y) {ρ : Operand → Value} (hy : ρ y = xv) : (execOp ρ o).run P w = .ok (.value xv) w ∧ Rep g p xv := by
  unfold evNilCheck at h
  split at h
  · simp only [Option.some.injEq] at h
    subst h
    refine ⟨?_, hx⟩
    simp only [Rep] at hx
    obtain ⟨rfl, _⟩ := hx
    simp [execOp, ho, hy]
  · simp only [Option.some.injEq] at h
    subst h
    refine ⟨?_, hx⟩
    simp only [Rep] at hx
    obtain ⟨b, o', vals, rfl, _⟩ := hx
    simp [execOp, ho, hy]
  · simp only [Option.some.injEq] at h
    subst h
    refine ⟨?_, hx⟩
    simp only [Rep] at hx
    obtain ⟨va, vb, rfl, _⟩ := hx
    simp [execOp, ho, hy]
  · cases h
theorem nilCmp_ok {t : TypeId} {x y : PV} {xv yv : Value} {b : Bool} (h : nilCmp P t x y = some b) (hx : Rep g x xv) (hy : Rep g y yv) (cx cy : Operand) :
    (∀ s : Sem Value, (do eqGuard .eql t cx cy xv yv; s : Sem Value).run P w = s.run P w) ∧ (∀ s : Sem Value, (do eqGuard .neq t cx cy xv yv; s : Sem Value).run P w = s.run P w) ∧ (Op.equal t xv yv).run P w = .ok b w ∧
    binOp .eql t xv yv = (do pure (.bool (← Op.equal t xv yv))) ∧ binOp .neq t xv yv = (do pure (.bool (!(← Op.equal t xv yv)))) := by
  have key : ∀ {d : TypeDesc} {X Y : Value}, P.underlying t = some d → xv = X → yv = Y → (∀ d : Nat, (Op.equalIn (d + 1) t X Y).run P w = .ok b w) → (Op.equal t xv yv).run P w = .ok b w := fun _ h1 h2 h => by rw [h1, h2]; exact h 9999
  unfold nilCmp at h
  split at h
  all_goals first
    | (cases h; done)
    | skip
  · rename_i e l o hu
    simp only [Option.some.injEq] at h
    subst h
    simp only [Rep] at hx hy
    obtain ⟨rfl, _⟩ := hx
    obtain ⟨rfl, _⟩ := hy
    exact ⟨fun s => by simp [eqGuard], fun s => by simp [eqGuard], key hu rfl rfl (fun d => by simp [Op.equalIn, run_underlying hu]), rfl, rfl⟩
  · rename_i e cs hu
    simp only [Option.some.injEq] at h
    subst h
    simp only [Rep] at hx hy
    obtain ⟨b, o, vals, rfl, _⟩ := hx
    obtain ⟨rfl, _⟩ := hy
    exact ⟨fun s => by simp [eqGuard], fun s => by simp [eqGuard], key hu rfl rfl (fun d => by simp [Op.equalIn, run_underlying hu]), rfl, rfl⟩
  · rename_i e l o hu
    simp only [Option.some.injEq] at h
    subst h
    simp only [Rep] at hx hy
    obtain ⟨rfl, _⟩ := hx
    obtain ⟨rfl, _⟩ := hy
    exact ⟨fun s => by simp [eqGuard], fun s => by simp [eqGuard], key hu rfl rfl (fun d => by simp [Op.equalIn, run_underlying hu]), rfl, rfl⟩
  · rename_i e cs hu
    simp only [Option.some.injEq] at h
    subst h
    simp only [Rep] at hx hy
    obtain ⟨rfl, _⟩ := hx
    obtain ⟨b, o, vals, rfl, _⟩ := hy
    exact ⟨fun s => by simp [eqGuard], fun s => by simp [eqGuard], key hu rfl rfl (fun d => by simp [Op.equalIn, run_underlying hu]), rfl, rfl⟩
  · rename_i e hu
    simp only [Option.some.injEq] at h
    subst h
    have hn : ∀ {v : Value}, Rep g (.row [] .nil) v → v = .slice none 0 0 := fun {v} hv => by
      simp only [Rep] at hv
      rcases hv with ⟨_, rfl, _⟩ | ⟨b, o, sz, cap, vals, _, _, _, _, _, h6⟩
      · rfl
      · exact h6.elim
    obtain rfl := hn hx
    obtain rfl := hn hy
    exact ⟨fun s => by simp [eqGuard], fun s => by simp [eqGuard], key hu rfl rfl (fun d => by simp [Op.equalIn, run_underlying hu]), rfl, rfl⟩
  · rename_i e xs t' hu
    simp only [Option.some.injEq] at h
    subst h
    have hn : yv = .slice none 0 0 := by
      simp only [Rep] at hy
      rcases hy with ⟨_, rfl, _⟩ | ⟨b, o, sz, cap, vals, _, _, _, _, _, h6⟩
      · rfl
      · exact h6.elim
    obtain rfl := hn
    simp only [Rep] at hx
    rcases hx with ⟨_, _, h3⟩ | ⟨b, o, sz, cap, vals, rfl, _⟩
    · exact h3.elim
    · exact ⟨fun s => by simp [eqGuard], fun s => by simp [eqGuard], key hu rfl rfl (fun d => by simp [Op.equalIn, run_underlying hu]), rfl, rfl⟩
  · rename_i e l sz off len hu
    simp only [Option.some.injEq] at h
    subst h
    have hn : yv = .slice none 0 0 := by
      simp only [Rep] at hy
      rcases hy with ⟨_, rfl, _⟩ | ⟨b, o, sz, cap, vals, _, _, _, _, _, h6⟩
      · rfl
      · exact h6.elim
    obtain rfl := hn
    simp only [Rep] at hx
    obtain ⟨cap, rfl, _⟩ := hx
    exact ⟨fun s => by simp [eqGuard], fun s => by simp [eqGuard], key hu rfl rfl (fun d => by simp [Op.equalIn, run_underlying hu]), rfl, rfl⟩
  · rename_i p r v f x1 x2 hu
    simp only [Option.some.injEq] at h
    subst h
    simp only [Rep] at hx hy
    obtain ⟨va, vb, rfl, _⟩ := hx
    obtain ⟨rfl, _⟩ := hy
    exact ⟨fun s => by simp [eqGuard], fun s => by simp [eqGuard], key hu rfl rfl (fun d => by simp [Op.equalIn, run_underlying hu]), rfl, rfl⟩
  · rename_i ms t' q hu
    simp only [Option.some.injEq] at h
    subst h
    simp only [Rep] at hx hy
    obtain ⟨u, rfl, _⟩ := hx
    obtain ⟨rfl, _⟩ := hy
    exact ⟨fun s => by simp [eqGuard], fun s => by simp [eqGuard], key hu rfl rfl (fun d => by simp [Op.equalIn, run_underlying hu]), rfl, rfl⟩
theorem evIntCmp_ok {op : BinOp} {t t' : TypeId} {x y : Operand} {o : Oper} {p : PV} (ho : o.op = .binOp op t x y t') (h : evIntCmp op (PV.ev tm x) (PV.ev tm y) = some p) (ht : Reps g tm a.tmps.toList) :
    ∃ v, (execOp a.eval o).run P w = .ok (.value v) w ∧ Rep g p v := by
  unfold evIntCmp at h
  split at h
  · rename_i k m j n hx hy
    have h1 := Rep.ev ht x
    have h2 := Rep.ev ht y
    rw [hx] at h1
    rw [hy] at h2
    simp only [Rep] at h1 h2
    split at h
    · rename_i hk
      subst hk
      have key : ∀ b : Bool, (execOp a.eval o).run P w = .ok (.value (.bool b)) w → ∃ v, (execOp a.eval o).run P w = .ok (.value v) w ∧ Rep g (.v (.bool b)) v := fun b hb => ⟨_, hb, Rep.ofFlat rfl⟩
      cases op <;> simp only [reduceCtorEq, Option.some.injEq] at h <;> subst h <;> refine key _ ?_ <;> simp [execOp, ho, eqGuard, binOp, Op.intCmp, h1.1, h2.1, GT.gt, GE.ge, Int.not_lt, ← decide_not]
    · cases h
  · cases h
theorem evNilCmp_ok {op : BinOp} {t t' : TypeId} {x y : Operand} {o : Oper} {p : PV} (ho : o.op = .binOp op t x y t') (h : evNilCmp P op t (PV.ev tm x) (PV.ev tm y) = some p) (ht : Reps g tm a.tmps.toList) :
    ∃ v, (execOp a.eval o).run P w = .ok (.value v) w ∧ Rep g p v := by
  unfold evNilCmp at h
  split at h
  · rename_i r hr
    simp only [Option.some.injEq] at h
    subst h
    exact evIntCmp_ok ho hr ht
  rename_i hno; clear hno
  split at h
  · rename_i b hb
    simp only [Option.some.injEq] at h
    subst h
    obtain ⟨h1, h2, h3, h4, h5⟩ := nilCmp_ok (w := w) hb (Rep.ev ht x) (Rep.ev ht y) x y
    refine ⟨.bool b, ?_, Rep.ofFlat rfl⟩
    simp only [execOp, ho, Sem.run_bind, h1, h4, h3, Result.andThen_ok, Sem.run_pure]
  · rename_i b hb
    simp only [Option.some.injEq] at h
    subst h
    obtain ⟨h1, h2, h3, h4, h5⟩ := nilCmp_ok (w := w) hb (Rep.ev ht x) (Rep.ev ht y) x y
    refine ⟨.bool (!b), ?_, Rep.ofFlat rfl⟩
    simp only [execOp, ho, Sem.run_bind, h2, h5, h3, Result.andThen_ok, Sem.run_pure]
  · cases h
theorem bytes_fold (ns : List Int) : ∀ acc : ByteArray, ns.foldl (fun (r : ByteArray) n => r.push (UInt8.ofNat n.toNat)) acc = ⟨acc.data ++ (ns.map fun n => UInt8.ofNat n.toNat).toArray⟩ := by
  induction ns with
  | nil => intro acc; cases acc; simp
  | cons n ns ih =>
    intro acc
    rw [List.foldl_cons, ih]
    congr 1
    show (acc.data.push _) ++ _ = _
    simp
theorem bytes_of {xs : List (List PV)} {bs : List UInt8} (h : xs.mapM byteOf = some bs) : ∃ ns : List Int, xs = ns.map (fun n => [PV.v (.int .u8 n)]) ∧ bs = ns.map fun n => UInt8.ofNat n.toNat := by
  induction xs generalizing bs with
  | nil => simp at h; exact ⟨[], rfl, h⟩
  | cons c xs ih =>
    simp only [List.mapM_cons, Option.bind_eq_bind, Option.bind_eq_some_iff, Option.pure_def, Option.some.injEq] at h
    obtain ⟨b, hb, bs', hbs, rfl⟩ := h
    obtain ⟨ns, h1, h2⟩ := ih hbs
    unfold byteOf at hb
    split at hb
    · rename_i n
      simp only [Option.some.injEq] at hb
      exact ⟨n :: ns, by simp [h1], by simp [h2, hb]⟩
    · cases hb
theorem Reps.bytes {ns : List Int} : ∀ {vals : List Value}, Reps g (ns.map (fun n => [PV.v (.int .u8 n)])).flatten vals → vals = ns.map (Value.int .u8) := by
  induction ns with
  | nil => intro vals h; simpa [Reps] using h
  | cons n ns ih =>
    intro vals h
    simp only [List.map_cons, List.flatten_cons, List.singleton_append, Reps, Rep] at h
    obtain ⟨v, vs, rfl, ⟨rfl, _⟩, h⟩ := h
    rw [ih h]
    rfl
theorem convert_ok (hs : SR B g st w) {s d : TypeId} {x p : PV} {xv : Value} (h : evConvert P s d x = some p) (hx : Rep g x xv) : ∃ v, (convert s d xv).run P w = .ok v w ∧ Rep g p v := by
  unfold evConvert at h
  split at h
  · rename_i e xs f hu hd
    split at h
    · rename_i he
      simp only [Option.map_eq_some_iff] at h
      obtain ⟨bs, hbs, rfl⟩ := h
      obtain ⟨ns, rfl, rfl⟩ := bytes_of hbs
      refine ⟨.string ⟨(ns.map fun n => UInt8.ofNat n.toNat).toArray⟩, ?_, Rep.ofFlat rfl⟩
      simp only [Rep] at hx
      rcases hx with ⟨hns, rfl, _⟩ | ⟨b, o, sz, cap, vals, rfl, h2, h3, h4, h5, h6⟩
      · have : ns = [] := by simpa using hns
        subst this
        rw [run_convert_bytes_string w s d e none 0 0 hu he hd]
        simp [Conv.bytesToString]
        try rfl
      · have hr := Repss_iff.1 h4
        have hvals := hr.bytes
        rw [run_convert_bytes_string w s d e _ _ _ hu he hd]
        rw [run_bytesToString w ⟨b, o, none⟩ _ cap ns]
        · rw [bytes_fold]; simp; try rfl
        · have hl := load_cells (P := P) (w := w) (b := b) (o := o) (vals := vals) (fun j u hj => hs.im _ _ _ (h3 j u hj))
          rw [hvals] at hl
          simpa using hl
    · cases h
  · cases h
end ops
end Go.Proofs.YtlkaoiceehlkmaaVE
