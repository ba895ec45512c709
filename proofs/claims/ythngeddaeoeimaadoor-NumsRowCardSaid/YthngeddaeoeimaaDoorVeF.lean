import Derived.Test.YthngeddaeoeimaaDoorVeE
namespace Go.Proofs.YthngeddaeoeimaaDoorVE
open Go Go.RowKit
set_option linter.unusedVariables false
set_option linter.unusedSimpArgs false

/-! Rows whose elements are of one size. -/
theorem szOk_iff {n : Nat} {xs : List (List PV)} : szOk n xs = true ↔ ∀ c ∈ xs, c.length = n := by simp [szOk]
theorem flat_len {n : Nat} : ∀ {xs : List (List PV)}, (∀ c ∈ xs, c.length = n) → xs.flatten.length = xs.length * n
  | [], _ => by simp
  | c :: xs, h => by
    rw [List.flatten_cons, List.length_append, h c (by simp), flat_len (fun d hd => h d (by simp [hd])), List.length_cons, Nat.succ_mul, Nat.add_comm]
theorem flat_drop {n : Nat} : ∀ {xs : List (List PV)}, (∀ c ∈ xs, c.length = n) → ∀ i, (xs.drop i).flatten = xs.flatten.drop (i * n)
  | [], _, i => by simp
  | c :: xs, h, 0 => by simp
  | c :: xs, h, i + 1 => by
    have hc := h c (by simp)
    rw [List.drop_succ_cons, flat_drop (fun d hd => h d (by simp [hd])) i, List.flatten_cons, Nat.succ_mul, Nat.add_comm, ← List.drop_drop, ← hc, List.drop_left]
theorem flat_take {n : Nat} : ∀ {xs : List (List PV)}, (∀ c ∈ xs, c.length = n) → ∀ i, (xs.take i).flatten = xs.flatten.take (i * n)
  | [], _, i => by simp
  | c :: xs, h, 0 => by simp
  | c :: xs, h, i + 1 => by
    have hc := h c (by simp)
    rw [List.take_succ_cons, List.flatten_cons, flat_take (fun d hd => h d (by simp [hd])) i, List.flatten_cons, Nat.succ_mul, Nat.add_comm, ← hc, List.take_length_add_append]
theorem flat_set {n : Nat} {d : List PV} (hd : d.length = n) : ∀ {xs : List (List PV)}, (∀ c ∈ xs, c.length = n) → ∀ i, i < xs.length → (xs.set i d).flatten = setAt xs.flatten (i * n) d
  | c :: xs, h, 0, _ => by
    have hc := h c (by simp)
    simp [setAt, hd, ← hc]
  | c :: xs, h, i + 1, hi => by
    have hc := h c (by simp)
    rw [List.set_cons_succ, List.flatten_cons, flat_set hd (fun e he => h e (by simp [he])) i (by simpa using hi), List.flatten_cons]
    unfold setAt
    rw [Nat.succ_mul, Nat.add_comm (i * n) n, ← hc, List.take_length_add_append, Nat.add_assoc, List.drop_length_add_append]
    simp
theorem flat_at {n : Nat} {xs : List (List PV)} (h : ∀ c ∈ xs, c.length = n) {i : Nat} {c : List PV} (hc : xs[i]? = some c) : (xs.flatten.drop (i * n)).take n = c := by
  have hi := (List.getElem?_eq_some_iff.1 hc)
  rw [← flat_drop h, List.drop_eq_getElem_cons hi.1, List.flatten_cons, hi.2]
  have := h c (List.mem_of_getElem? hc)
  rw [← this, List.take_left]
theorem set_len {n : Nat} {xs : List (List PV)} {i : Nat} {d : List PV} (h : ∀ c ∈ xs, c.length = n) (hd : d.length = n) : ∀ c ∈ xs.set i d, c.length = n := fun c hc => by
  rcases List.mem_or_eq_of_mem_set hc with hc | rfl
  · exact h c hc
  · exact hd
theorem flat_rep {α : Type} (l : List α) : ∀ k j, (List.replicate k l).flatten[j]? = if j < k * l.length then l[j % l.length]? else none
  | 0, j => by simp
  | k + 1, j => by
    rw [List.replicate_succ, List.flatten_cons, List.getElem?_append, flat_rep l k]
    by_cases h : j < l.length
    · rw [if_pos h, if_pos (by rw [Nat.succ_mul]; omega), Nat.mod_eq_of_lt h]
    · have hm : j % l.length = (j - l.length) % l.length := Nat.mod_eq_sub_mod (by omega)
      rw [if_neg h, Nat.succ_mul, hm]
      by_cases h2 : j - l.length < k * l.length
      · rw [if_pos h2, if_pos (by omega)]
      · rw [if_neg h2, if_neg (by omega)]
theorem made_flat (z : Array Value) (k : Nat) (hz : 0 < z.size) : (madeCells z (k * z.size)).toList = (List.replicate k z.toList).flatten := by
  apply List.ext_getElem?
  intro j
  rw [flat_rep, Array.length_toList]
  unfold madeCells
  by_cases h : j < k * z.size
  · have h2 : j % z.size < z.size := Nat.mod_lt _ hz
    rw [if_pos h]
    simp [h, getElem!_pos z (j % z.size) h2, Array.getElem?_eq_getElem h2]
  · rw [if_neg h]
    simp
    omega
theorem Reps.reps {g : Gh} {c : List PV} {vs : List Value} (h : Reps g c vs) : ∀ k, Reps g (List.replicate k c).flatten (List.replicate k vs).flatten
  | 0 => by simp [Reps]
  | k + 1 => by simp only [List.replicate_succ, List.flatten_cons]; exact h.append (Reps.reps h k)

section rows
variable {P : Program} {B : Base} {g : Gh} {st : St} {w : World} {wr : Wr}
theorem mkRow_ok (hs : SR B g st w) (wr : Wr) (ref : Bool) {n : Nat} {xs : List (List PV)} (hn : ∀ c ∈ xs, c.length = n) {arr : Array Value} (hr : Reps g xs.flatten arr.toList) (e : TypeId) :
    ∃ g', Fr B wr g st w g' (mkRow ref n xs st).2 (w.alloc (.cells arr e)) ∧ SR B g' (mkRow ref n xs st).2 (w.alloc (.cells arr e)) ∧ Rep g' (mkRow ref n xs st).1 (.slice (some ⟨w.heap.size, 0, none⟩) xs.length xs.length) := by
  have hsz : arr.size = xs.length * n := by rw [← Array.length_toList, hr.length, flat_len hn]
  unfold mkRow
  cases ref with
  | true =>
    simp only [if_true]
    refine ⟨_, Fr.newLoc hs xs.flatten arr.size _, SR.newLoc hs hr arr e (by simp) (fun j v hj => by simpa using hj), ?_⟩
    rw [Rep, ← hs.nl]
    refine ⟨xs.length, by simp [Gh.newLoc], by simp [Gh.newLoc], Nat.le_refl _, by simp [Gh.newLoc, hsz]⟩
  | false =>
    simp only [Bool.false_eq_true, if_false]
    refine ⟨_, Fr.newRow hs arr.toList _, SR.newRow hs arr.toList arr e (fun j v hj => by simpa using hj), ?_⟩
    rw [Rep]
    exact .inr ⟨w.heap.size, 0, n, xs.length, arr.toList, rfl, hn, im_newRow g _ _, Repss_iff.2 (Reps.mono (le_newRow hs _) _ _ hr), Nat.le_refl _, rfl⟩
theorem rowFill_ok {n : Nat} : ∀ {ps : List (Nat × PV)} {vs : List (Nat × Value)} {xs out : List (List PV)} {arr : Array Value},
    rowParts n xs ps = some out → (∀ c ∈ xs, c.length = n) → Reps g xs.flatten arr.toList → ps.length = vs.length → (∀ (j : Nat) (p : Nat × PV) (v : Nat × Value), ps[j]? = some p → vs[j]? = some v → p.1 = v.1 ∧ Rep g p.2 v.2) →
    ∃ arr', Instr.fill (fun i => some (i * n, n)) arr vs = some arr' ∧ Reps g out.flatten arr'.toList ∧ (∀ c ∈ out, c.length = n) ∧ out.length = xs.length
  | [], [], xs, out, arr, h, hx, hr, _, _ => by
    simp only [rowParts, Option.some.injEq] at h
    subst h
    exact ⟨arr, rfl, hr, hx, rfl⟩
  | [], _ :: _, _, _, _, _, _, _, hl, _ => by simp at hl
  | _ :: _, [], _, _, _, _, _, _, hl, _ => by simp at hl
  | (i, p) :: ps, (i', v) :: vs, xs, out, arr, h, hx, hr, hl, hp => by
    obtain ⟨hi, hv⟩ := hp 0 (i, p) (i', v) rfl rfl
    simp only at hi hv
    subst hi
    simp only [rowParts] at h
    split at h
    · rename_i hc
      obtain ⟨h1, h2, h3⟩ := hc
      have hcells := hv.cells h3
      have hlen := hcells.length
      have hsz : v.cells.size = n := by rw [← Array.length_toList, hlen, h1]
      have harr : arr.size = xs.length * n := by rw [← Array.length_toList, hr.length, flat_len hx]
      have hin : i * n + n ≤ arr.size := by rw [harr, ← Nat.succ_mul]; exact Nat.mul_le_mul_right n h2
      have hset : (v.cells.zipIdx.foldl (fun (cs : Array Value) (x : Value × Nat) => cs.setIfInBounds (i * n + x.2) x.1) arr).toList = arr.toList.take (i * n) ++ v.cells.toList ++ arr.toList.drop (i * n + v.cells.size) := by
        have := foldl_set (i * n) v.cells.toList 0 arr (by simp; omega)
        rw [← Array.foldl_toList, Array.toList_zipIdx]
        simpa using this
      have hstrip : (p.cells.map PV.strip).length = n := by simp [h1]
      obtain ⟨arr', h5, h6, h7, h8⟩ := rowFill_ok (arr := v.cells.zipIdx.foldl (fun (cs : Array Value) (x : Value × Nat) => cs.setIfInBounds (i * n + x.2) x.1) arr) h (set_len hx hstrip)
        (by rw [hset, flat_set hstrip hx i h2]; unfold setAt; rw [hstrip, hsz]; exact ((hr.take _).append (hcells.map fun _ _ h => h.strip)).append (hr.drop _)) (by simpa using hl)
        (fun j q u hq hu => hp (j + 1) q u (by simpa using hq) (by simpa using hu))
      refine ⟨arr', ?_, h6, h7, by rw [h8]; simp⟩
      simp only [Instr.fill]
      rw [if_neg (by simp [hsz]; omega)]
      exact h5
    · cases h
theorem buildSlice_ok (hs : SR B g st w) (wr : Wr) {ref : Bool} {t : TypeId} {len : Nat} {ps : List (Nat × PV)} {vs : Array (Nat × Value)} {p : PV} {st' : St} (h : evBuildSlice P ref t len ps st = some (p, st'))
    (hl : ps.length = vs.size) (hp : ∀ (j : Nat) (p : Nat × PV) (v : Nat × Value), ps[j]? = some p → vs[j]? = some v → p.1 = v.1 ∧ Rep g p.2 v.2) :
    ∃ v w' g', (Instr.buildSlice t len vs).run P w = .ok v w' ∧ Fr B wr g st w g' st' w' ∧ SR B g' st' w' ∧ Rep g' p v := by
  unfold evBuildSlice at h
  split at h
  · rename_i e he
    have hu := tyElem_under he
    split at h
    · rename_i n z hn hz
      obtain ⟨ie, hie, rfl⟩ := tySize_info hn
      obtain ⟨i, zv, hi, hzv, rfl⟩ := zero_run hz
      rw [hie] at hi
      cases hi
      split at h
      · rename_i hc
        obtain ⟨h1, h2, h3, h4⟩ := hc
        simp only [Option.map_eq_some_iff] at h
        obtain ⟨out, hf, hm⟩ := h
        have hzs : zv.cells.size = ie.size := by simpa using h1
        have hx0 : ∀ c ∈ List.replicate len (zv.cells.toList.map ofC), c.length = ie.size := fun c hc => by rw [List.eq_of_mem_replicate hc]; exact h1
        have hmade : Reps g (List.replicate len (zv.cells.toList.map ofC)).flatten (madeCells zv.cells (len * ie.size)).toList := by
          rw [← hzs, made_flat zv.cells len (by omega)]
          exact (Reps.zero g _).reps len
        obtain ⟨arr', h5, h6, h7, h8⟩ := rowFill_ok (vs := vs.toList) hf hx0 hmade (by simpa using hl) (fun j p v h1 h2 => hp j p v h1 (by simpa using h2))
        have hlen : out.length = len := by rw [h8]; simp
        obtain ⟨g', h9, h10, h11⟩ := mkRow_ok hs wr ref h7 h6 e
        rw [hm] at h9 h10 h11
        rw [hlen] at h11
        refine ⟨_, _, g', ?_, h9, h10, h11⟩
        have hlim : ¬ (2 ^ 24 < len * ie.size) := by omega
        by_cases h0 : len * ie.size = 0
        · have hl0 : len = 0 := by
            rcases Nat.mul_eq_zero.1 h0 with h | h
            · exact h
            · omega
          subst hl0
          have hm0 : madeCells zv.cells (0 * ie.size) = #[] := by simp [madeCells]
          rw [hm0] at h5
          simp [Instr.buildSlice, run_underlying hu, sizeOf, typeInfo, hie, h5, run_newRow, show Array.range 0 = #[] from rfl]
        · have h5' : Instr.fill (fun i => some (i * ie.size, ie.size)) (Array.map (fun x => zv.cells[x % zv.cells.size]!) (Array.range (len * ie.size))) vs.toList = some arr' := h5
          simp [Instr.buildSlice, run_underlying hu, sizeOf, typeInfo, hie, zeroValue, hzv, h0, hlim, h5', run_newRow]
      · cases h
    · cases h
  · cases h
theorem asI_rep {p : PV} {v : Value} {i : Int} (h : asI p = some i) (hr : Rep g p v) : ∃ k, v = .int k i := by
  unfold asI at h
  split at h
  · rename_i k n
    simp only [Option.some.injEq] at h
    subst h
    simp only [Rep] at hr
    exact ⟨k, hr.1⟩
  · cases h
theorem makeSlice_ok (hs : SR B g st w) (wr : Wr) {ref : Bool} {t : TypeId} {l c p : PV} {lv cv : Value} {st' : St} (h : evMakeSlice P ref t l c st = some (p, st')) (hl : Rep g l lv) (hc : Rep g c cv) :
    ∃ v w' g', (Instr.makeSlice t lv cv).run P w = .ok v w' ∧ Fr B wr g st w g' st' w' ∧ SR B g' st' w' ∧ Rep g' p v := by
  unfold evMakeSlice at h
  split at h
  · rename_i e li ci he hli hci
    have hu := tyElem_under he
    obtain ⟨kl, rfl⟩ := asI_rep hli hl
    obtain ⟨kc, rfl⟩ := asI_rep hci hc
    split at h
    · rename_i i z hi hz
      obtain ⟨i', zv, hi', hzv, rfl⟩ := zero_run hz
      rw [hi] at hi'
      cases hi'
      split at h
      · rename_i hcond
        obtain ⟨rfl, h1, h2, h3, h4, h5, h6⟩ := hcond
        simp only [Option.some.injEq] at h
        have hzs : zv.cells.size = i.size := by simpa using h4
        have hrun := run_make (P := P) w t e i zv hu hi hzv kl kc li li h1 (Int.le_refl _) (by omega) h2
        have hx0 : ∀ c ∈ List.replicate li.toNat (zv.cells.toList.map ofC), c.length = i.size := fun c hc => by rw [List.eq_of_mem_replicate hc]; exact h4
        have hmade : Reps g (List.replicate li.toNat (zv.cells.toList.map ofC)).flatten (madeCells zv.cells (li.toNat * i.size)).toList := by
          rw [← hzs, made_flat zv.cells li.toNat (by omega)]
          exact (Reps.zero g _).reps _
        obtain ⟨g', h9, h10, h11⟩ := mkRow_ok hs wr ref hx0 hmade e
        rw [h] at h9 h10 h11
        simp only [List.length_replicate] at h11
        exact ⟨_, _, g', hrun, h9, h10, h11⟩
      · cases h
    · cases h
  · cases h
theorem fieldOf_some {s : TypeId} {i off : Nat} {t : TypeId} (h : fieldOf P s i = some (off, t)) : ∃ fs f, P.underlying s = some (.struct fs) ∧ fs[i]? = some f ∧ f.offset = off ∧ f.type = t := by
  unfold fieldOf at h
  split at h
  · rename_i fs hu
    simp only [Option.map_eq_some_iff, Prod.mk.injEq] at h
    obtain ⟨f, h1, h2, h3⟩ := h
    exact ⟨fs, f, hu, h1, h2, h3⟩
  · cases h
theorem fieldAddr_ok {s : TypeId} {i : Nat} {x p : PV} {xv : Value} (h : evFieldAddr P s x i = some p) (hx : Rep g x xv) : ∃ v, (Instr.fieldAt s xv i).run P w = .ok v w ∧ Rep g p v := by
  unfold evFieldAddr at h
  split at h
  · rename_i off t hf
    obtain ⟨fs, f, hu, hfi, rfl, rfl⟩ := fieldOf_some hf
    split at h
    · rename_i n l o hn
      simp only [Option.some.injEq] at h
      subst h
      simp only [Rep] at hx
      obtain ⟨rfl, hl⟩ := hx
      refine ⟨_, ?_, by rw [Rep]; exact ⟨rfl, hl⟩⟩
      simp [Instr.fieldAt, run_underlying hu, hfi, Instr.sureAddr, fieldPlace, run_size hn, Addr.add_lit, Nat.add_assoc]
    · rename_i n cs hn
      simp only [Option.some.injEq] at h
      subst h
      simp only [Rep] at hx
      obtain ⟨b, o, vals, rfl, h2, h3⟩ := hx
      refine ⟨.pointer (some ⟨b, o + f.offset, none⟩), ?_, by rw [Rep]; exact ⟨b, o + f.offset, vals.drop f.offset, rfl, fun j u hj => by rw [List.getElem?_drop] at hj; have := h2 _ u hj; rwa [← Nat.add_assoc] at this, h3.drop _⟩⟩
      simp [Instr.fieldAt, run_underlying hu, hfi, Instr.sureAddr, fieldPlace, run_size hn, Addr.add_lit]
    · cases h
  · cases h
theorem part_ok {t : TypeId} {cs : List PV} {off : Nat} {p : PV} {vs : List Value} (h : partOf P t cs off = some p) (hr : Reps g cs vs) : ∃ v, (part t vs.toArray off).run P w = .ok v w ∧ Rep g p v := by
  unfold partOf at h
  split at h
  · rename_i n b hn hb
    split at h
    · rename_i hbt
      subst hbt
      split at h
      · rename_i hle
        simp only [Option.some.injEq] at h
        subst h
        refine ⟨.agg ((vs.drop off).take n).toArray, ?_, by rw [Rep]; exact ⟨_, rfl, (hr.drop off).take n⟩⟩
        simp [part, run_agg hb, run_size hn, List.extract_eq_take_drop]
      · cases h
    · rename_i hbf
      have : b = false := by simpa using hbf
      subst this
      have hlt := (List.getElem?_eq_some_iff.1 h).1
      have hv : vs[off]? = some (vs.getD off undef) := by
        have : off < vs.length := by rw [hr.length]; exact hlt
        simp [List.getD, this]
      refine ⟨vs.getD off undef, ?_, hr.get h hv⟩
      simp only [part, Sem.run_bind, run_agg hb, Result.andThen_ok, List.getElem?_toArray, hv]
      rfl
  · cases h
theorem field_ok {s : TypeId} {i : Nat} {x p : PV} {xv : Value} (h : evField P s x i = some p) (hx : Rep g x xv) : ∃ v, (Instr.field s xv i).run P w = .ok v w ∧ Rep g p v := by
  unfold evField at h
  split at h
  · rename_i off t cs hf
    obtain ⟨fs, f, hu, hfi, rfl, rfl⟩ := fieldOf_some hf
    simp only [Rep] at hx
    obtain ⟨vs, rfl, hr⟩ := hx
    obtain ⟨v, h1, h2⟩ := part_ok (P := P) (w := w) h hr
    refine ⟨v, ?_, h2⟩
    simp [Instr.field, run_underlying hu, hfi, asAgg, h1]
  · cases h
theorem index_ok {t : TypeId} {x i p : PV} {xv iv : Value} (h : evIndex P t x i = some p) (hx : Rep g x xv) (hi : Rep g i iv) : ∃ v, (Instr.index t xv iv).run P w = .ok v w ∧ Rep g p v := by
  unfold evIndex at h
  split at h
  · rename_i n len e cs hn hu
    obtain ⟨k, rfl⟩ := asI_rep hn hi
    simp only [Rep] at hx
    obtain ⟨vs, rfl, hr⟩ := hx
    split at h
    · rename_i m hm
      split at h
      · rename_i hc
        obtain ⟨v, h1, h2⟩ := part_ok (P := P) (w := w) h hr
        refine ⟨v, ?_, h2⟩
        simp [Instr.index, asIntOf, run_underlying hu, hc, run_size hm, h1]
      · cases h
    · cases h
  · cases h
theorem indexAddr_ok {t : TypeId} {x i p : PV} {xv iv : Value} (h : evIndexAddr P t x i = some p) (hx : Rep g x xv) (hi : Rep g i iv) : ∃ v, (Instr.indexAt t xv iv).run P w = .ok v w ∧ Rep g p v := by
  unfold evIndexAddr at h
  split at h
  · cases h
  · rename_i n hn
    obtain ⟨k, rfl⟩ := asI_rep hn hi
    split at h
    · rename_i e xs f hu
      split at h
      · rename_i m hm
        split at h
        · rename_i h0
          split at h
          · rename_i c hc
            split at h
            · rename_i hcl
              simp only [Option.some.injEq] at h
              subst h
              have hlt := (List.getElem?_eq_some_iff.1 hc).1
              simp only [Rep] at hx
              rcases hx with ⟨rfl, _⟩ | ⟨b, o, sz, cap, vals, rfl, h2, h3, h4, h5, h6⟩
              · simp at hlt
              · have hsz : sz = m := by rw [← hcl]; exact (h2 c (List.mem_of_getElem? hc)).symm
                subst hsz
                have hr := Repss_iff.1 h4
                refine ⟨.pointer (some ⟨b, o + n.toNat * sz, none⟩), ?_, ?_⟩
                rotate_left
                · rw [Rep]
                  refine ⟨b, o + n.toNat * sz, (vals.drop (n.toNat * sz)).take sz, rfl, fun j u hj => ?_, ?_⟩
                  rotate_left
                  · have := (hr.drop (n.toNat * sz)).take sz
                    rwa [flat_at h2 hc] at this
                  · rw [List.getElem?_take] at hj
                    split at hj
                    · rw [List.getElem?_drop] at hj
                      have := h3 _ u hj
                      rwa [← Nat.add_assoc] at this
                    · cases hj
                · have hb : 0 ≤ n ∧ n < (xs.length : Int) := by omega
                  simp [Instr.indexAt, asIntOf, run_underlying hu, run_size hm, hb, Addr.add_lit]
            · cases h
          · cases h
        · cases h
      · cases h
    · rename_i e l sz off len hu
      split at h
      · rename_i m hm
        split at h
        · rename_i hc
          obtain ⟨rfl, h0, h1⟩ := hc
          simp only [Option.some.injEq] at h
          subst h
          simp only [Rep] at hx
          obtain ⟨cap, rfl, h3, h4, h5⟩ := hx
          refine ⟨_, ?_, by rw [Rep]; exact ⟨rfl, h3⟩⟩
          simp [Instr.indexAt, asIntOf, run_underlying hu, run_size hm, h0, h1, Addr.add_lit, Nat.add_assoc]
        · cases h
      · cases h
    · rename_i len e l o hu
      split at h
      · rename_i m hm
        split at h
        · rename_i hc
          simp only [Option.some.injEq] at h
          subst h
          simp only [Rep] at hx
          obtain ⟨rfl, hl⟩ := hx
          refine ⟨_, ?_, by rw [Rep]; exact ⟨rfl, hl⟩⟩
          simp [Instr.indexAt, asIntOf, run_underlying hu, run_size hm, hc, Instr.sureAddr, Addr.add_lit, Nat.add_assoc]
        · cases h
      · cases h
    · rename_i len e cs hu
      split at h
      · rename_i m hm
        split at h
        · rename_i hc
          simp only [Option.some.injEq] at h
          subst h
          simp only [Rep] at hx
          obtain ⟨b, o, vals, rfl, h2, h3⟩ := hx
          refine ⟨.pointer (some ⟨b, o + n.toNat * m, none⟩), ?_, by rw [Rep]; exact ⟨b, o + n.toNat * m, vals.drop (n.toNat * m), rfl, fun j u hj => by rw [List.getElem?_drop] at hj; have := h2 _ u hj; rwa [← Nat.add_assoc] at this, h3.drop _⟩⟩
          simp [Instr.indexAt, asIntOf, run_underlying hu, run_size hm, hc, Instr.sureAddr, Addr.add_lit]
        · cases h
      · cases h
    · cases h
end rows
end Go.Proofs.YthngeddaeoeimaaDoorVE
