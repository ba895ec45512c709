import Derived.Test.YthngeddaeoeimaaDoorVeG
namespace Go.Proofs.YthngeddaeoeimaaDoorVE
open Go Go.RowKit
set_option linter.unusedVariables false
set_option linter.unusedSimpArgs false

section append
variable {P : Program} {B : Base} {g : Gh} {st : St} {w : World} {wr : Wr}
theorem SR.less (h : SR B g st w) {l : List Nat} (hl : ∀ t ∈ l, t ∈ st.live) : SR B g { st with live := l } w :=
  ⟨h.nl, h.nt, h.old, h.im, h.mloc, h.mspare, h.loc, fun t ht => h.tok t (hl t ht), h.obj⟩
theorem Fr.less {g' : Gh} {st' : St} {w' : World} (h : Fr B wr g st w g' st' w') {l : List Nat} (hl : ∀ t ∈ l, t ∈ st'.live) : Fr B wr g st w g' { st' with live := l } w' :=
  ⟨h.le, h.below, h.len, h.locs, h.dead, fun t ht hm => h.live t ht (hl t hm), h.keep, h.fz, h.there, h.ol, h.obj⟩
theorem allOne_flat {xs : List (List PV)} (h : allOne xs = true) : xs.flatten.all PV.one = true := by
  unfold allOne at h
  rw [List.all_eq_true] at h ⊢
  intro p hp
  obtain ⟨c, hc, hp⟩ := List.mem_flatten.1 hp
  exact List.all_eq_true.1 (h c hc) p hp
theorem chunk_ok (n : Nat) : ∀ (k : Nat) (cs : List PV), k * n ≤ cs.length → (chunk n k cs).flatten = cs.take (k * n) ∧ (∀ c ∈ chunk n k cs, c.length = n) ∧ (chunk n k cs).length = k
  | 0, cs, _ => ⟨by simp [chunk], (fun c hc => by cases hc), rfl⟩
  | k + 1, cs, h => by
    rw [Nat.succ_mul] at h
    obtain ⟨h1, h2, h3⟩ := chunk_ok n k (cs.drop n) (by simp; omega)
    refine ⟨?_, ?_, by simp [chunk, h3]⟩
    · simp only [chunk, List.flatten_cons, h1]
      rw [Nat.succ_mul, Nat.add_comm (k * n) n, List.take_add]
    · intro c hc
      simp only [chunk, List.mem_cons] at hc
      rcases hc with rfl | hc
      · simp; omega
      · exact h2 c hc
theorem src_ok (hs : SR B g st w) {n : Nat} {tx : TypeId} {x : PV} {xv : Value} {ys : List (List PV)} (h : srcRow P n tx st x = some ys) (hx : Rep g x xv) (ha : allOne ys = true) :
    ∃ news, Src P n tx xv ys.length news w ∧ Reps g ys.flatten news ∧ (∀ c ∈ ys, c.length = n) := by
  have hone := allOne_flat ha
  unfold srcRow at h
  split at h
  · rename_i zs f
    split at h
    · rename_i e hk
      split at h
      · rename_i hsz
        simp only [Option.some.injEq] at h
        subst h
        have hsz' := szOk_iff.1 hsz
        simp only [Rep] at hx
        rcases hx with ⟨rfl, rfl, _⟩ | ⟨b, o, sz, cap, vals, rfl, h2, h3, h4, h5, h6⟩
        · exact ⟨[], Src.ofNil w hk 0, rfl, hsz'⟩
        · have hr := Repss_iff.1 h4
          have hl : vals.length = zs.length * n := by rw [hr.length, flat_len hsz']
          exact ⟨vals, Src.ofSlice w hk ⟨b, o, none⟩ zs.length cap vals hl (fun j u hj => by rw [Addr.add_lit]; exact hs.im _ _ _ (h3 j u hj)) (hr.oneCell hone), hr, hsz'⟩
      · cases h
    · cases h
  · rename_i l m off len
    split at h
    · rename_i cs e hl hk
      split at h
      · rename_i hc
        obtain ⟨rfl, hc2⟩ := hc
        simp only [Option.some.injEq] at h
        subst h
        simp only [Rep] at hx
        obtain ⟨cap, rfl, h3, h4, h5⟩ := hx
        obtain ⟨k1, k2, us, k3, k4⟩ := hs.loc l cs hl
        obtain ⟨c1, c2, c3⟩ := chunk_ok m len (cs.drop off) (by simp; omega)
        rw [c1] at hone
        have hr : Reps g ((cs.drop off).take (len * m)) ((us.drop off).take (len * m)) := (k3.drop off).take _
        have hll : ((us.drop off).take (len * m)).length = len * m := by rw [hr.length]; simp; omega
        refine ⟨(us.drop off).take (len * m), ?_, by rw [c1]; exact hr, c2⟩
        rw [c3]
        refine Src.ofSlice w hk _ len cap _ hll (fun j u hj => ?_) (hr.oneCell hone)
        rw [Addr.add_lit]
        rw [List.getElem?_take] at hj
        split at hj
        · rw [List.getElem?_drop] at hj
          have := k4 _ u hj
          rwa [← Nat.add_assoc] at this
        · cases hj
      · cases h
    · cases h
  · rename_i s
    split at h
    · rename_i hk
      split at h
      · rename_i hn
        subst hn
        simp only [Option.some.injEq] at h
        subst h
        simp only [Rep] at hx
        obtain ⟨rfl, _⟩ := hx
        have hlen : (s.data.toList.map fun b => [bytePV b]).length = s.size := by simp
        refine ⟨byteCells s, ?_, ?_, by intro c hc; obtain ⟨b, _, rfl⟩ := List.mem_map.1 hc; rfl⟩
        · rw [hlen]; exact Src.ofString w hk s
        · have : ∀ l : List UInt8, Reps g (l.map fun b => [bytePV b]).flatten (l.map fun b => Value.int .u8 b.toNat) := by
            intro l
            induction l with
            | nil => rfl
            | cons b l ih =>
              simp only [List.map_cons, List.flatten_cons, List.singleton_append, Reps]
              exact ⟨_, _, rfl, Rep.ofFlat rfl, ih⟩
          exact this _
      · cases h
    · cases h
  · cases h
/-- Behind a draw a new block with all the elements and zeros. -/
structure Grown (P : Program) (w : World) (i : TypeInfo) (e : TypeId) (vals : List Value) (need : Nat) (arr : Array Value) (cap : Nat) : Prop where
  size : arr.size = cap * i.size
  le : need ≤ cap
  at_ : ∀ (j : Nat) (v : Value), vals[j]? = some v → arr[j]? = some v
  len : vals.length = need * i.size
theorem grow_ok {t tx ty e : TypeId} {i : TypeInfo} {z : Value} (ht : P.underlying t = some (.slice e)) (hi : P.info? e = some i) (hz : i.zero = some z) (hzs : z.cells.size = i.size) {base : Option Addr} {sLen sCap : Nat} {olds : List Value}
    (hol : olds.length = sLen * i.size) (hold : (Builtin.firstCells i.size sLen (.slice base sLen sCap)).run P w.drew = .ok olds.toArray w.drew) {x : Value} {n : Nat} {news : List Value} (hsrc : Src P i.size tx x n news w)
    (hg : sCap < sLen + n) (hb : (sLen + n) * i.bytes ≤ 140737488355328) (h63 : sLen + n ≤ 9223372036854775807) :
    ∃ arr cap, (Builtin.append_ #[t, tx] ty #[.slice base sLen sCap, x]).run P w = .ok (.slice (some ⟨w.heap.size, 0, none⟩) (sLen + n) cap) ((w.drewN 1).alloc (.cells arr e)) ∧ Grown P w i e (olds ++ news) (sLen + n) arr cap := by
  have hr := run_append_grow_src (P := P) w t tx ty e i z ht hi hz base sLen sCap olds hold x n news hsrc hg (by omega) (growslice_fits hg hb)
  have hge := grownCap_ge w (sLen + n) sCap e
  refine ⟨_, _, hr, ?_, hge, fun j v hj => ?_, by rw [List.length_append, hol, hsrc.newsLen, Nat.add_mul]⟩
  · simp only [Array.size_append, List.size_toArray, List.length_append, size_zeroCells, hzs, hol, hsrc.newsLen, ← Nat.add_mul]
    congr 1
    omega
  · have hlt := (List.getElem?_eq_some_iff.1 hj).1
    rw [Array.getElem?_append_left (by simpa using hlt)]
    simpa using hj
theorem grown_tok (hs : SR B g st w) {i : TypeInfo} {e : TypeId} {vals : List Value} {need : Nat} {arr : Array Value} {cap : Nat} (hg : Grown P w i e vals need arr cap) {xs : List (List PV)} (hx : ∀ c ∈ xs, c.length = i.size) (hxl : xs.length = need) (hn : 0 < need) (hr : Reps g xs.flatten vals) (wr : Wr) :
    ∃ g', Fr B wr g st w g' (tokSt st) ((w.drewN 1).alloc (.cells arr e)) ∧ SR B g' (tokSt st) ((w.drewN 1).alloc (.cells arr e)) ∧ Rep g' (.row xs (.tok st.next)) (.slice (some ⟨w.heap.size, 0, none⟩) need cap) := by
  have hs1 := hs.draws 1
  refine ⟨_, Fr.trans hs hs1 (Fr.draws B wr g st w 1) (Fr.newTok hs1 vals arr.size _), SR.newTok hs1 vals arr e hg.at_, ?_⟩
  subst hxl
  rw [Rep]
  refine .inr ⟨w.heap.size, 0, i.size, cap, vals, rfl, hx, im_newTok g _ _ _, Repss_iff.2 (Reps.mono (le_newTok hs1 _ _) _ _ hr), hg.le, ?_⟩
  refine ⟨by rw [← hs.nt]; simp [Gh.newTok], hn, ?_⟩
  rw [← hs.nt]
  simp [Gh.newTok, hg.len, hg.size]
theorem grown_ref (hs : SR B g st w) {i : TypeInfo} {e : TypeId} {vals : List Value} {need : Nat} {arr : Array Value} {cap : Nat} (hg : Grown P w i e vals need arr cap) {cs : List PV} (hr : Reps g cs vals) (wr : Wr) :
    ∃ g', Fr B wr g st w g' (YthngeddaeoeimaaDoorVE.newLoc st cs) ((w.drewN 1).alloc (.cells arr e)) ∧ SR B g' (YthngeddaeoeimaaDoorVE.newLoc st cs) ((w.drewN 1).alloc (.cells arr e)) ∧ Rep g' (.ref st.locs.length i.size 0 need) (.slice (some ⟨w.heap.size, 0, none⟩) need cap) := by
  have hs1 := hs.draws 1
  have hle : vals.length ≤ arr.size := by rw [hg.len, hg.size]; exact Nat.mul_le_mul_right _ hg.le
  refine ⟨_, Fr.trans hs hs1 (Fr.draws B wr g st w 1) (Fr.newLoc hs1 cs arr.size _), SR.newLoc hs1 hr arr e hle hg.at_, ?_⟩
  rw [Rep, ← hs.nl]
  refine ⟨cap, by simp [Gh.newLoc], by simp [Gh.newLoc], hg.le, by simp [Gh.newLoc, hg.size]⟩
theorem nothing_ok {t tx ty e : TypeId} {i : TypeInfo} (ht : P.underlying t = some (.slice e)) (hi : P.info? e = some i) {x : Value} (hsrc : Src P i.size tx x 0 [] w) {base : Option Addr} {n cap : Nat} (hc : n ≤ cap) (hb : ∀ a, base = some a → a.spot = none) :
    (Builtin.append_ #[t, tx] ty #[.slice base n cap, x]).run P w = .ok (.slice base n cap) w := by
  cases base with
  | none => rcases hsrc.kind with ⟨e', hk⟩ | hk <;> simp [Builtin.append_, run_underlying ht, run_underlying hk, sizeOf, typeInfo, hi, hsrc.len, hsrc.cells, hc]
  | some a =>
    obtain ⟨b, o, s⟩ := a
    have : s = none := hb _ rfl
    subst this
    have := run_append_room_src (P := P) w t tx ty e i ht hi b o n cap x 0 [] hsrc hc (by simp) (by simp)
    simpa [World.setCells] using this
theorem len_strip {xs : List (List PV)} {n : Nat} (h : ∀ c ∈ xs, c.length = n) : ∀ c ∈ stripRow xs, c.length = n := fun c hc => by
  obtain ⟨d, hd, rfl⟩ := List.mem_map.1 hc
  rw [List.length_map]
  exact h d hd
theorem append_ok (hs : SR B g st w) {ref : Bool} {ts : List TypeId} {ty : TypeId} {s x p : PV} {sv xv : Value} {st' : St} (h : evAppend P ref wr ts s x st = some (p, st')) (hsv : Rep g s sv) (hx : Rep g x xv) :
    ∃ v w' g', (Builtin.append_ ts.toArray ty #[sv, xv]).run P w = .ok v w' ∧ Fr B wr g st w g' st' w' ∧ SR B g' st' w' ∧ Rep g' p v := by
  unfold evAppend at h
  split at h
  · rename_i t tx
    split at h
    · cases h
    · rename_i e he
      have hu := tyElem_under he
      split at h
      · cases h
      · rename_i i hi
        split at h
        · cases h
        · rename_i ys hys
          split at h
          · cases h
          · rename_i hcond
            have hcond : (allOne ys && decide (0 < i.size) && zOk P e i.size) = true := by
              cases hbb : (allOne ys && decide (0 < i.size) && zOk P e i.size) with
              | true => rfl
              | false => rw [hbb] at hcond; exact absurd rfl hcond
            simp only [Bool.and_eq_true, decide_eq_true_eq] at hcond
            obtain ⟨⟨hone, hpos⟩, hzc⟩ := hcond
            obtain ⟨z, hz, hzs⟩ : ∃ z : Value, i.zero = some z ∧ z.cells.size = i.size := by
              unfold zOk at hzc
              split at hzc
              · rename_i cs hcs
                obtain ⟨i', z, hi', hz, rfl⟩ := zero_run hcs
                rw [hi] at hi'
                cases hi'
                exact ⟨z, hz, by simpa using hzc⟩
              · cases hzc
            obtain ⟨news, hsrc, hrn, hyl⟩ := src_ok hs hys hx hone
            split at h
            · rename_i xs f
              split at h
              · rename_i hemp
                have hy0 : ys = [] := by simpa using hemp
                subst hy0
                simp only [Option.some.injEq, Prod.mk.injEq] at h
                obtain ⟨rfl, rfl⟩ := h
                have hn0 : news = [] := by simpa [Reps] using hrn
                subst hn0
                refine ⟨sv, w, g, ?_, Fr.refl .., hs, hsv⟩
                simp only [Rep] at hsv
                rcases hsv with ⟨rfl, rfl, _⟩ | ⟨b, o, sz, cap, vals, rfl, h2, h3, h4, h5, h6⟩
                · exact nothing_ok hu hi hsrc (Nat.le_refl _) (fun a ha => by cases ha)
                · exact nothing_ok hu hi hsrc h5 (fun a ha => by cases ha; rfl)
              · rename_i hne
                have hm : 0 < ys.length := by
                  cases ys with
                  | nil => simp at hne
                  | cons _ _ => simp
                split at h
                · cases h
                · rename_i hb
                  have hb : (decide ((xs.length + ys.length) * i.bytes ≤ 140737488355328) && decide (xs.length + ys.length ≤ 9223372036854775807) && szOk i.size xs) = true := by
                    cases hbb : (decide ((xs.length + ys.length) * i.bytes ≤ 140737488355328) && decide (xs.length + ys.length ≤ 9223372036854775807) && szOk i.size xs) with
                    | true => rfl
                    | false => rw [hbb] at hb; exact absurd rfl hb
                  simp only [Bool.and_eq_true, decide_eq_true_eq] at hb
                  obtain ⟨⟨hbytes, h63⟩, hszx⟩ := hb
                  have hxl := szOk_iff.1 hszx
                  have hall : ∀ c ∈ xs ++ stripRow ys, c.length = i.size := fun c hc => (List.mem_append.1 hc).elim (hxl c) (len_strip hyl c)
                  have hlen : (xs ++ stripRow ys).length = xs.length + ys.length := by simp [stripRow]
                  -- a row that must grow
                  have grow : ∀ {base : Option Addr} {cap : Nat} {olds : List Value}, sv = .slice base xs.length cap → cap < xs.length + ys.length → Reps g xs.flatten olds →
                      (Builtin.firstCells i.size xs.length (.slice base xs.length cap)).run P w.drew = .ok olds.toArray w.drew →
                      ∃ arr c, (Builtin.append_ #[t, tx] ty #[sv, xv]).run P w = .ok (.slice (some ⟨w.heap.size, 0, none⟩) (xs.length + ys.length) c) ((w.drewN 1).alloc (.cells arr e)) ∧ Grown P w i e (olds ++ news) (xs.length + ys.length) arr c ∧
                        Reps g (xs ++ stripRow ys).flatten (olds ++ news) ∧ Reps g (xs.flatten ++ ys.flatten) (olds ++ news) := by
                    intro base cap olds hv hcap ho hold
                    subst hv
                    obtain ⟨arr, c, h1, h2⟩ := grow_ok (P := P) (w := w) (ty := ty) hu hi hz hzs (by rw [ho.length, flat_len hxl]) hold hsrc hcap hbytes h63
                    refine ⟨arr, c, h1, h2, ?_, ho.append hrn⟩
                    rw [List.flatten_append]
                    exact ho.append hrn.stripRow
                  -- nil or full
                  have fresh : ((∃ (_ : notTok f), f = .nil ∨ f = .full)) → (if ref = true then some (PV.ref st.locs.length i.size 0 (xs.length + ys.length), YthngeddaeoeimaaDoorVE.newLoc st (xs.flatten ++ ys.flatten)) else some (PV.row (xs ++ stripRow ys) (.tok st.next), { st with live := st.next :: st.live, next := st.next + 1 })) = some (p, st') →
                      ∃ v w' g', (Builtin.append_ #[t, tx] ty #[sv, xv]).run P w = .ok v w' ∧ Fr B wr g st w g' st' w' ∧ SR B g' st' w' ∧ Rep g' p v := by
                    rintro ⟨_, hf⟩ heq
                    have hgr : ∃ base cap olds, sv = .slice base xs.length cap ∧ cap < xs.length + ys.length ∧ Reps g xs.flatten olds ∧ (Builtin.firstCells i.size xs.length (.slice base xs.length cap)).run P w.drew = .ok olds.toArray w.drew := by
                      simp only [Rep] at hsv
                      rcases hsv with ⟨rfl, rfl, _⟩ | ⟨b, o, sz, cap, vals, rfl, h2, h3, h4, h5, h6⟩
                      · exact ⟨none, 0, [], rfl, by simpa using hm, rfl, by simp [Builtin.firstCells]⟩
                      · rcases hf with rfl | rfl
                        · exact h6.elim
                        · have hr := Repss_iff.1 h4
                          simp only [FlagOk] at h6
                          refine ⟨_, cap, vals, rfl, by omega, hr, ?_⟩
                          exact run_firstCells_some w.drew i.size xs.length ⟨b, o, none⟩ xs.length cap vals (by rw [hr.length, flat_len hxl]) (fun j u hj => by rw [Addr.add_lit]; exact hs.im _ _ _ (h3 j u hj))
                    obtain ⟨base, cap, olds, h1, h2, h3, h4⟩ := hgr
                    obtain ⟨arr, c, h5, h6, h7, h8⟩ := grow h1 h2 h3 h4
                    cases ref with
                    | true =>
                      simp only [if_true, Option.some.injEq, Prod.mk.injEq] at heq
                      obtain ⟨rfl, rfl⟩ := heq
                      obtain ⟨g', k1, k2, k3⟩ := grown_ref hs h6 h8 wr
                      exact ⟨_, _, g', h5, k1, k2, k3⟩
                    | false =>
                      simp only [Bool.false_eq_true, if_false, Option.some.injEq, Prod.mk.injEq] at heq
                      obtain ⟨rfl, rfl⟩ := heq
                      obtain ⟨g', k1, k2, k3⟩ := grown_tok hs h6 hall hlen (by omega) h7 wr
                      exact ⟨_, _, g', h5, k1, k2, k3⟩
                  split at h
                  · cases h
                  · rename_i t'
                    split at h
                    · rename_i hlive
                      have hlive' : t' ∈ st.live := by simpa using hlive
                      simp only [Option.some.injEq, Prod.mk.injEq] at h
                      obtain ⟨rfl, rfl⟩ := h
                      have hsv' := hsv
                      simp only [Rep] at hsv'
                      rcases hsv' with ⟨_, _, hnt⟩ | ⟨b, o, sz, cap, vals, rfl, h2, h3, h4, h5, h6⟩
                      · exact hnt.elim
                      · obtain ⟨h7, h8, h9⟩ := h6
                        have hsz : sz = i.size := by
                          cases xs with
                          | nil => simp at h8
                          | cons c xs => rw [← h2 c (by simp)]; exact hxl c (by simp)
                        subst hsz
                        have hr := Repss_iff.1 h4
                        have hvl : vals.length = xs.length * i.size := by rw [hr.length, flat_len hxl]
                        by_cases hroom : xs.length + ys.length ≤ cap
                        · have hnl := hsrc.newsLen
                          have hfit : o + xs.length * i.size + news.length ≤ o + cap * i.size := by
                            rw [hnl, Nat.add_assoc, ← Nat.add_mul]
                            exact Nat.add_le_add_left (Nat.mul_le_mul_right _ hroom) _
                          have htok := (hs.tok t' hlive').2
                          rw [h9] at htok
                          have hrun := run_append_room_src (P := P) w t tx ty e i hu hi b o xs.length cap xv ys.length news hsrc hroom
                            (fun j hj => (hs.mspare _ _ t' (htok (o + xs.length * i.size + j) (Nat.le_add_right _ _) (by simp only; omega))).2.2.1)
                            (fun j hj => (hs.mspare _ _ t' (htok (o + xs.length * i.size + j) (Nat.le_add_right _ _) (by simp only; omega))).2.2.2)
                          have hle := le_useTok hs hlive' h9 hfit
                          refine ⟨_, _, _, hrun, Fr.useTok hs hlive' h9 hfit, SR.useTok hs hlive' h9 hfit, ?_⟩
                          rw [Rep]
                          refine .inr ⟨b, o, i.size, cap, vals ++ news, by rw [hlen], hall, fun j u hj => ?_, ?_, by rw [hlen]; exact hroom, ?_⟩
                          · rcases Nat.lt_or_ge j vals.length with hj1 | hj1
                            · rw [List.getElem?_append_left hj1] at hj
                              exact hle.im _ _ _ (h3 j u hj)
                            · rw [List.getElem?_append_right hj1] at hj
                              have := im_useTok g t' b (o + xs.length * i.size) (o + cap * i.size) news (j - vals.length) u hj
                              rwa [hvl, show o + xs.length * i.size + (j - xs.length * i.size) = o + j by omega] at this
                          · rw [Repss_iff, List.flatten_append]
                            exact (Reps.mono hle _ _ hr).append (Reps.mono hle _ _ hrn.stripRow)
                          · refine ⟨by rw [← hs.nt]; simp [Gh.useTok], by rw [hlen]; omega, ?_⟩
                            rw [← hs.nt, hlen, Nat.add_mul, ← hnl]
                            simp [Gh.useTok, Nat.add_assoc]
                        · obtain ⟨arr, c, k5, k6, k7, k8⟩ := grow rfl (by omega) hr
                            (run_firstCells_some w.drew i.size xs.length ⟨b, o, none⟩ xs.length cap vals hvl (fun j u hj => by rw [Addr.add_lit]; exact hs.im _ _ _ (h3 j u hj)))
                          obtain ⟨g', m1, m2, m3⟩ := grown_tok hs k6 hall hlen (by omega) k7 wr
                          have hsub : ∀ t ∈ (st.next :: st.live.filter fun u => u != t'), t ∈ (tokSt st).live := fun t ht => by
                            simp only [List.mem_cons, List.mem_filter] at ht
                            simp only [tokSt, List.mem_cons]
                            rcases ht with ht | ht
                            · exact .inl ht
                            · exact .inr ht.1
                          exact ⟨_, _, g', k5, m1.less hsub, m2.less hsub, m3⟩
                    · cases h
                  · rename_i hns hnt
                    refine fresh ⟨?_, ?_⟩ h
                    · cases f with
                      | tok t' => exact absurd rfl (hnt t')
                      | _ => trivial
                    · cases f with
                      | tok t' => exact absurd rfl (hnt t')
                      | sh => exact absurd rfl hns
                      | nil => exact .inl rfl
                      | full => exact .inr rfl
            · rename_i l n off len
              split at h
              · rename_i cs hl
                have hsv' := hsv
                simp only [Rep] at hsv'
                obtain ⟨cap, rfl, h3, h4, h5⟩ := hsv'
                split at h
                · rename_i hemp
                  have hy0 : ys = [] := by simpa using hemp
                  subst hy0
                  simp only [Option.some.injEq, Prod.mk.injEq] at h
                  obtain ⟨rfl, rfl⟩ := h
                  have hn0 : news = [] := by simpa [Reps] using hrn
                  subst hn0
                  exact ⟨_, w, g, nothing_ok hu hi hsrc h4 (fun a ha => by cases ha; rfl), Fr.refl .., hs, hsv⟩
                · split at h
                  · rename_i hc
                    obtain ⟨c1, rfl, c3, c4, c5⟩ := hc
                    simp only [Option.some.injEq, Prod.mk.injEq] at h
                    obtain ⟨rfl, rfl⟩ := h
                    obtain ⟨k1, k2, us, k3, k4⟩ := hs.loc l cs hl
                    have hnl := hsrc.newsLen
                    have hlt := locAt_lt hl
                    have hkl : (killSt st l).locs.length = st.locs.length := by simp [killSt]
                    by_cases hroom : len + ys.length ≤ cap
                    · have hfit : off + len * i.size + news.length ≤ g.ext l := by
                        rw [hnl, Nat.add_assoc, ← Nat.add_mul]
                        exact Nat.le_trans (Nat.add_le_add_left (Nat.mul_le_mul_right _ hroom) _) h5
                      have hrun := run_append_room_src (P := P) w t tx ty e i hu hi (g.base l).1 ((g.base l).2 + off) len cap xv ys.length news hsrc hroom
                        (fun j hj => by
                          have := (hs.mloc _ _ l (k2 (off + len * i.size + j) (by omega))).2.2.1
                          rwa [show (g.base l).2 + (off + len * i.size + j) = (g.base l).2 + off + len * i.size + j by omega] at this)
                        (fun j hj => by
                          have := (hs.mloc _ _ l (k2 (off + len * i.size + j) (by omega))).2.2.2
                          rwa [show (g.base l).2 + (off + len * i.size + j) = (g.base l).2 + off + len * i.size + j by omega] at this)
                      refine ⟨_, _, _, hrun, Fr.moveLoc hs hl hfit c1 _, SR.moveLoc hs hl c3 hrn hfit, ?_⟩
                      rw [Rep, ← hs.nl]
                      refine ⟨cap, by simp [Gh.moveLoc], by simp [Gh.moveLoc], hroom, ?_⟩
                      simp only [Gh.moveLoc, if_true]
                      omega
                    · have hll : ((us.drop off).take (len * i.size)).length = len * i.size := by rw [List.length_take, List.length_drop, k3.length]; omega
                      obtain ⟨arr, c, m1, m2⟩ := grow_ok (P := P) (w := w) (ty := ty) hu hi hz hzs hll
                        (run_firstCells_some w.drew i.size len ⟨(g.base l).1, (g.base l).2 + off, none⟩ len cap _ hll (fun j u hj => by
                          rw [List.getElem?_take] at hj
                          split at hj
                          · rw [List.getElem?_drop] at hj
                            have := k4 _ u hj
                            rw [Addr.add_lit]
                            rwa [← Nat.add_assoc] at this
                          · cases hj)) hsrc (by omega) c4 c5
                      obtain ⟨g', m3, m4, m5⟩ := grown_ref (hs.kill l) m2 (((k3.drop off).take (len * i.size)).append hrn) wr
                      rw [hkl] at m5
                      exact ⟨_, _, g', m1, Fr.trans hs (hs.kill l) (Fr.kill c1) m3, m4, m5⟩
                  · cases h
              · cases h
            · cases h
  · cases h
end append
end Go.Proofs.YthngeddaeoeimaaDoorVE
