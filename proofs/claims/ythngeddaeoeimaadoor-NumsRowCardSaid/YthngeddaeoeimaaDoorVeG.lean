import Derived.Test.YthngeddaeoeimaaDoorVeF
namespace Go.Proofs.YthngeddaeoeimaaDoorVE
open Go Go.RowKit
set_option linter.unusedVariables false
set_option linter.unusedSimpArgs false

section slices
variable {P : Program} {B : Base} {g : Gh} {st : St} {w : World} {wr : Wr}
/-- A bound, as the machine reckons it. -/
theorem bnd_ok {p : Option PV} {v : Option Value} (hv : match p, v with | none, none => True | some p, some v => Rep g p v | _, _ => False) {d n : Nat} (h : bnd p d = some n) :
    (v = none ∧ n = d) ∨ ∃ k, v = some (.int k (n : Int)) := by
  cases p with
  | none =>
    cases v with
    | none => simp only [bnd, Option.some.injEq] at h; exact .inl ⟨rfl, h.symm⟩
    | some v => exact hv.elim
  | some p =>
    cases v with
    | none => exact hv.elim
    | some v =>
      simp only [bnd] at h
      split at h
      · rename_i i hi
        split at h
        · rename_i h0
          simp only [Option.some.injEq] at h
          obtain ⟨k, rfl⟩ := asI_rep hi hv
          refine .inr ⟨k, ?_⟩
          rw [← h, Int.toNat_of_nonneg h0]
        · cases h
      · cases h
def OptRep (g : Gh) (p : Option PV) (v : Option Value) : Prop := match p, v with | none, none => True | some p, some v => Rep g p v | _, _ => False
theorem run_bound {x : Value} {k : IntKind} {n y : Nat} (c : BoundsCode) (h : n ≤ y) (hx : x = .int k (n : Int)) : (Instr.sliceBound x y c).run P w = .ok n w := by
  subst hx
  have : 0 ≤ (n : Int) ∧ (n : Int) ≤ y := by omega
  simp [Instr.sliceBound, asIntOf, this]
theorem run_bounds {lo hi : Option PV} {lv hv : Option Value} {l h len cap : Nat} (hl : OptRep g lo lv) (hh : OptRep g hi hv) (h1 : bnd lo 0 = some l) (h2 : bnd hi len = some h) (hlh : l ≤ h) (hhl : h ≤ cap) :
    (Instr.sliceBounds true len cap lv hv none).run P w = .ok (l, h, cap) w := by
  rcases bnd_ok hl h1 with ⟨rfl, rfl⟩ | ⟨k, rfl⟩ <;> rcases bnd_ok hh h2 with ⟨rfl, rfl⟩ | ⟨k', rfl⟩ <;>
    simp [Instr.sliceBounds, run_bound _ hlh rfl, run_bound _ hhl rfl]
theorem run_bounds3 {lo hi mx : Option PV} {lv hv mv : Option Value} {l h len cap : Nat} (hl : OptRep g lo lv) (hh : OptRep g hi hv) {m : PV} (hmx : mx = some m) (hm : OptRep g mx mv) (hhi : hi.isSome = true) (h1 : bnd lo 0 = some l) (h2 : bnd hi len = some h) (h3 : bnd mx 0 = some h) (hlh : l ≤ h) (hhl : h ≤ cap) :
    (Instr.sliceBounds true len cap lv hv mv).run P w = .ok (l, h, h) w := by
  subst hmx
  rcases bnd_ok hm h3 with ⟨rfl, h4⟩ | ⟨k3, rfl⟩
  · cases hm
  cases hi with
  | none => simp at hhi
  | some hi =>
    rcases bnd_ok hh h2 with ⟨rfl, h5⟩ | ⟨k', rfl⟩
    · cases hh
    · rcases bnd_ok hl h1 with ⟨rfl, rfl⟩ | ⟨k, rfl⟩ <;>
        simp [Instr.sliceBounds, run_bound _ hlh rfl, run_bound _ hhl rfl, run_bound _ (Nat.le_refl h) rfl]
theorem sliceAt_slice {t e : TypeId} (hu : P.underlying t = some (.slice e)) {n : Nat} (hn : tySize P e = some n) {a : Option Addr} {len cap l h m : Nat} {lv hv mv : Option Value}
    (hb : (Instr.sliceBounds true len cap lv hv mv).run P w = .ok (l, h, m) w) :
    (Instr.sliceAt t (.slice a len cap) lv hv mv).run P w = .ok (.slice (if m = l then a else a.map (·.add (l * n))) (h - l) (m - l)) w := by
  simp [Instr.sliceAt, Instr.slice, run_underlying hu, hb, run_size hn]
theorem Rep.sub {xs : List (List PV)} {f : Flag} {v : Value} (hx : Rep g (.row xs f) v) {n : Nat} (hsz : szOk n xs = true) {l h m : Nat} (hlh : l ≤ h) (hhl : h ≤ xs.length) :
    ∃ a len cap, v = .slice a len cap ∧ len = xs.length ∧ len ≤ cap ∧ ∀ f' m, h ≤ m → m ≤ cap → (f' = .sh ∨ (f' = .full ∧ m = h)) →
      Rep g (.row ((xs.drop l).take (h - l)) f') (.slice (if m = l then a else a.map (·.add (l * n))) (h - l) (m - l)) := by
  have hlen : ((xs.drop l).take (h - l)).length = h - l := by simp; omega
  simp only [Rep] at hx
  rcases hx with ⟨rfl, rfl, _⟩ | ⟨b, o, sz, cap, vals, rfl, h2, h3, h4, h5, h6⟩
  · simp only [List.length_nil] at hhl
    have h0 : h = 0 := by omega
    have l0 : l = 0 := by omega
    subst h0; subst l0
    refine ⟨none, 0, 0, rfl, rfl, Nat.le_refl _, fun f' m hm hm2 hf => ?_⟩
    have m0 : m = 0 := by omega
    subst m0
    simp only [Rep]
    refine .inl ⟨by simp, by simp, ?_⟩
    rcases hf with rfl | ⟨rfl, _⟩ <;> trivial
  · refine ⟨some ⟨b, o, none⟩, xs.length, cap, rfl, rfl, h5, fun f' m hm hm2 hf => ?_⟩
    have hmem : ∀ c ∈ (xs.drop l).take (h - l), c.length = sz := fun c hc => h2 c (List.mem_of_mem_drop (List.mem_of_mem_take hc))
    have fok : ∀ b o sz, FlagOk g f' b o sz (h - l) (m - l) := fun b o sz => by
      rcases hf with rfl | ⟨rfl, rfl⟩
      · trivial
      · rfl
    rw [Rep]
    right
    by_cases hml : m = l
    · rw [if_pos hml]
      have hz : h - l = 0 := by omega
      refine ⟨b, o, sz, m - l, [], by rw [hlen], hmem, fun j u hj => by simp at hj, ?_, by rw [hlen]; omega, by rw [hlen]; exact fok _ _ _⟩
      rw [hz]
      simp [Repss]
    · rw [if_neg hml]
      have hszn : xs ≠ [] → sz = n := fun hne => by
        cases xs with
        | nil => exact absurd rfl hne
        | cons c xs => rw [← h2 c (by simp)]; exact szOk_iff.1 hsz c (by simp)
      have hoff : l * n = l * sz := by
        by_cases hne : xs = []
        · subst hne
          simp only [List.length_nil] at hhl
          have l0 : l = 0 := by omega
          subst l0
          simp
        · rw [hszn hne]
      refine ⟨b, o + l * n, sz, m - l, (vals.drop (l * sz)).take ((h - l) * sz), by simp [hlen, Addr.add_lit], hmem, fun j u hj => ?_, ?_, by rw [hlen]; omega, by rw [hlen]; exact fok _ _ _⟩
      · rw [List.getElem?_take] at hj
        split at hj
        · rw [List.getElem?_drop] at hj
          have := h3 _ u hj
          rwa [← Nat.add_assoc, ← hoff] at this
        · cases hj
      · rw [Repss_iff, flat_take (fun c hc => h2 c (List.mem_of_mem_drop hc)), flat_drop h2]
        exact ((Repss_iff.1 h4).drop _).take _
theorem slice_ok {t : TypeId} {x p : PV} {lo hi mx : Option PV} {xv : Value} {lv hv mv : Option Value} (h : evSlice P t x lo hi mx = some p) (hx : Rep g x xv) (hl : OptRep g lo lv) (hh : OptRep g hi hv) (hm : OptRep g mx mv) (hmh : mx.isSome = true → hi.isSome = true) :
    ∃ v, (Instr.sliceAt t xv lv hv mv).run P w = .ok v w ∧ Rep g p v := by
  unfold evSlice at h
  split at h
  · rename_i e xs f he
    have hu := tyElem_under he
    split at h
    · rename_i l hh' h1 h2 h3
      have hex : ∃ n, tySize P e = some n ∧ szOk n xs = true := by
        split at h3
        · rename_i n hn; exact ⟨n, hn, h3⟩
        · cases h3
      obtain ⟨n, hn, hsz⟩ := hex
      cases mx with
      | none =>
        cases mv with
        | some mv => exact hm.elim
        | none =>
          simp only at h
          split at h
          · rename_i hc
            simp only [Option.some.injEq] at h
            obtain ⟨a, len, cap, rfl, hlen, hcap, hsub⟩ := hx.sub hsz hc.1 hc.2 (m := 0)
            have hb := run_bounds (P := P) (w := w) (len := len) (cap := cap) hl hh h1 (by rw [hlen]; exact h2) hc.1 (by omega)
            refine ⟨_, sliceAt_slice hu hn hb, ?_⟩
            subst h
            split
            · rename_i hk
              obtain ⟨rfl, rfl⟩ := hk
              subst hlen
              have : (if cap = 0 then a else a.map (·.add (0 * n))) = a := by
                split
                · rfl
                · simp only [Nat.zero_mul, Addr.add_zero']; cases a <;> rfl
              rw [this]
              exact hx
            · exact hsub .sh cap (by omega) (Nat.le_refl _) (.inl rfl)
          · cases h
      | some m =>
        simp only at h
        split at h
        · rename_i mm h4
          split at h
          · rename_i hc
            obtain ⟨hc1, rfl, hc3⟩ := hc
            simp only [Option.some.injEq] at h
            obtain ⟨a, len, cap, rfl, hlen, hcap, hsub⟩ := hx.sub hsz hc1 hc3 (m := 0)
            have hb := run_bounds3 (P := P) (w := w) (len := len) (cap := cap) hl hh rfl hm (hmh rfl) h1 (by rw [hlen]; exact h2) h4 hc1 (by omega)
            subst h
            exact ⟨_, sliceAt_slice hu hn hb, hsub .full _ (Nat.le_refl _) (by omega) (.inr ⟨rfl, rfl⟩)⟩
          · cases h
        · cases h
    · cases h
  · rename_i e r n off len he
    have hu := tyElem_under he
    split at h
    · rename_i l hh' m h1 h2 h4
      cases mv with
      | some mv => exact hm.elim
      | none =>
        split at h
        · rename_i hc
          obtain ⟨hc1, hc2, rfl⟩ := hc
          simp only [Rep] at hx
          obtain ⟨cap, rfl, h5, h6, h7⟩ := hx
          have hb := run_bounds (P := P) (w := w) (len := len) (cap := cap) hl hh h1 h2 hc1 (by omega)
          refine ⟨_, sliceAt_slice hu h4 hb, ?_⟩
          split at h
          · rename_i hl0
            subst hl0
            simp only [Option.some.injEq] at h
            subst h
            have : (if cap = 0 then some (⟨(g.base r).1, (g.base r).2 + off, none⟩ : Addr) else (some (⟨(g.base r).1, (g.base r).2 + off, none⟩ : Addr)).map (·.add (0 * m))) = some ⟨(g.base r).1, (g.base r).2 + off, none⟩ := by
              split
              · rfl
              · rw [Nat.zero_mul, Option.map_some, Addr.add_zero']
            rw [this, Rep]
            exact ⟨cap, rfl, h5, by omega, h7⟩
          · split at h
            · rename_i hl0 hlh
              subst hlh
              simp only [Option.some.injEq] at h
              subst h
              rw [Rep]
              right
              simp only [Nat.sub_self, List.length_nil]
              split
              · exact ⟨_, _, 0, cap - l, [], rfl, (fun c hc => by cases hc), (fun j u hj => by simp at hj), rfl, Nat.zero_le _, trivial⟩
              · exact ⟨_, _, 0, cap - l, [], (by rw [Option.map_some, Addr.add_lit]), (fun c hc => by cases hc), (fun j u hj => by simp at hj), rfl, Nat.zero_le _, trivial⟩
            · simp only [Option.some.injEq] at h
              subst h
              rw [Rep]
              refine ⟨cap - l, ?_, h5, by omega, ?_⟩
              · rw [if_neg (by omega)]
                simp [Addr.add_lit, Nat.add_assoc]
              · have h8 : l * m + (cap - l) * m = cap * m := by rw [← Nat.add_mul]; congr 1; omega
                omega
        · cases h
    · cases h
  · cases h
end slices
end Go.Proofs.YthngeddaeoeimaaDoorVE
