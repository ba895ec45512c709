import Derived.Test.YtlkaoiceehlkmaaVeJ1
import Derived.Scope
namespace Go.Proofs.YtlkaoiceehlkmaaVE
open Go Go.RowKit
set_option linter.unusedVariables false
set_option linter.unusedSimpArgs false

section trace
variable {C : Cfg} {call : Call} {f : FuncId} {wr : Wr} {all : List Oper}
/-- The canonical run, operation by operation. -/
def StepOf (C : Cfg) (call : Call) (f : FuncId) (wr : Wr) (all : List Oper) (T : Nat → List PV) (S : Nat → St) (R : Nat → PV) (K : Nat → Cls) (i : Nat) (o : Oper) : Prop :=
  T (i + 1) = putP (T i) o.dst (R i) ∧ ((wantedP all (T i) o = some true ∧ evOp C call f wr (T i) (S i) o = some (R i, S (i + 1)) ∧ K i = clsOf C f (T i) (S i) o) ∨
    (wantedP all (T i) o = some false ∧ R i = .v undef ∧ S (i + 1) = S i ∧ K i = .free))
theorem run_exists {tmE : List PV} {stE : St} : ∀ (os : List Oper) (tm : List PV) (st : St), evOps C call f wr all os tm st = some (tmE, stE) →
    ∃ (T : Nat → List PV) (S : Nat → St) (R : Nat → PV) (K : Nat → Cls), T 0 = tm ∧ S 0 = st ∧ T os.length = tmE ∧ S os.length = stE ∧ (∀ (i : Nat) (o : Oper), os[i]? = some o → StepOf C call f wr all T S R K i o) ∧
      ∀ i, i < os.length → (clsOps C call f wr all os tm st)[i]? = some (K i)
  | [], tm, st, h => by
    simp only [evOps, Option.some.injEq, Prod.mk.injEq] at h
    exact ⟨fun _ => tm, fun _ => st, fun _ => .any, fun _ => .free, rfl, rfl, h.1, h.2, fun i o ho => by simp at ho, fun i hi => by simp at hi⟩
  | o :: os, tm, st, h => by
    simp only [evOps, wantR, bindR] at h
    split at h
    · rename_i hw
      split at h
      · rename_i p st1 he
        obtain ⟨T, S, R, K, h1, h2, h3, h4, h5, h6⟩ := run_exists os _ _ h
        refine ⟨fun i => match i with | 0 => tm | i + 1 => T i, fun i => match i with | 0 => st | i + 1 => S i, fun i => match i with | 0 => p | i + 1 => R i, fun i => match i with | 0 => clsOf C f tm st o | i + 1 => K i, rfl, rfl, h3, h4, ?_, ?_⟩
        · intro i q hq
          cases i with
          | zero =>
            simp only [List.getElem?_cons_zero, Option.some.injEq] at hq
            subst hq
            exact ⟨h1, .inl ⟨hw, by rw [he]; simp only [h2], rfl⟩⟩
          | succ i => exact h5 i q (by simpa using hq)
        · intro i hi
          simp only [clsOps, hw, he]
          cases i with
          | zero => rfl
          | succ i => simpa using h6 i (by simpa using hi)
      · cases h
    · rename_i hw
      obtain ⟨T, S, R, K, h1, h2, h3, h4, h5, h6⟩ := run_exists os _ _ h
      refine ⟨fun i => match i with | 0 => tm | i + 1 => T i, fun i => match i with | 0 => st | i + 1 => S i, fun i => match i with | 0 => .v undef | i + 1 => R i, fun i => match i with | 0 => .free | i + 1 => K i, rfl, rfl, h3, h4, ?_, ?_⟩
      · intro i q hq
        cases i with
        | zero =>
          simp only [List.getElem?_cons_zero, Option.some.injEq] at hq
          subst hq
          exact ⟨h1, .inr ⟨hw, rfl, h2, rfl⟩⟩
        | succ i => exact h5 i q (by simpa using hq)
      · intro i hi
        simp only [clsOps, hw]
        cases i with
        | zero => rfl
        | succ i => simpa using h6 i (by simpa using hi)
    · cases h
end trace

/-! What comes ahead of what. -/
section ahead
theorem fold_bits (acc : List Nat) {i : Nat} : ∀ (es : List Edge) (s : Nat), (es.foldl (fun s e => if plainEdge e then s ||| 2 ^ e.on ||| acc.getD e.on 0 else s) s).testBit i = true →
    s.testBit i = true ∨ ∃ e ∈ es, plainEdge e = true ∧ (e.on = i ∨ (acc.getD e.on 0).testBit i = true)
  | [], s, h => .inl h
  | e :: es, s, h => by
    rw [List.foldl_cons] at h
    rcases fold_bits acc es _ h with h1 | ⟨e', he', h2⟩
    · split at h1
      · rename_i hp
        rw [Nat.testBit_or, Nat.testBit_or, Bool.or_eq_true, Bool.or_eq_true] at h1
        rcases h1 with (h1 | h1) | h1
        · exact .inl h1
        · refine .inr ⟨e, by simp, hp, .inl ?_⟩
          rw [Nat.testBit_two_pow] at h1
          simpa using h1
        · exact .inr ⟨e, by simp, hp, .inr h1⟩
      · exact .inl h1
    · exact .inr ⟨e', by simp [he'], h2⟩
theorem ahead_prefix : ∀ (os : List Oper) (acc : List Nat) (j : Nat), j < acc.length → (aheadOf os acc).getD j 0 = acc.getD j 0
  | [], acc, j, h => rfl
  | o :: os, acc, j, h => by
    simp only [aheadOf]
    rw [ahead_prefix os _ j (by simp; omega)]
    simp [List.getD, List.getElem?_append_left h]
theorem ahead_bits {i : Nat} : ∀ (os : List Oper) (acc : List Nat) (j : Nat), acc.length ≤ j → ((aheadOf os acc).getD j 0).testBit i = true →
    ∃ o, os[j - acc.length]? = some o ∧ ∃ e ∈ o.after.toList, plainEdge e = true ∧ (e.on = i ∨ (e.on < j ∧ ((aheadOf os acc).getD e.on 0).testBit i = true))
  | [], acc, j, hj, h => by
    simp only [aheadOf] at h
    simp [List.getD, List.getElem?_eq_none hj] at h
  | o :: os, acc, j, hj, h => by
    simp only [aheadOf] at h ⊢
    generalize hx : o.after.toList.foldl (fun s e => if plainEdge e then s ||| 2 ^ e.on ||| acc.getD e.on 0 else s) 0 = x at h ⊢
    by_cases hje : j = acc.length
    · subst hje
      rw [ahead_prefix os _ _ (by simp)] at h
      have hget : (acc ++ [x]).getD acc.length 0 = x := by simp [List.getD]
      rw [hget, ← hx] at h
      rcases fold_bits acc _ _ h with h1 | ⟨e, he, hp, h2⟩
      · simp at h1
      · refine ⟨o, by simp, e, he, hp, ?_⟩
        rcases h2 with h2 | h2
        · exact .inl h2
        · right
          have hlt : e.on < acc.length := by
            rcases Nat.lt_or_ge e.on acc.length with hl | hl
            · exact hl
            · simp [List.getD, List.getElem?_eq_none hl] at h2
          refine ⟨hlt, ?_⟩
          rw [ahead_prefix os _ _ (by simp; omega)]
          simpa [List.getD, List.getElem?_append_left hlt] using h2
    · obtain ⟨o', h1, h2⟩ := ahead_bits os (acc ++ [x]) j (by simp; omega) h
      refine ⟨o', ?_, h2⟩
      rw [List.length_append, List.length_singleton] at h1
      rw [show j - acc.length = (j - (acc.length + 1)) + 1 by omega]
      simpa using h1
/-- What is listed has all ahead of it listed; so has what is ready. -/
theorem ahead_closed {ops : Array Oper} {L : Nat → Bool} (hL : ∀ j, L j = true → Direct ops L j) {i : Nat} : ∀ (m j : Nat), j ≤ m → Direct ops L j → ((aheadOf ops.toList []).getD j 0).testBit i = true → L i = true := by
  intro m
  induction m with
  | zero =>
    intro j hj hd h
    obtain ⟨o, h1, e, he, hp, h2⟩ := ahead_bits ops.toList [] j (Nat.zero_le _) h
    have := hd o (by simpa using h1) e he hp
    rcases h2 with rfl | ⟨h3, _⟩
    · exact this
    · omega
  | succ m ih =>
    intro j hj hd h
    obtain ⟨o, h1, e, he, hp, h2⟩ := ahead_bits ops.toList [] j (Nat.zero_le _) h
    have hon := hd o (by simpa using h1) e he hp
    rcases h2 with rfl | ⟨h3, h4⟩
    · exact hon
    · exact ih e.on (by omega) (hL e.on hon) h4
end ahead

/-! The temporaries and the state when some operations are listed. -/
section partial_
variable {ops : Array Oper} {R : Nat → PV} {T : Nat → List PV} {S : Nat → St} {K : Nat → Cls} {L : Nat → Bool}
def dstOf (ops : Array Oper) (i : Nat) : Option Tmp := (ops[i]?).bind (·.dst)
def isSt : Cls → Bool
  | .state _ => true
  | _ => false
def TL (ops : Array Oper) (R : Nat → PV) (tm : List PV) (L : Nat → Bool) : Nat → List PV
  | 0 => tm
  | k + 1 => if L k then putP (TL ops R tm L k) (dstOf ops k) (R k) else TL ops R tm L k
def SL (S : Nat → St) (K : Nat → Cls) (L : Nat → Bool) : Nat → St
  | 0 => S 0
  | k + 1 => if L k && isSt (K k) then S (k + 1) else SL S K L k
theorem put_len (tm : List PV) (d : Option Tmp) (p : PV) : (putP tm d p).length = tm.length := by cases d <;> simp [putP]
theorem TL_len (tm : List PV) : ∀ k, (TL ops R tm L k).length = tm.length
  | 0 => rfl
  | k + 1 => by
    simp only [TL]
    split
    · rw [put_len, TL_len tm k]
    · exact TL_len tm k
theorem put_other {tm : List PV} {d : Option Tmp} {p : PV} {t : Nat} (h : d ≠ some t) : (putP tm d p).getD t .any = tm.getD t .any := by
  cases d with
  | none => rfl
  | some d =>
    simp only [putP, List.getD, List.getElem?_set]
    rw [if_neg (fun e => h (by rw [e]))]
theorem put_same {tm tm' : List PV} {p : PV} {t : Nat} (h : tm.length = tm'.length) : (putP tm (some t) p).getD t .any = (putP tm' (some t) p).getD t .any := by
  simp only [putP, List.getD, List.getElem?_set, if_true, h]
theorem TL_get {tm : List PV} (hT0 : T 0 = tm) (hT : ∀ k, k < ops.size → T (k + 1) = putP (T k) (dstOf ops k) (R k)) {t : Nat} : ∀ k i, k ≤ ops.size → i ≤ k → (∀ d, d < i → dstOf ops d = some t → L d = true) → (∀ d, i ≤ d → d < k → L d = true → dstOf ops d ≠ some t) →
    (TL ops R tm L k).getD t .any = (T i).getD t .any
  | 0, i, _, hi, _, _ => by
    obtain rfl : i = 0 := by omega
    simp only [TL, hT0]
  | k + 1, i, hk, hi, h1, h2 => by
    have hlen : ∀ j, j ≤ ops.size → (T j).length = tm.length := by
      intro j
      induction j with
      | zero => intro _; rw [hT0]
      | succ j ih => intro hj; rw [hT j (by omega), put_len, ih (by omega)]
    by_cases hik : i = k + 1
    · subst hik
      have ih := TL_get hT0 hT k k (by omega) (Nat.le_refl _) (fun d hd => h1 d (by omega)) (fun d hd1 hd2 => by omega)
      rw [hT k (by omega)]
      simp only [TL]
      by_cases hd : dstOf ops k = some t
      · rw [if_pos (h1 k (by omega) hd), hd]
        exact put_same (by rw [TL_len, hlen k (by omega)])
      · split
        · rw [put_other hd, put_other hd]; exact ih
        · rw [put_other hd]; exact ih
    · have ih := TL_get hT0 hT k i (by omega) (by omega) h1 (fun d hd1 hd2 => h2 d hd1 (by omega))
      simp only [TL]
      split
      · rename_i hLk
        rw [put_other (h2 k (by omega) (by omega) hLk)]; exact ih
      · exact ih
theorem TL_congr {tm : List PV} {L' : Nat → Bool} : ∀ k, (∀ d, d < k → L d = L' d) → TL ops R tm L k = TL ops R tm L' k
  | 0, _ => rfl
  | k + 1, h => by
    simp only [TL]
    rw [h k (by omega), TL_congr k (fun d hd => h d (by omega))]
theorem put_comm {tm : List PV} {d e : Option Tmp} {p q : PV} (h : d = none ∨ d ≠ e) : putP (putP tm d p) e q = putP (putP tm e q) d p := by
  cases d with
  | none => rfl
  | some d =>
    cases e with
    | none => rfl
    | some e =>
      simp only [putP]
      rw [List.set_comm]
      rintro rfl
      rcases h with h | h
      · cases h
      · exact h rfl
theorem TL_up {tm : List PV} {i : Nat} (hL : L i = false) : ∀ k, i < k → (∀ d, i < d → d < k → L d = true → dstOf ops i = none ∨ dstOf ops i ≠ dstOf ops d) → TL ops R tm (up L i) k = putP (TL ops R tm L k) (dstOf ops i) (R i)
  | 0, h, _ => by omega
  | k + 1, h, hd => by
    by_cases hk : i = k
    · subst hk
      simp only [TL, up_self, hL, if_true, Bool.false_eq_true, if_false]
      rw [TL_congr (L' := L) i (fun d hd => up_ne (by omega))]
    · simp only [TL]
      rw [up_ne (fun e => hk e.symm), TL_up hL k (by omega) (fun d h1 h2 => hd d h1 (by omega))]
      split
      · rename_i hLk
        exact put_comm (hd k (by omega) (by omega) hLk)
      · rfl
theorem SL_congr {L' : Nat → Bool} : ∀ k, (∀ d, d < k → isSt (K d) = true → L d = L' d) → SL S K L k = SL S K L' k
  | 0, _ => rfl
  | k + 1, h => by
    simp only [SL]
    rw [SL_congr k (fun d hd => h d (by omega))]
    cases hs : isSt (K k) with
    | false => simp
    | true => rw [h k (by omega) hs]
theorem SL_low (hS : ∀ k, k < ops.size → isSt (K k) = false → S (k + 1) = S k) : ∀ k, k ≤ ops.size → (∀ d, d < k → isSt (K d) = true → L d = true) → SL S K L k = S k
  | 0, _, _ => rfl
  | k + 1, hk, h => by
    simp only [SL]
    cases hs : isSt (K k) with
    | false => simp [SL_low hS k (by omega) (fun d hd => h d (by omega)), hS k (by omega) hs]
    | true => simp [h k (by omega) hs]
theorem SL_high {i : Nat} : ∀ k, i ≤ k → (∀ d, i ≤ d → d < k → isSt (K d) = true → L d = false) → SL S K L k = SL S K L i
  | 0, h, _ => by
    have : i = 0 := by omega
    rw [this]
  | k + 1, h, hd => by
    by_cases hk : i = k + 1
    · rw [hk]
    · simp only [SL]
      rw [SL_high k (by omega) (fun d h1 h2 => hd d h1 (by omega))]
      cases hs : isSt (K k) with
      | false => simp
      | true => simp [hd k (by omega) (by omega) hs]
end partial_

section draw
variable {C : Cfg} {call : Call} {f : FuncId} {wr : Wr} {ops : Array Oper} {B : Base} {T : Nat → List PV} {S : Nat → St} {R : Nat → PV} {K : Nat → Cls} {Ks : List Cls} {b : List Nat}
/-- What a pair that is not in order may be. -/
theorem pair_of {i j : Nat} {oi oj : Oper} (hi : ops[i]? = some oi) (hj : ops[j]? = some oj) (hki : Ks[i]? = some (K i)) (hkj : Ks[j]? = some (K j)) (h : pairOk b ops.toList Ks i j = true) (hn : (b.getD j 0).testBit i = false) :
    (∀ d, oi.dst = some d → d ∉ tmpsOf oj ∧ oj.dst ≠ some d ∧ ∀ k want, oj.guard = some (k, want) → dstOf ops k ≠ some d) ∧
    (∀ d, oj.dst = some d → d ∉ tmpsOf oi ∧ ∀ k want, oi.guard = some (k, want) → dstOf ops k ≠ some d) ∧
    (∀ kp l, K i = .state kp → K j = .reads l → kp l = true) ∧ (∀ kp l, K i = .reads l → K j = .state kp → kp l = true) ∧ ¬ (isSt (K i) = true ∧ isSt (K j) = true) := by
  unfold pairOk at h
  rw [hn, Bool.false_or, Bool.and_eq_true] at h
  obtain ⟨h1, h2⟩ := h
  unfold tmpsApart at h1
  unfold clsPair at h2
  rw [Array.getElem?_toList, Array.getElem?_toList, hi, hj] at h1
  simp only [Bool.and_eq_true] at h1
  obtain ⟨h3, h4⟩ := h1
  rw [hki, hkj] at h2
  refine ⟨fun d hd => ?_, fun d hd => ?_, fun kp l h5 h6 => ?_, fun kp l h5 h6 => ?_, fun ⟨h5, h6⟩ => ?_⟩
  · rw [hd] at h3
    simp only [Bool.and_eq_true, Bool.not_eq_true', beq_eq_false_iff_ne, ne_eq] at h3
    refine ⟨by simpa using h3.1.1, h3.1.2, fun k want hg he => ?_⟩
    have h7 := h3.2
    rw [hg] at h7
    simp only [Array.getElem?_toList, beq_eq_false_iff_ne, ne_eq] at h7
    exact h7 he
  · rw [hd] at h4
    simp only [Bool.and_eq_true, Bool.not_eq_true'] at h4
    refine ⟨by simpa using h4.1, fun k want hg he => ?_⟩
    have h7 := h4.2
    rw [hg] at h7
    simp only [Array.getElem?_toList, beq_eq_false_iff_ne, ne_eq] at h7
    exact h7 he
  · rw [h5, h6] at h2; exact h2
  · rw [h5, h6] at h2; exact h2
  · cases hi : K i <;> cases hj : K j <;> simp_all [isSt]
theorem wantedP_congr {all : List Oper} {tm tm' : List PV} {o : Oper} (h : ∀ k want, o.guard = some (k, want) → ∀ d, (all[k]?).bind (·.dst) = some d → tm.getD d .any = tm'.getD d .any) : wantedP all tm o = wantedP all tm' o := by
  unfold wantedP
  cases hg : o.guard with
  | none => rfl
  | some kw =>
    obtain ⟨k, want⟩ := kw
    simp only
    cases hd : (all[k]?).bind (·.dst) with
    | none => rfl
    | some d => simp only; rw [h k want hg d hd]
theorem draw_ops (hok : Ok C call B) {tm0 : List PV} {st0 : St} (hT0 : T 0 = tm0) (hS0 : S 0 = st0) (hstep : ∀ (i : Nat) (o : Oper), ops[i]? = some o → StepOf C call f wr ops.toList T S R K i o)
    (hKs : ∀ i, i < ops.size → Ks[i]? = some (K i)) (hp : ∀ i j, i < j → j < ops.size → pairOk (aheadOf ops.toList []) ops.toList Ks i j = true) {r : Option Nat} {n : Nat} {Q : Exit → Act → World → Prop} {g0 : Gh} {w0 : World} (hs0 : SR B g0 st0 w0) {ds : List Deferred}
    (hQ : ∀ a' w', After B wr g0 st0 w0 (T ops.size) (S ops.size) ds a' w' → Q .normal a' w') :
    ∀ {L : Nat → Bool} {l : List Nat}, Good ops L l → (∀ j, L j = true → Direct ops L j) → ∀ (g : Gh) (a : Act) (w : World), Fr B wr g0 st0 w0 g (SL S K L ops.size) w → SR B g (SL S K L ops.size) w → Reps g (TL ops R tm0 L ops.size) a.tmps.toList → a.defers = ds →
      wpOpsIn (Fw r) n C.P ops Q l a w := by
  have opsAt : ∀ i, i < ops.size → ∃ o, ops[i]? = some o := fun i hi => ⟨ops[i], Array.getElem?_eq_getElem hi⟩
  have hdst : ∀ {i o}, ops[i]? = some o → dstOf ops i = o.dst := fun h => by unfold dstOf; rw [h]; rfl
  have hT : ∀ k, k < ops.size → T (k + 1) = putP (T k) (dstOf ops k) (R k) := fun k hk => by
    obtain ⟨o, ho⟩ := opsAt k hk
    rw [hdst ho]; exact (hstep k o ho).1
  -- an operation that is no state's leaves the state
  have hStill : ∀ k, k < ops.size → isSt (K k) = false → S (k + 1) = S k := fun k hk hx => by
    obtain ⟨o, ho⟩ := opsAt k hk
    rcases (hstep k o ho).2 with ⟨_, h1, h2⟩ | ⟨_, _, h1, _⟩
    · cases hc : K k with
      | free => exact (free_ok h1 (by rw [← h2, hc])).1
      | reads l => exact (reads_ok h1 (by rw [← h2, hc])).1
      | state kp => rw [hc] at hx; cases hx
    · exact h1
  have hKeeps : ∀ k kp l, k < ops.size → K k = .state kp → kp l = true → locAt (S (k + 1)) l = locAt (S k) l := fun k kp l hk hc hl => by
    obtain ⟨o, ho⟩ := opsAt k hk
    rcases (hstep k o ho).2 with ⟨_, h1, h2⟩ | ⟨_, _, h1, h2⟩
    · exact keeps_ok h1 (by rw [← h2, hc]) hl
    · rw [h1]
  intro L l hgood
  induction hgood with
  | @nil L hall =>
    intro hcl g a w hf hs ht hd
    simp only [wpOpsIn]
    have h1 : SL S K L ops.size = S ops.size := SL_low hStill ops.size (Nat.le_refl _) fun d hd _ => hall d hd
    refine hQ a w ⟨g, by rw [h1] at hf; exact hf, by rw [h1] at hs; exact hs, ?_, hd⟩
    refine Reps.mk ?_ fun t p v hp' hv => ?_
    · have := ht.length
      rw [TL_len] at this
      have hlen : ∀ j, j ≤ ops.size → (T j).length = tm0.length := by
        intro j
        induction j with
        | zero => intro _; rw [hT0]
        | succ j ih => intro hj; rw [hT j (by omega), put_len, ih (by omega)]
      rw [this, hlen _ (Nat.le_refl _)]
    · have hlt := (List.getElem?_eq_some_iff.1 hv).1
      rw [ht.length] at hlt
      have h2 := TL_get (L := L) hT0 hT (t := t) ops.size ops.size (Nat.le_refl _) (Nat.le_refl _) (fun d hd _ => hall d hd) (fun d h3 h4 => by omega)
      have h3 : (TL ops R tm0 L ops.size)[t]? = some p := by
        have h4 : (T ops.size).getD t .any = p := by simp [List.getD, hp']
        rw [h4] at h2
        rw [List.getElem?_eq_getElem hlt]
        simp only [List.getD, List.getElem?_eq_getElem hlt, Option.getD_some] at h2
        rw [h2]
      exact ht.get h3 hv
  | @cons L i l hi hLi hdir hgood ih =>
    intro hcl g a w hf hs ht hd
    obtain ⟨o, ho⟩ := opsAt i hi
    have hst := hstep i o ho
    -- what is ahead of i is listed; what is behind it isn't
    have hin : ∀ j, ((aheadOf ops.toList []).getD i 0).testBit j = true → L j = true := fun j hj => ahead_closed hcl i i (Nat.le_refl _) hdir hj
    have hout : ∀ d, L d = true → ((aheadOf ops.toList []).getD d 0).testBit i = false := fun d hd' => by
      cases hx : ((aheadOf ops.toList []).getD d 0).testBit i with
      | false => rfl
      | true =>
        have := ahead_closed hcl d d (Nat.le_refl _) (hcl d hd') hx
        rw [hLi] at this; cases this
    -- a pair with an earlier one that isn't listed; with a later one that is
    have early : ∀ d od, d < i → ops[d]? = some od → L d = false → _ := fun d od hd1 hod hd2 =>
      pair_of (K := K) hod ho (hKs d (by omega)) (hKs i hi) (hp d i hd1 hi) (by
        cases hx : ((aheadOf ops.toList []).getD i 0).testBit d with
        | false => rfl
        | true => have := hin d hx; rw [hd2] at this; cases this)
    have late : ∀ d od, i < d → d < ops.size → ops[d]? = some od → L d = true → _ := fun d od hd1 hd0 hod hd2 =>
      pair_of (K := K) ho hod (hKs i hi) (hKs d hd0) (hp i d hd1 hd0) (hout d hd2)
    -- a temporary that i looks at is as in the canonical run
    have look : ∀ t, (t ∈ tmpsOf o ∨ ∃ k want, o.guard = some (k, want) ∧ dstOf ops k = some t) → (TL ops R tm0 L ops.size).getD t .any = (T i).getD t .any := fun t htm => by
      refine TL_get hT0 hT ops.size i (Nat.le_refl _) (by omega) (fun d hd1 hd2 => ?_) (fun d hd1 hd2 hd3 hd4 => ?_)
      · cases hLd : L d with
        | true => rfl
        | false =>
          obtain ⟨od, hod⟩ := opsAt d (by omega)
          have h1 := (early d od hd1 hod hLd).1 t (by rw [← hdst hod]; exact hd2)
          rcases htm with h2 | ⟨k, want, h2, h3⟩
          · exact absurd h2 h1.1
          · exact absurd h3 (h1.2.2 k want h2)
      · by_cases hdi : d = i
        · subst hdi; rw [hLi] at hd3; cases hd3
        · obtain ⟨od, hod⟩ := opsAt d hd2
          have h1 := (late d od (by omega) hd2 hod hd3).2.1 t (by rw [← hdst hod]; exact hd4)
          rcases htm with h2 | ⟨k, want, h2, h3⟩
          · exact h1.1 h2
          · exact h1.2 k want h2 h3
    have hev : ∀ x ∈ o.op.operands.toList, PV.ev (T i) x = PV.ev (TL ops R tm0 L ops.size) x := fun x hx => by
      cases x with
      | tmp t => exact (look t (.inl (List.mem_filterMap.2 ⟨_, hx, rfl⟩))).symm
      | _ => rfl
    have hwant : wantedP ops.toList (TL ops R tm0 L ops.size) o = wantedP ops.toList (T i) o := wantedP_congr fun k want hg d hd' => look d (.inr ⟨k, want, hg, by unfold dstOf; rwa [Array.getElem?_toList] at hd'⟩)
    have hTup : TL ops R tm0 (up L i) ops.size = putP (TL ops R tm0 L ops.size) o.dst (R i) := by
      rw [← hdst ho]
      refine TL_up hLi ops.size hi fun d hd1 hd2 hd3 => ?_
      obtain ⟨od, hod⟩ := opsAt d hd2
      rw [hdst ho, hdst hod]
      cases hod' : o.dst with
      | none => exact .inl rfl
      | some x => exact .inr fun e => (late d od hd1 hd2 hod hd3).1 x hod' |>.2.1 e.symm
    have hclup : ∀ j, up L i j = true → Direct ops (up L i) j := fun j hj oj hoj e he hpe => by
      by_cases hji : j = i
      · subst hji
        by_cases hon : e.on = j
        · rw [hon, up_self]
        · rw [up_ne hon]; exact hdir oj hoj e he hpe
      · rw [up_ne hji] at hj
        by_cases hon : e.on = i
        · rw [hon, up_self]
        · rw [up_ne hon]; exact hcl j hj oj hoj e he hpe
    -- no two of the state stand beside one another
    have stLow : isSt (K i) = true → ∀ d, d < i → isSt (K d) = true → L d = true := fun h1 d hd1 h2 => by
      cases hLd : L d with
      | true => rfl
      | false =>
        obtain ⟨od, hod⟩ := opsAt d (by omega)
        exact absurd ⟨h2, h1⟩ (early d od hd1 hod hLd).2.2.2.2
    have stHigh : isSt (K i) = true → ∀ d, i ≤ d → d < ops.size → isSt (K d) = true → L d = false := fun h1 d hd1 hd2 h2 => by
      cases hLd : L d with
      | false => rfl
      | true =>
        by_cases hdi : d = i
        · subst hdi; rw [hLi] at hLd; cases hLd
        · obtain ⟨od, hod⟩ := opsAt d hd2
          exact absurd ⟨h1, h2⟩ (late d od (by omega) hd2 hod hLd).2.2.2.2
    simp only [wpOpsIn, ho]
    rcases hst.2 with ⟨hw, he, hK⟩ | ⟨hw, hR, hSs, hK⟩
    · rw [if_pos (wanted_ok (by rw [hwant]; exact hw) ht)]
      -- the state behind it
      have hrun : evOp C call f wr (TL ops R tm0 L ops.size) (SL S K L ops.size) o = some (R i, SL S K (up L i) ops.size) := by
        rw [← evOp_congr hev]
        cases hc : isSt (K i) with
        | true =>
          have h1 : SL S K L ops.size = S i := by
            rw [SL_high ops.size (by omega : i ≤ ops.size) (stHigh hc)]
            exact SL_low hStill i (by omega) (stLow hc)
          have h2 : SL S K (up L i) ops.size = S (i + 1) := by
            rw [SL_high ops.size (by omega : i + 1 ≤ ops.size) (fun d hd1 hd2 hd3 => by rw [up_ne (by omega)]; exact stHigh hc d (by omega) hd2 hd3)]
            simp only [SL, up_self, hc, Bool.and_self, if_true]
          rw [h1, h2]; exact he
        | false =>
          have h2 : SL S K (up L i) ops.size = SL S K L ops.size := SL_congr ops.size fun d hd1 hd2 => up_ne (fun e => by subst e; rw [hc] at hd2; cases hd2)
          rw [h2]
          cases hc' : K i with
          | free => exact (free_ok he (by rw [← hK, hc'])).2 _
          | state kp => rw [hc'] at hc; cases hc
          | reads l' =>
            refine (reads_ok he (by rw [← hK, hc'])).2 _ ?_
            -- up to i, then behind it
            have low : ∀ k, k ≤ i → locAt (SL S K L k) l' = locAt (S k) l' := by
              intro k
              induction k with
              | zero => intro _; rfl
              | succ k ihk =>
                intro hk
                simp only [SL]
                cases hsk : isSt (K k) with
                | false => simp [ihk (by omega), hStill k (by omega) hsk]
                | true =>
                  cases hLk : L k with
                  | true => simp
                  | false =>
                    simp only [Bool.false_and, Bool.false_eq_true, if_false]
                    obtain ⟨kp, hkp⟩ : ∃ kp, K k = .state kp := by cases hx : K k <;> rw [hx] at hsk <;> first | (cases hsk; done) | exact ⟨_, rfl⟩
                    obtain ⟨ok, hok'⟩ := opsAt k (by omega)
                    rw [ihk (by omega), hKeeps k kp l' (by omega) hkp ((early k ok (by omega) hok' hLk).2.2.1 kp l' hkp hc')]
            have high : ∀ k, i ≤ k → k ≤ ops.size → locAt (SL S K L k) l' = locAt (S i) l' ∧ ((∀ d, i ≤ d → d < k → isSt (K d) = true → L d = true) → locAt (S k) l' = locAt (S i) l') := by
              intro k
              induction k with
              | zero =>
                intro h1 _
                have : i = 0 := by omega
                subst this
                exact ⟨rfl, fun _ => rfl⟩
              | succ k ihk =>
                intro h1 h2
                by_cases hik : i = k + 1
                · subst hik
                  exact ⟨low _ (Nat.le_refl _), fun _ => rfl⟩
                · obtain ⟨h3, h4⟩ := ihk (by omega) (by omega)
                  have kept : ∀ hsk : isSt (K k) = true, L k = true → locAt (S (k + 1)) l' = locAt (S k) l' := fun hsk hLk => by
                    obtain ⟨kp, hkp⟩ : ∃ kp, K k = .state kp := by cases hx : K k <;> rw [hx] at hsk <;> first | (cases hsk; done) | exact ⟨_, rfl⟩
                    have hki : i ≠ k := fun e => by subst e; rw [hc] at hsk; cases hsk
                    obtain ⟨ok, hok'⟩ := opsAt k (by omega)
                    exact hKeeps k kp l' (by omega) hkp ((late k ok (by omega) (by omega) hok' hLk).2.2.2.1 kp l' hc' hkp)
                  refine ⟨?_, fun hall => ?_⟩
                  · simp only [SL]
                    cases hsk : isSt (K k) with
                    | false => simpa using h3
                    | true =>
                      cases hLk : L k with
                      | false => simpa using h3
                      | true =>
                        simp only [Bool.and_self, if_true]
                        rw [kept hsk hLk]
                        refine h4 fun d hd1 hd2 hd3 => ?_
                        -- those of the state stand in order
                        cases hLd : L d with
                        | true => rfl
                        | false =>
                          exfalso
                          obtain ⟨od, hod⟩ := opsAt d (by omega)
                          obtain ⟨ok, hok'⟩ := opsAt k (by omega)
                          cases hx : ((aheadOf ops.toList []).getD k 0).testBit d with
                          | true =>
                            have := ahead_closed hcl k k (Nat.le_refl _) (hcl k hLk) hx
                            rw [hLd] at this; cases this
                          | false => exact (pair_of (K := K) hod hok' (hKs d (by omega)) (hKs k (by omega)) (hp d k hd2 (by omega)) hx).2.2.2.2 ⟨hd3, hsk⟩
                  · cases hsk : isSt (K k) with
                    | false => rw [hStill k (by omega) hsk]; exact h4 fun d hd1 hd2 hd3 => hall d hd1 (by omega) hd3
                    | true => rw [kept hsk (hall k (by omega) (by omega) hsk)]; exact h4 fun d hd1 hd2 hd3 => hall d hd1 (by omega) hd3
            exact (high ops.size (by omega) (Nat.le_refl _)).1
      refine evOp_ok hok.ok hok.yl hok.prim hok.callHas hok.primHas hok.plain hrun hs ht fun v w1 g1 hf1 hs1 hp1 => ?_
      refine ih hclup g1 _ w1 (Fr.trans hs0 hs hf hf1) hs1 ?_ (by rw [put_defers]; exact hd)
      rw [hTup]
      exact put_ok (Reps.mono hf1.le _ _ ht) hp1 _
    · rw [wanted_ok (by rw [hwant]; exact hw) ht, if_neg (by simp)]
      refine ⟨fun _ _ => trivial, ?_⟩
      have h2 : SL S K (up L i) ops.size = SL S K L ops.size := SL_congr ops.size fun d hd1 hd2 => up_ne (fun e => by subst e; rw [hK] at hd2; cases hd2)
      refine ih hclup g _ w (by rw [h2]; exact hf) (by rw [h2]; exact hs) ?_ (by rw [put_defers]; exact hd)
      rw [hTup, hR]
      exact put_ok ht (Rep.ofFlat rfl) _
theorem sc_free {tm : List PV} {st : St} {o : Oper} (h : scOf C f o = .free) : clsOf C f tm st o = .free := by
  unfold scOf at h
  unfold clsOf
  cases ho : o.op <;> simp only [ho] at h ⊢
  case load t a => cases a <;> simp at h
  case store t a x => cases a <;> simp at h
  case alloc t => cases h
  case box t x => cases h
  case buildSlice t l ps => cases hr : rfOf C f o <;> simp [hr] at h ⊢
  case makeSlice t l c => cases hr : rfOf C f o <;> simp [hr] at h ⊢
  case call c =>
    cases hb : c.callee with
    | builtin b => cases b <;> simp [hb] at h ⊢
    | invoke r m => simp [hb] at h
    | value g =>
      cases g with
      | func k =>
        simp only [hb] at h ⊢
        simp only [PV.ev, List.nil_append, List.append_nil]
        split
        · rfl
        · cases hm : C.mode k with
          | pure => rfl
          | rd => rw [hm] at h; cases h
          | loc => rw [hm] at h; simp only at h; split at h <;> cases h
          | keep => rw [hm] at h; cases h
      | tmp t => simp [hb] at h
      | const v => simp [hb] at h
      | global v => simp [hb] at h
theorem sc_load {tm : List PV} {st : St} {o : Oper} {t : Tmp} (h : scOf C f o = .load t) : clsOf C f tm st o = .free ∨ ∃ l off, tm.getD t .any = .ptr l off ∧ clsOf C f tm st o = .reads l := by
  unfold scOf at h
  unfold clsOf
  cases ho : o.op <;> simp only [ho] at h ⊢
  case load ty a =>
    cases a with
    | tmp u =>
      simp only [SC.load.injEq] at h
      subst h
      simp only [PV.ev]
      split
      · rename_i l off hx; exact .inr ⟨l, off, hx, rfl⟩
      · exact .inl rfl
    | const v => cases h
    | global v => cases h
    | func v => cases h
  case store ty a x => cases a <;> simp at h
  case buildSlice ty l ps => cases hr : rfOf C f o <;> simp [hr] at h
  case makeSlice ty l c => cases hr : rfOf C f o <;> simp [hr] at h
  case call c =>
    cases hb : c.callee with
    | builtin b => cases b <;> simp [hb] at h
    | invoke r m => simp [hb] at h
    | value g =>
      cases g with
      | func k =>
        simp only [hb] at h
        split at h
        · cases h
        · cases h
        · split at h <;> cases h
        · cases h
      | tmp u => simp [hb] at h
      | const v => simp [hb] at h
      | global v => simp [hb] at h
  all_goals cases h
theorem sc_store {tm : List PV} {st : St} {o : Oper} {t : Tmp} {r : PV × St} (h : scOf C f o = .store t) (he : evOp C call f wr tm st o = some r) : ∃ l off, tm.getD t .any = .ptr l off ∧ clsOf C f tm st o = .state fun k => oldLoc st k && k != l := by
  unfold scOf at h
  cases ho : o.op <;> simp only [ho] at h
  case store ty a x =>
    cases a with
    | tmp u =>
      simp only [SC.store.injEq] at h
      subst h
      simp only [evOp, ho] at he
      rw [Option.map_eq_some_iff] at he
      obtain ⟨s, he, _⟩ := he
      unfold evStore at he
      split at he
      · rename_i n l off hn hx
        simp only [PV.ev] at hx
        refine ⟨l, off, hx, ?_⟩
        simp only [clsOf, ho, PV.ev, hx]
      · cases he
    | const v => cases h
    | global v => cases h
    | func v => cases h
  case load ty a => cases a <;> simp at h
  case buildSlice ty l ps => cases hr : rfOf C f o <;> simp [hr] at h
  case makeSlice ty l c => cases hr : rfOf C f o <;> simp [hr] at h
  case call c =>
    cases hb : c.callee with
    | builtin b => cases b <;> simp [hb] at h
    | invoke r m => simp [hb] at h
    | value g =>
      cases g with
      | func k =>
        simp only [hb] at h
        split at h
        · cases h
        · cases h
        · split at h <;> cases h
        · cases h
      | tmp u => simp [hb] at h
      | const v => simp [hb] at h
      | global v => simp [hb] at h
  all_goals cases h
theorem sc_fresh {tm : List PV} {st : St} {o : Oper} (h : scOf C f o = .fresh) : clsOf C f tm st o = .free ∨ clsOf C f tm st o = .state (oldLoc st) := by
  unfold scOf at h
  unfold clsOf
  cases ho : o.op <;> simp only [ho] at h ⊢
  case alloc t => exact .inr trivial
  case box t x => exact .inr trivial
  case load ty a => cases a <;> simp at h
  case store ty a x => cases a <;> simp at h
  case buildSlice ty l ps => cases hr : rfOf C f o <;> simp [hr] at h ⊢
  case makeSlice ty l c => cases hr : rfOf C f o <;> simp [hr] at h ⊢
  case call c =>
    cases hb : c.callee with
    | builtin b => cases b <;> simp [hb] at h
    | invoke r m => simp [hb] at h
    | value g =>
      cases g with
      | func k =>
        simp only [hb] at h ⊢
        simp only [PV.ev, List.nil_append, List.append_nil]
        split
        · exact .inl rfl
        · cases hm : C.mode k with
          | pure => rw [hm] at h; cases h
          | rd => exact .inr rfl
          | loc => rw [hm] at h; simp only at h; split at h <;> cases h
          | keep => rw [hm] at h; cases h
      | tmp u => simp [hb] at h
      | const v => simp [hb] at h
      | global v => simp [hb] at h
  all_goals cases h
theorem sc_loc {tm : List PV} {st : St} {o : Oper} {t : Tmp} {r : PV × St} (h : scOf C f o = .loc t) (he : evOp C call f wr tm st o = some r) : clsOf C f tm st o = .free ∨ ∃ l off, tm.getD t .any = .ptr l off ∧ clsOf C f tm st o = .state fun k => oldLoc st k && k != l := by
  unfold scOf at h
  cases ho : o.op <;> simp only [ho] at h
  case load ty a => cases a <;> simp at h
  case store ty a x => cases a <;> simp at h
  case buildSlice ty l ps => cases hr : rfOf C f o <;> simp [hr] at h
  case makeSlice ty l c => cases hr : rfOf C f o <;> simp [hr] at h
  case call c =>
    cases hb : c.callee with
    | builtin b => cases b <;> simp [hb] at h
    | invoke r m => simp [hb] at h
    | value g =>
      cases g with
      | func k =>
        simp only [hb] at h
        simp only [evOp, ho, hb, PV.ev, List.nil_append, List.append_nil] at he
        simp only [clsOf, ho, hb, PV.ev, List.nil_append, List.append_nil]
        unfold callBy at he
        split
        · exact .inl rfl
        · rename_i hp
          rw [hp] at he
          simp only at he
          cases hm : C.mode k with
          | pure => rw [hm] at h; cases h
          | rd => rw [hm] at h; cases h
          | keep => rw [hm] at h; cases h
          | loc =>
            rw [hm] at h he
            simp only at h he
            split at h
            · rename_i u rest hargs
              simp only [SC.loc.injEq] at h
              subst h
              rw [hargs] at he ⊢
              simp only [List.map_cons, PV.ev] at he ⊢
              split at he
              · rename_i l hl
                refine .inr ?_
                unfold leads at hl
                split at hl
                · rename_i l' off' rest' hx
                  simp only [List.cons.injEq] at hx
                  simp only [Option.some.injEq] at hl
                  subst hl
                  exact ⟨_, _, hx.1, rfl⟩
                · cases hl
              · cases he
            · cases h
      | tmp u => simp [hb] at h
      | const v => simp [hb] at h
      | global v => simp [hb] at h
  all_goals cases h
theorem len_up {tm : List PV} {st st' : St} {o : Oper} {p : PV} (h : evOp C call f wr tm st o = some (p, st')) (hw : isWild (scOf C f o) = false) : st.locs.length ≤ st'.locs.length := by
  have quiet : ∀ {q : Option PV}, withSt st q = some (p, st') → st.locs.length ≤ st'.locs.length := fun hq => by rw [(withSt_some hq).2]; exact Nat.le_refl _
  cases hsc : scOf C f o with
  | free => rw [(free_ok h (sc_free hsc)).1]; exact Nat.le_refl _
  | load t =>
    rcases sc_load (tm := tm) (st := st) hsc with h1 | ⟨l, off, _, h1⟩
    · rw [(free_ok h h1).1]; exact Nat.le_refl _
    · rw [(reads_ok h h1).1]; exact Nat.le_refl _
  | wild => rw [hsc] at hw; cases hw
  | store t =>
    unfold scOf at hsc
    cases ho : o.op <;> simp only [ho] at hsc
    case store ty a x =>
      simp only [evOp, ho] at h
      rw [Option.map_eq_some_iff] at h
      obtain ⟨s, h1, h2⟩ := h
      simp only [Prod.mk.injEq] at h2
      rw [← h2.2]
      unfold evStore at h1
      split at h1
      · split at h1
        · split at h1
          · simp only [Option.some.injEq] at h1; rw [← h1]; simp
          · cases h1
        · cases h1
      · cases h1
    case load ty a => cases a <;> simp at hsc
    case buildSlice ty l ps => cases hr : rfOf C f o <;> simp [hr] at hsc
    case makeSlice ty l c => cases hr : rfOf C f o <;> simp [hr] at hsc
    case call c =>
      cases hb : c.callee with
      | builtin b => cases b <;> simp [hb] at hsc
      | invoke r m => simp [hb] at hsc
      | value g =>
        cases g with
        | func k =>
          simp only [hb] at hsc
          split at hsc
          · cases hsc
          · cases hsc
          · split at hsc <;> cases hsc
          · cases hsc
        | tmp u => simp [hb] at hsc
        | const v => simp [hb] at hsc
        | global v => simp [hb] at hsc
    all_goals cases hsc
  | fresh =>
    cases ho : o.op <;> simp only [evOp, ho] at h <;> (try (cases h; done)) <;> (try (exact quiet h)) <;> (try (simp only [scOf, ho] at hsc; cases hsc; done))
    case alloc t =>
      unfold evAlloc at h
      split at h
      · split at h
        · simp only [Option.some.injEq, Prod.mk.injEq] at h; rw [← h.2]; simp [newLoc]
        · cases h
      · cases h
    case box t x =>
      unfold evBox at h
      split at h
      · simp only [Option.some.injEq, Prod.mk.injEq] at h; rw [← h.2]; simp [newLoc]
      · cases h
    case store t a x => simp only [scOf, ho] at hsc; cases a <;> cases hsc
    case buildSlice t l ps =>
      unfold evBuildSlice at h
      split at h
      · split at h
        · split at h
          · rw [Option.map_eq_some_iff] at h
            obtain ⟨xs, h1, h2⟩ := h
            unfold mkRow at h2
            split at h2 <;> (simp only [Prod.mk.injEq] at h2; rw [← h2.2]; simp [newLoc])
          · cases h
        · cases h
      · cases h
    case makeSlice t l c =>
      unfold evMakeSlice at h
      split at h
      · split at h
        · split at h
          · unfold mkRow at h
            split at h <;> (simp only [Option.some.injEq, Prod.mk.injEq] at h; rw [← h.2]; simp [newLoc])
          · cases h
        · cases h
      · cases h
    case call c =>
      simp only [scOf, ho] at hsc
      cases hb : c.callee with
      | builtin b => cases b <;> simp [hb] at hsc
      | invoke r m => simp [hb] at hsc
      | value g =>
        cases g with
        | func k =>
          simp only [hb] at hsc h
          simp only [PV.ev, List.nil_append, List.append_nil] at h
          unfold callBy at h
          split at h
          · simp only [Option.some.injEq, Prod.mk.injEq] at h; rw [← h.2]; exact Nat.le_refl _
          · cases hm : C.mode k with
            | pure => rw [hm] at hsc; cases hsc
            | rd =>
              rw [hm] at h
              simp only at h
              split at h
              · split at h
                · simp only [Option.some.injEq, Prod.mk.injEq] at h; rw [← h.2]; exact Nat.le_refl _
                · cases h
              · cases h
            | loc => rw [hm] at hsc; simp only at hsc; split at hsc <;> cases hsc
            | keep => rw [hm] at hsc; cases hsc
        | tmp u => simp [hb] at hsc
        | const v => simp [hb] at hsc
        | global v => simp [hb] at hsc
  | loc t =>
    cases ho : o.op <;> simp only [scOf, ho] at hsc <;> (try (cases hsc; done))
    case load ty a => cases a <;> simp at hsc
    case store ty a x => cases a <;> simp at hsc
    case buildSlice ty l ps => cases hr : rfOf C f o <;> simp [hr] at hsc
    case makeSlice ty l c => cases hr : rfOf C f o <;> simp [hr] at hsc
    case call c =>
      cases hb : c.callee with
      | builtin b => cases b <;> simp [hb] at hsc
      | invoke r m => simp [hb] at hsc
      | value g =>
        cases g with
        | func k =>
          simp only [hb] at hsc
          simp only [evOp, ho, hb, PV.ev, List.nil_append, List.append_nil] at h
          unfold callBy at h
          split at h
          · simp only [Option.some.injEq, Prod.mk.injEq] at h; rw [← h.2]; exact Nat.le_refl _
          · cases hm : C.mode k with
            | pure => rw [hm] at hsc; cases hsc
            | rd => rw [hm] at hsc; cases hsc
            | keep => rw [hm] at hsc; cases hsc
            | loc =>
              rw [hm] at h
              simp only at h
              split at h
              · unfold callLoc at h
                split at h
                · split at h
                  · split at h
                    · split at h
                      · simp only [Option.some.injEq, Prod.mk.injEq] at h; rw [← h.2]; simp
                      · split at h
                        · simp only [Option.some.injEq, Prod.mk.injEq] at h; rw [← h.2]; simp
                        · cases h
                    · cases h
                  · cases h
                · cases h
              · cases h
        | tmp u => simp [hb] at hsc
        | const v => simp [hb] at hsc
        | global v => simp [hb] at hsc
theorem mapM_mem {α β : Type} {F : α → Option β} : ∀ {l : List α} {ls : List β}, l.mapM F = some ls → ∀ a ∈ l, ∃ b, F a = some b ∧ b ∈ ls
  | [], ls, h, a, ha => by cases ha
  | x :: l, ls, h, a, ha => by
    simp only [List.mapM_cons, Option.bind_eq_bind, Option.bind_eq_some_iff, Option.pure_def, Option.some.injEq] at h
    obtain ⟨y, hy, ys, hys, rfl⟩ := h
    rcases List.mem_cons.1 ha with rfl | ha
    · exact ⟨y, hy, by simp⟩
    · obtain ⟨b, h1, h2⟩ := mapM_mem hys a ha
      exact ⟨b, h1, by simp [h2]⟩
theorem pairs_ok {tmE : List PV} {st : St} {l : List (Bool × Tmp × Tmp)} (hdyn : dynOf C f ops = some l) (hck : l.all (dynCk tmE st) = true) (hS0 : S 0 = st) (hTE : T ops.size = tmE) (hstep : ∀ (i : Nat) (o : Oper), ops[i]? = some o → StepOf C call f wr ops.toList T S R K i o) (hKs : ∀ i, i < ops.size → Ks[i]? = some (K i)) :
    ordersOk ops = true ∧ ∀ i j, i < j → j < ops.size → pairOk (aheadOf ops.toList []) ops.toList Ks i j = true := by
  unfold dynOf at hdyn
  simp only at hdyn
  split at hdyn
  · rename_i ls hls
    split at hdyn
    · rename_i hc
      simp only [Bool.and_eq_true] at hc
      obtain ⟨⟨hord, hfix⟩, hwild⟩ := hc
      simp only [Option.some.injEq] at hdyn
      refine ⟨hord, fun i j hij hj => ?_⟩
      have opsAt : ∀ k, k < ops.size → ∃ o, ops[k]? = some o := fun k hk => ⟨ops[k], Array.getElem?_eq_getElem hk⟩
      obtain ⟨oi, hoi⟩ := opsAt i (by omega)
      obtain ⟨oj, hoj⟩ := opsAt j hj
      have scAt : ∀ {k o}, ops[k]? = some o → (ops.toList.map (scOf C f)).getD k .wild = scOf C f o := fun {k o} hk => by
        have : ops.toList[k]? = some o := by simpa using hk
        simp [List.getD, List.getElem?_map, this]
      obtain ⟨row, hrow, hrow2⟩ := mapM_mem hls j (List.mem_range.2 hj)
      obtain ⟨prs, hprs, hprs2⟩ := mapM_mem hrow i (List.mem_range.2 hij)
      have hsub : ∀ d ∈ prs, d ∈ l := fun d hd => by
        rw [← hdyn]
        exact List.mem_flatten.2 ⟨row.flatten, List.mem_map.2 ⟨row, hrow2, rfl⟩, List.mem_flatten.2 ⟨prs, hprs2, hd⟩⟩
      unfold pairOk
      cases hbit : ((aheadOf ops.toList []).getD j 0).testBit i with
      | true => rfl
      | false =>
        rw [Bool.false_or, Bool.and_eq_true]
        unfold pairSt at hprs
        rw [hbit, if_neg (by simp)] at hprs
        split at hprs
        · rename_i hapart
          refine ⟨hapart, ?_⟩
          rw [scAt hoi, scAt hoj] at hprs
          rw [hKs i (by omega), hKs j hj]
          -- the addresses are the same at the end
          have fixed : ∀ {k o t}, ops[k]? = some o → scTmp (scOf C f o) = some t → tmE.getD t .any = (T k).getD t .any := fun {k o t} hk ht => by
            have hklt : k < ops.size := (Array.getElem?_eq_some_iff.1 hk).1
            rw [List.all_eq_true] at hfix
            have hfk := hfix k (List.mem_range.2 hklt)
            rw [scAt hk, ht] at hfk
            simp only [List.all_eq_true, List.mem_range, Bool.or_eq_true, decide_eq_true_eq, Bool.not_eq_true', beq_eq_false_iff_ne, ne_eq, Array.getElem?_toList] at hfk
            have key : ∀ m, k ≤ m → m ≤ ops.size → (T m).getD t .any = (T k).getD t .any := by
              intro m
              induction m with
              | zero => intro h1 _; have : k = 0 := by omega
                        rw [this]
              | succ m ih =>
                intro h1 h2
                by_cases hkm : k = m + 1
                · rw [hkm]
                · obtain ⟨om, hom⟩ := opsAt m (by omega)
                  rw [(hstep m om hom).1, put_other, ih (by omega) (by omega)]
                  rcases hfk m (by omega) with h3 | h3
                  · omega
                  · intro e
                    exact h3 (by rw [hom]; exact e)
            rw [← hTE]
            exact key ops.size (by omega) (Nat.le_refl _)
          have grow : l ≠ [] → ∀ k, k ≤ ops.size → st.locs.length ≤ (S k).locs.length := fun hne k => by
            have hnw : ∀ k o, ops[k]? = some o → isWild (scOf C f o) = false := fun k o hk => by
              have h1 : (ops.toList.map (scOf C f)).all (fun x => !isWild x) = true := by
                rw [Bool.or_eq_true] at hwild
                rcases hwild with h | h
                · rw [hdyn] at h; cases l with
                  | nil => exact absurd rfl hne
                  | cons _ _ => simp at h
                · exact h
              rw [List.all_eq_true] at h1
              have h2 := h1 (scOf C f o) (List.mem_map.2 ⟨o, by simpa using Array.mem_of_getElem? hk, rfl⟩)
              simpa using h2
            induction k with
            | zero => intro _; rw [hS0]; exact Nat.le_refl _
            | succ k ih =>
              intro hk
              obtain ⟨o, ho⟩ := opsAt k (by omega)
              refine Nat.le_trans (ih (by omega)) ?_
              rcases (hstep k o ho).2 with ⟨_, h1, _⟩ | ⟨_, _, h1, _⟩
              · exact len_up h1 (hnw k o ho)
              · rw [h1]; exact Nat.le_refl _
          -- what each of the two is
          have clsAt : ∀ {k o}, ops[k]? = some o → K k = .free ∨ (∃ r, evOp C call f wr (T k) (S k) o = some r) ∧ K k = clsOf C f (T k) (S k) o := fun {k o} hk => by
            rcases (hstep k o hk).2 with ⟨_, h1, h2⟩ | ⟨_, _, _, h1⟩
            · exact .inr ⟨⟨_, h1⟩, h2⟩
            · exact .inl h1
          have freeL : ∀ x, clsPair (some .free) (some x) = true := fun x => by cases x <;> rfl
          have freeR : ∀ x, clsPair (some x) (some .free) = true := fun x => by cases x <;> rfl
          -- a load beside one that changes the state
          have meet : ∀ {a b : Nat} {oa ob : Oper} {t u : Tmp} {ne : Bool}, ops[a]? = some oa → ops[b]? = some ob → a ≤ ops.size → b ≤ ops.size → scOf C f oa = .load t → (ne, t, u) ∈ l →
              ((ne = true ∧ (scOf C f ob = .store u ∨ scOf C f ob = .loc u)) ∨ (ne = false ∧ scOf C f ob = .fresh)) → K a = .free ∨ K b = .free ∨ ∃ x kp, K a = .reads x ∧ K b = .state kp ∧ kp x = true := by
            intro a b oa ob t u ne ha hb hal hbl hsa hmem hsb
            rcases clsAt ha with h1 | ⟨⟨ra, hea⟩, h1⟩
            · exact .inl h1
            rcases clsAt hb with h2 | ⟨⟨rb, heb⟩, h2⟩
            · exact .inr (.inl h2)
            rcases sc_load (tm := T a) (st := S a) hsa with h3 | ⟨x, off, h3, h4⟩
            · exact .inl (by rw [h1, h3])
            right
            have hlen := grow (List.ne_nil_of_mem hmem) b hbl
            rw [List.all_eq_true] at hck
            have hd := hck _ hmem
            unfold dynCk at hd
            simp only at hd
            rw [fixed ha (by rw [hsa]; rfl), h3] at hd
            simp only [Bool.and_eq_true, decide_eq_true_eq] at hd
            obtain ⟨hd1, hd2⟩ := hd
            have hold : oldLoc (S b) x = true := by simp [oldLoc]; omega
            rcases hsb with ⟨rfl, hsb⟩ | ⟨rfl, hsb⟩
            · have two : ∀ {y off'}, (T b).getD u .any = .ptr y off' → scTmp (scOf C f ob) = some u → (K b = .state fun k => oldLoc (S b) k && k != y) → K b = .free ∨ ∃ x' kp, K a = .reads x' ∧ K b = .state kp ∧ kp x' = true := fun {y off'} h5 h6 h7 => by
                rw [fixed hb h6, h5] at hd2
                refine .inr ⟨x, _, by rw [h1, h4], h7, ?_⟩
                simp only [hold, Bool.true_and]
                simpa using hd2
              rcases hsb with hsb | hsb
              · obtain ⟨y, off', h5, h6⟩ := sc_store hsb heb
                exact two h5 (by rw [hsb]; rfl) (by rw [h2, h6])
              · rcases sc_loc hsb heb with h5 | ⟨y, off', h5, h6⟩
                · exact .inl (by rw [h2, h5])
                · exact two h5 (by rw [hsb]; rfl) (by rw [h2, h6])
            · rcases sc_fresh (tm := T b) (st := S b) hsb with h5 | h5
              · exact .inl (by rw [h2, h5])
              · exact .inr ⟨x, _, by rw [h1, h4], by rw [h2, h5], hold⟩
          have kfree : ∀ {k o}, ops[k]? = some o → scOf C f o = .free → K k = .free := fun {k o} hk hs => by
            rcases clsAt hk with h1 | ⟨_, h1⟩
            · exact h1
            · rw [h1, sc_free hs]
          have kload : ∀ {k o t}, ops[k]? = some o → scOf C f o = .load t → K k = .free ∨ ∃ x, K k = .reads x := fun {k o t} hk hs => by
            rcases clsAt hk with h1 | ⟨_, h1⟩
            · exact .inl h1
            · rcases sc_load (tm := T k) (st := S k) hs with h2 | ⟨x, _, _, h2⟩
              · exact .inl (by rw [h1, h2])
              · exact .inr ⟨x, by rw [h1, h2]⟩
          have done1 : (K i = .free ∨ K j = .free ∨ ∃ x kp, K i = .reads x ∧ K j = .state kp ∧ kp x = true) → clsPair (some (K i)) (some (K j)) = true := fun h => by
            rcases h with h | h | ⟨x, kp, h1, h2, h3⟩
            · rw [h]; exact freeL _
            · rw [h]; exact freeR _
            · rw [h1, h2]; exact h3
          have done2 : (K j = .free ∨ K i = .free ∨ ∃ x kp, K j = .reads x ∧ K i = .state kp ∧ kp x = true) → clsPair (some (K i)) (some (K j)) = true := fun h => by
            rcases h with h | h | ⟨x, kp, h1, h2, h3⟩
            · rw [h]; exact freeR _
            · rw [h]; exact freeL _
            · rw [h1, h2]; exact h3
          unfold scPair at hprs
          split at hprs
          · rename_i hs; rw [kfree hoi hs]; exact freeL _
          · rename_i hs _; rw [kfree hoj hs]; exact freeR _
          · rename_i t u h1 h2
            rcases kload hoi h1 with h3 | ⟨x, h3⟩
            · rw [h3]; exact freeL _
            · rcases kload hoj h2 with h4 | ⟨y, h4⟩
              · rw [h4]; exact freeR _
              · rw [h3, h4]; rfl
          · rename_i t u h1 h2
            simp only [Option.some.injEq] at hprs; subst hprs
            exact done1 (meet hoi hoj (by omega) (by omega) h1 (hsub _ (by simp)) (.inl ⟨rfl, .inl h2⟩))
          · rename_i t u h1 h2
            simp only [Option.some.injEq] at hprs; subst hprs
            exact done2 (meet hoj hoi (by omega) (by omega) h2 (hsub _ (by simp)) (.inl ⟨rfl, .inl h1⟩))
          · rename_i t u h1 h2
            simp only [Option.some.injEq] at hprs; subst hprs
            exact done1 (meet hoi hoj (by omega) (by omega) h1 (hsub _ (by simp)) (.inl ⟨rfl, .inr h2⟩))
          · rename_i t u h1 h2
            simp only [Option.some.injEq] at hprs; subst hprs
            exact done2 (meet hoj hoi (by omega) (by omega) h2 (hsub _ (by simp)) (.inl ⟨rfl, .inr h1⟩))
          · rename_i t h1 h2
            simp only [Option.some.injEq] at hprs; subst hprs
            exact done1 (meet (u := t) hoi hoj (by omega) (by omega) h1 (hsub _ (by simp)) (.inr ⟨rfl, h2⟩))
          · rename_i t h1 h2
            simp only [Option.some.injEq] at hprs; subst hprs
            exact done2 (meet (u := t) hoj hoi (by omega) (by omega) h2 (hsub _ (by simp)) (.inr ⟨rfl, h1⟩))
          · cases hprs
        · cases hprs
    · cases hdyn
  · cases hdyn
theorem draw_ok (hok : Ok C call B) {id : Nat} {tm tm' : List PV} {st st' : St} {g : Gh} {a : Act} {w : World} {r : Option Nat} {n : Nat} {Q : Exit → Act → World → Prop} {l : List (Bool × Tmp × Tmp)} (hdyn : dynOf C f ops = some l) (hck : l.all (dynCk tm' st) = true)
    (h : evOps C call f wr ops.toList ops.toList tm st = some (tm', st')) (hs : SR B g st w) (ht : Reps g tm a.tmps.toList) (hQ : ∀ a' w', After B wr g st w tm' st' a.defers a' w' → Q .normal a' w') : (Code.region id ops true).wpIn (Fw r) n C.P Q a w := by
  obtain ⟨T, S, R, K, hT0, hS0, hTE, hSE, hstep, hKs⟩ := run_exists ops.toList tm st h
  simp only [Array.length_toList] at hTE hSE hKs
  obtain ⟨hord, hpairs⟩ := pairs_ok (Ks := clsOps C call f wr ops.toList ops.toList tm st) hdyn hck hS0 hTE (fun i o ho => hstep i o (by simpa using ho)) hKs
  refine wpIn_region_draw fun t => ?_
  have hgood := schedule_good hord (C.P.follows .mixedOrders) t
  have hs1 := hs.draws 1
  have hnone : ∀ k, k ≤ ops.size → SL S K (seen (Array.replicate ops.size false)) k = st ∧ TL ops R tm (seen (Array.replicate ops.size false)) k = tm := by
    intro k
    induction k with
    | zero => intro _; exact ⟨hS0, rfl⟩
    | succ k ih =>
      intro hk
      have : seen (Array.replicate ops.size false) k = false := by simp [seen, Array.getD_eq_getD_getElem?, show k < ops.size by omega]
      simp only [SL, TL, this, Bool.false_and, Bool.false_eq_true, if_false]
      exact ih (by omega)
  obtain ⟨e1, e2⟩ := hnone ops.size (Nat.le_refl _)
  refine draw_ops (B := B) (g0 := g) (w0 := w.drewN 1) (ds := a.defers) hok hT0 hS0 (fun i o ho => hstep i o (by simpa using ho)) hKs hpairs hs1 (fun a' w' hA => ?_) hgood (fun j hj => ?_) g a (w.drewN 1) (by rw [e1]; exact Fr.refl ..) (by rw [e1]; exact hs1) (by rw [e2]; exact ht) rfl
  · obtain ⟨g', h1, h2, h3, h4⟩ := hA
    rw [hTE] at h3
    rw [hSE] at h1 h2
    exact hQ a' w' ⟨g', (Fr.draws B wr g st w 1).trans hs hs1 h1, h2, h3, h4⟩
  · intro o ho
    have hj' : j < ops.size := (Array.getElem?_eq_some_iff.1 ho).1
    simp [seen, Array.getD_eq_getD_getElem?, hj'] at hj
end draw
end Go.Proofs.YtlkaoiceehlkmaaVE

namespace Go.Proofs.YtlkaoiceehlkmaaVE
open Go Go.RowKit
set_option linter.unusedVariables false
set_option linter.unusedSimpArgs false

/-! The record of a loop over a function turns: what speaks of no yield stays. -/
def Gh.withObj (g : Gh) (o : Nat → Option Go.Loop) : Gh := { g with obj := o }
mutual
theorem Rep.withObj {g : Gh} {o : Nat → Option Go.Loop} : ∀ (p : PV) (v : Value), nof p = true → Rep g p v → Rep (g.withObj o) p v
  | .any, v, _, h => by simp only [Rep]
  | .v x, v, _, h => by simp only [Rep] at h ⊢; exact h
  | .row xs f, v, hn, h => by
    simp only [nof] at hn
    simp only [Rep] at h ⊢
    rcases h with h | ⟨b, of, sz, cap, vals, h1, h2, h3, h4, h5, h6⟩
    · exact .inl h
    · exact .inr ⟨b, of, sz, cap, vals, h1, h2, h3, Repss.withObj xs vals hn h4, h5, by cases f <;> exact h6⟩
  | .ref l sz off len, v, _, h => by simp only [Rep] at h ⊢; exact h
  | .ptr l off, v, _, h => by simp only [Rep] at h ⊢; exact h
  | .eptr cs, v, hn, h => by
    simp only [nof] at hn
    simp only [Rep] at h ⊢
    obtain ⟨b, of, vals, h1, h2, h3⟩ := h
    exact ⟨b, of, vals, h1, h2, Reps.withObj cs vals hn h3⟩
  | .agg cs, v, hn, h => by
    simp only [nof] at hn
    simp only [Rep] at h ⊢
    obtain ⟨vs, h1, h2⟩ := h
    exact ⟨vs, h1, Reps.withObj cs vs hn h2⟩
  | .fn f a b, v, hn, h => by
    simp only [nof, Bool.and_eq_true] at hn
    simp only [Rep] at h ⊢
    obtain ⟨va, vb, h1, h2, h3⟩ := h
    exact ⟨va, vb, h1, Reps.withObj a va hn.1 h2, Reps.withObj b vb hn.2 h3⟩
  | .iface t p, v, hn, h => by
    simp only [nof] at hn
    simp only [Rep] at h ⊢
    obtain ⟨u, h1, h2⟩ := h
    exact ⟨u, h1, Rep.withObj p u hn h2⟩
  | .tuple ps, v, hn, h => by
    simp only [nof] at hn
    simp only [Rep] at h ⊢
    obtain ⟨vs, h1, h2⟩ := h
    exact ⟨vs, h1, Reps.withObj ps vs hn h2⟩
  | .yld .., v, hn, h => by simp only [nof] at hn; cases hn
theorem Reps.withObj {g : Gh} {o : Nat → Option Go.Loop} : ∀ (ps : List PV) (vs : List Value), nofs ps = true → Reps g ps vs → Reps (g.withObj o) ps vs
  | [], vs, _, h => by simp only [Reps] at h ⊢; exact h
  | p :: ps, vs, hn, h => by
    simp only [nofs, Bool.and_eq_true] at hn
    simp only [Reps] at h ⊢
    obtain ⟨v, vs', h1, h2, h3⟩ := h
    exact ⟨v, vs', h1, Rep.withObj p v hn.1 h2, Reps.withObj ps vs' hn.2 h3⟩
theorem Repss.withObj {g : Gh} {o : Nat → Option Go.Loop} : ∀ (cs : List (List PV)) (vs : List Value), nofss cs = true → Repss g cs vs → Repss (g.withObj o) cs vs
  | [], vs, _, h => by simp only [Repss] at h ⊢; exact h
  | c :: cs, vs, hn, h => by
    simp only [nofss, Bool.and_eq_true] at hn
    simp only [Repss] at h ⊢
    obtain ⟨v1, v2, h1, h2, h3⟩ := h
    exact ⟨v1, v2, h1, Reps.withObj c v1 hn.1 h2, Repss.withObj cs v2 hn.2 h3⟩
end
theorem Rep.clean {g : Gh} {o : Nat → Option Go.Loop} {p : PV} {v : Value} (h : Rep g p v) : Rep (g.withObj o) (clean p) v := by
  unfold YtlkaoiceehlkmaaVE.clean
  split
  · rename_i hn; exact Rep.withObj p v hn h
  · simp only [Rep]
theorem Reps.clean {g : Gh} {o : Nat → Option Go.Loop} : ∀ {ps : List PV} {vs : List Value}, Reps g ps vs → Reps (g.withObj o) (ps.map YtlkaoiceehlkmaaVE.clean) vs
  | [], vs, h => h
  | p :: ps, vs, h => by
    simp only [Reps] at h
    obtain ⟨v, vs', rfl, h1, h2⟩ := h
    simp only [List.map_cons, Reps]
    exact ⟨v, vs', rfl, h1.clean, h2.clean⟩
theorem locAt_clean (st : St) (l : Nat) : locAt (cleanSt st) l = (locAt st l).map (List.map YtlkaoiceehlkmaaVE.clean) := by
  unfold locAt cleanSt
  rw [List.getElem?_map]
  cases st.locs[l]? with
  | none => rfl
  | some o => cases o <;> rfl

section putObj
variable {w : World} {l : Nat} {r r' : Go.Loop}
theorem lt_of_obj {k : Nat} {o : Obj} (h : w.heap[k]? = some o) : k < w.heap.size := by
  rcases Nat.lt_or_ge k w.heap.size with h1 | h1
  · exact h1
  · rw [Array.getElem?_eq_none h1] at h; cases h
theorem cell_put {o : Obj} (h : w.heap[l]? = some (.loop r)) (ho : still o = true) (a : Addr) : (w.putObj l o).cell? a = w.cell? a := by
  unfold World.cell?
  by_cases e : a.block = l
  · rw [e, World.putObj_heap_same (lt_of_obj h), h]
    cases o <;> simp_all [still]
  · rw [World.putObj_heap_other e]
theorem froz_put {o : Obj} (h : w.heap[l]? = some (.loop r)) (ho : still o = true) (a : Addr) : (w.putObj l o).frozen? a = w.frozen? a := by
  unfold World.frozen?
  by_cases e : a.block = l
  · rw [e, World.putObj_heap_same (lt_of_obj h), h]
    cases o <;> simp_all [still]
  · rw [World.putObj_heap_other e]
theorem below_put {B : Nat} {o : Obj} (hl : B ≤ l) : Below B w (w.putObj l o) :=
  ⟨rfl, rfl, rfl, by simp, fun k hk => World.putObj_heap_other (by omega)⟩
end putObj

/-- The ghost in which a record is another one, or is not known. -/
def Gh.setObj (g : Gh) (l : Nat) (r : Option Go.Loop) : Gh := g.withObj fun k => if k = l then r else g.obj k
theorem SR.setObj {B : Base} {g : Gh} {st : St} {w : World} {l : Nat} {r r' : Go.Loop} (h : SR B g st w) (hl : B.n ≤ l) (hw : w.heap[l]? = some (.loop r)) (q : Option Go.Loop) (hq : q = some r' ∨ q = none) :
    SR B (g.setObj l q) (cleanSt st) (w.putObj l (.loop r')) where
  nl := by simp [Gh.setObj, Gh.withObj, cleanSt, h.nl]
  nt := h.nt
  old := h.old.trans (below_put hl)
  im := fun b o v hv => by rw [cell_put hw rfl]; exact h.im b o v hv
  mloc := fun b o k hk => by rw [cell_put hw rfl, froz_put hw rfl]; exact h.mloc b o k hk
  mspare := fun b o k hk => by rw [cell_put hw rfl, froz_put hw rfl]; exact h.mspare b o k hk
  loc := fun k cs hk => by
    rw [locAt_clean, Option.map_eq_some_iff] at hk
    obtain ⟨ds, hk, rfl⟩ := hk
    obtain ⟨h1, h2, vals, h3, h4⟩ := h.loc k ds hk
    refine ⟨by rw [List.length_map]; exact h1, h2, vals, h3.clean, fun j v hj => ?_⟩
    rw [cell_put hw rfl]
    exact h4 j v hj
  tok := h.tok
  obj := fun k x hx => by
    simp only [Gh.setObj, Gh.withObj] at hx
    by_cases e : k = l
    · subst e
      rw [if_pos rfl] at hx
      rcases hq with hq | hq
      · rw [hq] at hx
        simp only [Option.some.injEq] at hx
        subst hx
        exact ⟨hl, World.putObj_heap_same (lt_of_obj hw)⟩
      · rw [hq] at hx; cases hx
    · rw [if_neg e] at hx
      exact ⟨(h.obj k x hx).1, by rw [World.putObj_heap_other e]; exact (h.obj k x hx).2⟩

/-- From one moment to a later one, but for one record. -/
structure FrX (B : Base) (wr : Wr) (l : Nat) (g : Gh) (st : St) (w : World) (g' : Gh) (st' : St) (w' : World) : Prop where
  im : ∀ b o v, g.own b o = .im v → g'.own b o = .im v
  nl : g.nl ≤ g'.nl
  nt : g.nt ≤ g'.nt
  base : ∀ l, l < g.nl → g'.base l = g.base l
  ext : ∀ l, l < g.nl → g'.ext l = g.ext l
  reg : ∀ t, t < g.nt → g'.reg t = g.reg t
  objs : ∀ k r, k ≠ l → g.obj k = some r → g'.obj k = some r
  below : Below B w w'
  len : st.locs.length ≤ st'.locs.length
  dead : ∀ l, l < st.locs.length → locAt st l = none → locAt st' l = none
  live : ∀ t, t < st.next → t ∈ st'.live → t ∈ st.live
  keep : ∀ b o, b < w.heap.size → Fixed wr st (g.own b o) → g'.own b o = g.own b o ∧ w'.cell? ⟨b, o, none⟩ = w.cell? ⟨b, o, none⟩
  fz : ∀ b o, b < w.heap.size → w'.frozen? ⟨b, o, none⟩ = w.frozen? ⟨b, o, none⟩
  there : ∀ b o, (w.cell? ⟨b, o, none⟩).isSome = true → (w'.cell? ⟨b, o, none⟩).isSome = true
  ol : ∀ b o l, g'.own b o = .loc l → g.own b o = .loc l ∨ g.nl ≤ l
  obj : ∀ (k : Nat) (o : Obj), k ≠ l → w.heap[k]? = some o → still o = true → w'.heap[k]? = some o
section frx
variable {B : Base} {wr : Wr} {l : Nat} {g g1 g2 : Gh} {st st1 st2 : St} {w w1 w2 : World}
theorem Fr.x (h : Fr B wr g st w g1 st1 w1) (l : Nat) : FrX B wr l g st w g1 st1 w1 :=
  ⟨h.le.im, h.le.nl, h.le.nt, h.le.base, h.le.ext, h.le.reg, fun k r _ hr => h.le.obj k r hr, h.below, h.len, h.dead, h.live, h.keep, h.fz, h.there, h.ol, fun k o _ h1 h2 => h.obj k o h1 h2⟩
theorem FrX.fr (h : FrX B wr l g st w g1 st1 w1) (hw : wr.flr = 0) (h1 : ∀ r, g.obj l = some r → g1.obj l = some r) (h2 : ∀ o : Obj, w.heap[l]? = some o → still o = true → w1.heap[l]? = some o) : Fr B wr g st w g1 st1 w1 :=
  ⟨⟨h.im, h.nl, h.nt, h.base, h.ext, h.reg, fun k r hr => by
      by_cases e : k = l
      · subst e; exact h1 r hr
      · exact h.objs k r e hr⟩, h.below, h.len, fun k _ hk => by simp [Wr.ok, hw] at hk, h.dead, h.live, h.keep, h.fz, h.there, h.ol, fun k o ho hs => by
      by_cases e : k = l
      · subst e; exact h2 o ho hs
      · exact h.obj k o e ho hs⟩
theorem FrX.trans (hs : SR B g st w) (hs1 : SR B g1 st1 w1) (h : FrX B wr l g st w g1 st1 w1) (k : FrX B wr l g1 st1 w1 g2 st2 w2) : FrX B wr l g st w g2 st2 w2 where
  im := fun b o v hv => k.im _ _ _ (h.im _ _ _ hv)
  nl := Nat.le_trans h.nl k.nl
  nt := Nat.le_trans h.nt k.nt
  base := fun l hl => (k.base l (Nat.lt_of_lt_of_le hl h.nl)).trans (h.base l hl)
  ext := fun l hl => (k.ext l (Nat.lt_of_lt_of_le hl h.nl)).trans (h.ext l hl)
  reg := fun t ht => (k.reg t (Nat.lt_of_lt_of_le ht h.nt)).trans (h.reg t ht)
  objs := fun i r hi hr => k.objs i r hi (h.objs i r hi hr)
  below := h.below.trans k.below
  len := Nat.le_trans h.len k.len
  dead := fun l hl hn => k.dead l (Nat.lt_of_lt_of_le hl h.len) (h.dead l hl hn)
  live := fun t ht hm => h.live t ht (k.live t (by have := h.nt; have := hs.nt; have := hs1.nt; omega) hm)
  keep := fun b o hb hf => by
    obtain ⟨h1, h2⟩ := h.keep b o hb hf
    have hf1 : Fixed wr st1 (g1.own b o) := by
      rw [h1]
      cases ho : g.own b o with
      | other => trivial
      | im v => trivial
      | loc l =>
        rw [ho] at hf
        have hl := (hs.mloc b o l ho).1
        rw [hs.nl] at hl
        exact hf.imp id (h.dead l hl)
      | spare t =>
        rw [ho] at hf
        have ht := (hs.mspare b o t ho).1
        rw [hs.nt] at ht
        exact fun hm => hf (h.live t ht hm)
    obtain ⟨h3, h4⟩ := k.keep b o (Nat.lt_of_lt_of_le hb h.below.size) hf1
    exact ⟨h3.trans h1, h4.trans h2⟩
  fz := fun b o hb => (k.fz b o (Nat.lt_of_lt_of_le hb h.below.size)).trans (h.fz b o hb)
  there := fun b o hx => k.there b o (h.there b o hx)
  ol := fun b o l hx => (k.ol b o l hx).elim (h.ol b o l) fun h2 => .inr (Nat.le_trans h.nl h2)
  obj := fun i o hi h1 h2 => k.obj i o hi (h.obj i o hi h1 h2) h2
/-- The record is put anew. -/
theorem FrX.put {r : Go.Loop} {o : Obj} (hl : B.n ≤ l) (hw : w.heap[l]? = some (.loop r)) (ho : still o = true) (q : Option Go.Loop) : FrX B wr l g st w (g.setObj l q) (cleanSt st) (w.putObj l o) where
  im := fun _ _ _ h => h
  nl := Nat.le_refl _
  nt := Nat.le_refl _
  base := fun _ _ => rfl
  ext := fun _ _ => rfl
  reg := fun _ _ => rfl
  objs := fun k r hk hr => by simp only [Gh.setObj, Gh.withObj, if_neg hk]; exact hr
  below := below_put hl
  len := by simp [cleanSt]
  dead := fun k _ hn => by rw [locAt_clean, hn]; rfl
  live := fun _ _ h => h
  keep := fun b o _ _ => ⟨rfl, cell_put hw ho _⟩
  fz := fun b o _ => froz_put hw ho _
  there := fun b o h => by rw [cell_put hw ho]; exact h
  ol := fun _ _ _ h => .inl h
  obj := fun k o' hk h _ => by rw [World.putObj_heap_other hk]; exact h
/-- The record is laid, and a block for deferred calls. -/
theorem SR.enter (h : SR B g st w) (rec : Go.Loop) : SR B (g.setObj (w.heap.size + 1) (some rec)) st ((w.alloc (.deferred (some []))).alloc (.loop rec)) := by
  have hB := h.low
  have hnew : ∀ k r, g.obj k = some r → k < w.heap.size := fun k r hr => lt_of_obj (h.obj k r hr).2
  have hle : Le g (g.setObj (w.heap.size + 1) (some rec)) := ⟨fun _ _ _ h => h, Nat.le_refl _, Nat.le_refl _, fun _ _ => rfl, fun _ _ => rfl, fun _ _ => rfl, fun k r hr => by
    have := hnew k r hr
    simp only [Gh.setObj, Gh.withObj, if_neg (show ¬ k = w.heap.size + 1 by omega)]
    exact hr⟩
  have cell : ∀ b o, b < w.heap.size → ((w.alloc (.deferred (some []))).alloc (.loop rec)).cell? ⟨b, o, none⟩ = w.cell? ⟨b, o, none⟩ := fun b o hb => by
    rw [cell_alloc_old (by rw [World.size_alloc]; omega), cell_alloc_old (by omega)]
  have froz : ∀ b o, b < w.heap.size → ((w.alloc (.deferred (some []))).alloc (.loop rec)).frozen? ⟨b, o, none⟩ = w.frozen? ⟨b, o, none⟩ := fun b o hb => by
    rw [froz_alloc_old (by rw [World.size_alloc]; omega), froz_alloc_old (by omega)]
  have own : ∀ b o, g.own b o ≠ .other → b < w.heap.size := fun b o hb => h.size hb
  refine ⟨h.nl, h.nt, (h.old.alloc hB _).alloc (by rw [World.size_alloc]; omega) _, fun b o v hv => ?_, fun b o k hk => ?_, fun b o k hk => ?_, fun k cs hk => ?_, h.tok, fun k r hr => ?_⟩
  · rw [cell b o (own b o (by intro e; have hv' : g.own b o = .im v := hv; rw [e] at hv'; cases hv'))]
    exact h.im b o v hv
  · have hb := own b o (by intro e; have hk' : g.own b o = .loc k := hk; rw [e] at hk'; cases hk')
    rw [cell b o hb, froz b o hb]
    exact h.mloc b o k hk
  · have hb := own b o (by intro e; have hk' : g.own b o = .spare k := hk; rw [e] at hk'; cases hk')
    rw [cell b o hb, froz b o hb]
    exact h.mspare b o k hk
  · obtain ⟨h1, h2, vals, h3, h4⟩ := h.loc k cs hk
    refine ⟨h1, h2, vals, Reps.mono hle _ _ h3, fun j v hj => ?_⟩
    have h5 := h4 j v hj
    exact (cell _ _ (World.block_lt_of_cell? w _ h5)).trans h5
  · simp only [Gh.setObj, Gh.withObj] at hr
    by_cases e : k = w.heap.size + 1
    · rw [if_pos e] at hr
      simp only [Option.some.injEq] at hr
      subst hr
      subst e
      refine ⟨Nat.le_succ_of_le hB, ?_⟩
      have := World.alloc_heap_new (w.alloc (.deferred (some []))) (.loop rec)
      rwa [World.size_alloc] at this
    · rw [if_neg e] at hr
      exact ⟨(h.obj k r hr).1, obj_alloc (obj_alloc (h.obj k r hr).2)⟩
theorem Fr.enter (h : SR B g st w) (rec : Go.Loop) : Fr B wr g st w (g.setObj (w.heap.size + 1) (some rec)) st ((w.alloc (.deferred (some []))).alloc (.loop rec)) where
  le := ⟨fun _ _ _ h => h, Nat.le_refl _, Nat.le_refl _, fun _ _ => rfl, fun _ _ => rfl, fun _ _ => rfl, fun k r hr => by
    have := lt_of_obj (h.obj k r hr).2
    simp only [Gh.setObj, Gh.withObj, if_neg (show ¬ k = w.heap.size + 1 by omega)]
    exact hr⟩
  below := ((Below.refl B w).alloc h.low _).alloc (by have := h.low; rw [World.size_alloc]; omega) _
  len := Nat.le_refl _
  locs := fun _ _ _ => rfl
  dead := fun _ _ h => h
  live := fun _ _ h => h
  keep := fun b o hb _ => ⟨rfl, by rw [cell_alloc_old (by rw [World.size_alloc]; omega), cell_alloc_old (by omega)]⟩
  fz := fun b o hb => by rw [froz_alloc_old (by rw [World.size_alloc]; omega), froz_alloc_old (by omega)]
  there := fun b o h => there_alloc (there_alloc h)
  ol := fun _ _ _ h => .inl h
  obj := fun k o h _ => obj_alloc (obj_alloc h)
/-- A block of deferred calls is shut. -/
theorem SR.shut {b : Nat} (h : SR B g st w) (hb : B.n ≤ b) (hw : w.heap[b]? = some (.deferred (some []))) : SR B g st (w.putObj b (.deferred none)) := by
  have cell : ∀ a, (w.putObj b (.deferred none)).cell? a = w.cell? a := fun a => by
    unfold World.cell?
    by_cases e : a.block = b
    · rw [e, World.putObj_heap_same (lt_of_obj hw), hw]
    · rw [World.putObj_heap_other e]
  have froz : ∀ a, (w.putObj b (.deferred none)).frozen? a = w.frozen? a := fun a => by
    unfold World.frozen?
    by_cases e : a.block = b
    · rw [e, World.putObj_heap_same (lt_of_obj hw), hw]
    · rw [World.putObj_heap_other e]
  exact ⟨h.nl, h.nt, h.old.trans (below_put hb), fun x o v hv => by rw [cell]; exact h.im x o v hv, fun x o k hk => by rw [cell, froz]; exact h.mloc x o k hk, fun x o k hk => by rw [cell, froz]; exact h.mspare x o k hk,
    fun k cs hk => by
      obtain ⟨h1, h2, vals, h3, h4⟩ := h.loc k cs hk
      exact ⟨h1, h2, vals, h3, fun j v hj => by rw [cell]; exact h4 j v hj⟩, h.tok, fun k r hr => by
      obtain ⟨h1, h2⟩ := h.obj k r hr
      refine ⟨h1, ?_⟩
      rw [World.putObj_heap_other (fun e => by subst e; rw [hw] at h2; cases h2)]
      exact h2⟩
theorem Fr.shut {b : Nat} (h : Fr B wr g st w g1 st1 w1) (hb : w.heap.size ≤ b) (hB : B.n ≤ b) (hw : w1.heap[b]? = some (.deferred (some []))) : Fr B wr g st w g1 st1 (w1.putObj b (.deferred none)) := by
  have cell : ∀ a, (w1.putObj b (.deferred none)).cell? a = w1.cell? a := fun a => by
    unfold World.cell?
    by_cases e : a.block = b
    · rw [e, World.putObj_heap_same (lt_of_obj hw), hw]
    · rw [World.putObj_heap_other e]
  have froz : ∀ a, (w1.putObj b (.deferred none)).frozen? a = w1.frozen? a := fun a => by
    unfold World.frozen?
    by_cases e : a.block = b
    · rw [e, World.putObj_heap_same (lt_of_obj hw), hw]
    · rw [World.putObj_heap_other e]
  exact ⟨h.le, h.below.trans (below_put hB), h.len, h.locs, h.dead, h.live, fun x o hx hf => by rw [cell]; exact h.keep x o hx hf, fun x o hx => by rw [froz]; exact h.fz x o hx, fun x o hx => by rw [cell]; exact h.there x o hx, h.ol, fun k o ho hs => by
    have := lt_of_obj ho
    rw [World.putObj_heap_other (by omega)]
    exact h.obj k o ho hs⟩
end frx
end Go.Proofs.YtlkaoiceehlkmaaVE
