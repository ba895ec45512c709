import Derived.Test.YtlkaoiceehlkmaaTeU1
import Derived.Test.YtlkaoiceehlkmaaTeP
import Derived.Test.YtlkaoiceehlkmaaVeQ1
namespace Go.Proofs.YtlkaoiceehlkmaaTE
open Go Go.Proofs.YtlkaoiceehlkmaaVE
set_option linter.unusedVariables false
set_option linter.unusedSimpArgs false

section call
variable {X : TX} {α : Type} {z : α}
/-- What an entry of the table promises. -/
def EntryOk (X : TX) (g : FuncId) (e : Entry X.A) : Prop := ∀ (v : dens X.A (sds e.ins)) (w : dens X.A (sds e.outs)), e.F v = some w → ∀ (R : Rn) (sv : St) (args' : List PV), VRs X R (injs X id (sds e.ins) v 0).1 args' →
  ∃ qs, VRs X R (injs X id (sds e.outs) w 0).1 qs ∧ ∃ k0, ∀ k, k0 ≤ k → callBy X.C (evCall X.C k) ⟨0, none⟩ g args' sv = some (oneP qs, sv)
/-- What an entry promises, of either kind. -/
structure EntryAny (X : TX) (g : FuncId) (e : Entry X.A) : Prop where
  pure : isPure X.C g = true → EntryOk X g e
  loc : isKeep X.C g = true → EntryOkL X g e
def TabOk (X : TX) : Prop := ∀ g, ∀ e ∈ X.tab g, EntryAny X g e
theorem not_both {C : Cfg} {g : FuncId} (hp : isPure C g = true) (hk : isKeep C g = true) : False := by
  unfold isPure at hp
  unfold isKeep at hk
  split at hp
  · rename_i hm; rw [hm] at hk; cases hk
  · cases hp
theorem EntryOk.any {g : FuncId} {e : Entry X.A} (h : EntryOk X g e) (hp : isPure X.C g = true) : EntryAny X g e := ⟨fun _ => h, fun hk => (not_both hp hk).elim⟩
theorem EntryOkL.any {g : FuncId} {e : Entry X.A} (h : EntryOkL X g e) (hk : isKeep X.C g = true) : EntryAny X g e := ⟨fun hp => (not_both hp hk).elim, fun _ => h⟩
theorem emptyX_eq {a : XA} (h : emptyX a = true) : a = ⟨[], [], []⟩ := by
  obtain ⟨x, y, w⟩ := a
  simp only [emptyX, Bool.and_eq_true, List.isEmpty_iff] at h
  obtain ⟨⟨h1, h2⟩, h3⟩ := h
  subst h1; subst h2; subst h3
  rfl
/-- Where nothing is bound the values stay related as they were. -/
theorem exts_same (hX : XOk X) {r : Rn} {s : TS X.A} {v : St} (hs : SRel X r s v) {ds : List Ds} {ps : List (TV X.A)} {qs : List PV} {x : dens X.A ds} {a : XA} (hv : VRs X r ps qs) (h : exts X s 0 ds ps ⟨[], [], []⟩ = some (x, a)) (ha : emptyX a = true) : ∃ n, VRs X r (injs X id ds x n).1 qs := by
  have := emptyX_eq ha
  subst this
  have hb : Br X v 0 0 id ⟨[], [], []⟩ r r := ⟨fun j x hj => by omega, fun i l x h => by simp at h, fun i h => by simp at h, fun i h => by simp at h, fun i u w h => by simp at h, fun k cs h => h, fun l h => by simp at h⟩
  obtain ⟨_, _, h3⟩ := exts_ok hs hb hX ds ps ⟨[], [], []⟩ x ⟨[], [], []⟩ qs h (XLe.refl _) hv
  exact ⟨_, h3⟩
theorem try_ok (hX : XOk X) {r : Rn} {s : TS X.A} {v : St} {g : FuncId} (hs : SRel X r s v) {args : List (TV X.A)} {args' : List PV} (ha : VRs X r args args') {K : TV X.A → TS X.A → Option α} : ∀ {es : List (Entry X.A)}, (∀ e ∈ es, EntryOk X g e) → tryT X args s K es = some z →
    StepR X r s v K z true (fun k => callBy X.C (evCall X.C k) ⟨0, none⟩ g args' v)
  | [], _, h => by cases h
  | e :: es, he, h => by
    have h : (match exts X s 0 (sds e.ins) args ⟨[], [], []⟩ with
      | some (v, a) => dK (emptyX a && ((sds e.ins).all (pureD false) && (sds e.outs).all (pureD true)) && ((sds e.ins).all (knownD X) && (sds e.outs).all (knownD X))) <| oK (e.F v) fun w => K (one (injs X id (sds e.outs) w 0).1) s
      | none => tryT X args s K es) = some z := h
    cases hx : exts X s 0 (sds e.ins) args ⟨[], [], []⟩ with
    | none =>
      rw [hx] at h
      exact try_ok hX hs ha (fun e' he' => he e' (List.mem_cons_of_mem _ he')) h
    | some xa =>
      obtain ⟨x, a⟩ := xa
      rw [hx] at h
      obtain ⟨hc, h⟩ := dK_some h
      simp only [Bool.and_eq_true] at hc
      obtain ⟨⟨hem, hi, ho⟩, _⟩ := hc
      obtain ⟨w, hw, h⟩ := oK_some h
      obtain ⟨n, hn⟩ := exts_same hX hs ha hx hem
      rw [(pures_tok hi x n 0).1] at hn
      obtain ⟨qs, h1, k0, h2⟩ := he e (List.mem_cons_self ..) x w hw r v args' hn
      exact ⟨_, s, r, oneP qs, v, h, Ext.refl r, h1.one, hs, TFr.refl s, fun _ => rfl, k0, h2⟩
theorem keep_mode {C : Cfg} {g : FuncId} (h : isKeep C g = true) : C.mode g = .keep := by
  unfold isKeep at h
  split at h
  · assumption
  · cases h
theorem pure_mode {C : Cfg} {g : FuncId} (h : isPure C g = true) : C.mode g = .pure := by
  unfold isPure at h
  split at h
  · assumption
  · cases h
theorem putAll_ok {r : Rn} : ∀ {ts : List Tmp} {tm : List (TV X.A)} {tm' : List PV} {xs : List (TV X.A)} {ys : List PV}, VRs X r tm tm' → VRs X r xs ys → VRs X r (putAllT X tm ts xs) (putAll tm' ts ys)
  | [], tm, tm', xs, ys, h1, h2 => by
    have e1 : putAllT X tm [] xs = tm := by cases xs <;> rfl
    have e2 : putAll tm' [] ys = tm' := by cases ys <;> rfl
    rw [e1, e2]; exact h1
  | t :: ts, tm, tm', [], ys, h1, h2 => by
    rw [VRs.nil_iff] at h2
    subst h2
    exact h1
  | t :: ts, tm, tm', x :: xs, ys, h1, h2 => by
    obtain ⟨y, ys2, rfl, e1, e2⟩ := VRs.cons_iff.1 h2
    show VRs X r (putAllT X (tm.set t x) ts xs) (putAll (tm'.set t y) ts ys2)
    exact putAll_ok (h1.set e1) e2
theorem call_ok (hX : XOk X) (hT : TabOk X) (n : Nat) : ∀ d, CallOk X (tCall X (α := α) n d)
  | 0 => by
    constructor
    · intro g args st K z h; cases h
    · intro f tm ps asg bd args st K z h; cases h
  | d + 1 => by
    have ih := call_ok hX hT n d
    constructor
    · intro g args st K z h r sv args' hs ha
      have h : (match X.tab g with
        | [] => dK (isKeep X.C g && !X.C.frz g) <| tBody X (tCall X n d) n g args st fun ps st' => K (one ps) st'
        | e :: es => match isPure X.C g with
          | true => tryT X args st K (e :: es)
          | false => dK (isKeep X.C g && !X.C.frz g) <| tryL X args st K e) = some z := h
      have htab := hT g
      cases hg : X.tab g with
      | nil =>
        rw [hg] at h
        obtain ⟨hc, h⟩ := dK_some h
        simp only [Bool.and_eq_true, Bool.not_eq_true'] at hc
        obtain ⟨fn, c, hfn, hcd, ps, st2, r', qs, sv', e1, e2, e3, e4, e5, k0, e6⟩ := body_ok hX ih hs ha h
        refine ⟨_, st2, r', oneP qs, sv', e1, e2, e3.one, e4, e5, fun hp => ?_, k0 + 1, fun k hk => ?_⟩
        · have h1 := keep_mode hc.1
          have h2 := pure_mode hp
          rw [h1] at h2
          cases h2
        · obtain ⟨k, rfl⟩ : ∃ q, k = q + 1 := ⟨k - 1, by omega⟩
          unfold callBy
          rw [hX.prim g hc.1]
          simp only [keep_mode hc.1]
          show evBody X.C (evCall X.C k) (iter k) g args' ⟨0, none⟩ sv = _
          unfold evBody
          simp only [hfn, hcd, hc.2, frzE, Bool.false_eq_true, if_false]
          exact e6 k (by omega)
      | cons e es =>
        rw [hg] at h htab
        cases hp : isPure X.C g with
        | true =>
          simp only [hp] at h
          obtain ⟨p, st2, r', p', sv', e1, e2, e3, e4, e5, e6, e7⟩ := try_ok hX hs ha (fun e' he' => (htab e' he').pure hp) h
          exact ⟨p, st2, r', p', sv', e1, e2, e3, e4, e5, fun _ => e6 rfl, e7⟩
        | false =>
          simp only [hp] at h
          obtain ⟨hc, h⟩ := dK_some h
          rw [Bool.and_eq_true] at hc
          exact tryL_ok hX hs ha ((htab e (List.mem_cons_self ..)).loc hc.1) h
    · intro f tm ps asg bd args st K z h r sv tm' args' hs hv ha
      have h : dK (args.length == ps.size && checkDraws X.C f asg && checkDraws X.C f bd && noRF asg && noRF bd) (tCode X (tCall X n d) n f asg (putAllT X tm ps.toList args) st fun e tm1 st1 => match e with
        | .normal => dK (tm1.all anyNof && stNof st1) <| tCode X (tCall X n d) n f bd tm1 st1 fun e _ st2 => match e with
          | .normal => dK (stNof st2) <| K (.bool true) st2
          | _ => none
        | _ => none) = some z := h
      obtain ⟨hc, h⟩ := dK_some h
      simp only [Bool.and_eq_true, beq_iff_eq] at hc
      obtain ⟨⟨⟨⟨c1, c2⟩, c3⟩, c4⟩, c5⟩ := hc
      obtain ⟨e, tm2, st2, r1, tm2', sv1, e1, e2, e3, e4, e5, _, k0, e7⟩ := code_ok (f := f) hX ih n asg _ _ _ _ _ _ _ h hs (putAll_ok (ts := ps.toList) hv ha)
      cases e with
      | exit id => cases e1
      | ret => cases e1
      | normal =>
        obtain ⟨hn, e1⟩ := dK_some e1
        rw [Bool.and_eq_true] at hn
        obtain ⟨e', tm3, st3, r2, tm3', sv2, f1, f2, f3, f4, f5, _, k1, f7⟩ := code_ok (f := f) hX ih n bd _ _ _ _ _ _ _ e1 (e4.clean hX hn.2) (e3.cleans hX hn.1)
        cases e' with
        | exit id => cases f1
        | ret => cases f1
        | normal =>
          obtain ⟨hn2, f1⟩ := dK_some f1
          refine ⟨_, st3, r2, .v (.bool true), cleanSt sv2, f1, e2.trans f2, .bool .nil, f4.clean hX hn2, e5.trans f5, fun h => (by cases h), max k0 k1 + 1, fun k hk => ?_⟩
          obtain ⟨k, rfl⟩ : ∃ q, k = q + 1 := ⟨k - 1, by omega⟩
          show evRound X.C (evCall X.C k) (iter k) f tm' ps asg bd args' ⟨0, none⟩ sv = _
          unfold evRound
          rw [if_pos ⟨rfl, by rw [← ha.length]; exact c1, c2, c3, c4, c5⟩]
          have h1 := e7 k (by omega)
          have h2 := f7 k (by omega)
          dsimp only at h1 h2
          rw [h1]
          simp only
          rw [h2]
end call
section frz
variable {X : TX} {α : Type} {z : α} {r : Rn}
theorem frz1_not {p : TV X.A} {q : PV} (hn : notRef X p = true) (h : VR X r p q) (v : St) : frz1 ⟨0, none⟩ q v = (q, v) ∧ frz2 ⟨0, none⟩ q v = (q, v) := by
  have key : (∀ l a b c, q ≠ .ref l a b c) → (∀ cs, q ≠ .agg cs) → frz1 ⟨0, none⟩ q v = (q, v) ∧ frz2 ⟨0, none⟩ q v = (q, v) := fun h1 h2 => by
    cases q with
    | ref l a b c => exact absurd rfl (h1 l a b c)
    | agg cs => exact absurd rfl (h2 cs)
    | _ => exact ⟨rfl, rfl⟩
  cases h with
  | any _ => cases hn
  | refn _ _ => cases hn
  | ref _ _ _ => cases hn
  | refe _ _ _ _ => cases hn
  | agg _ _ => cases hn
  | tuple _ _ => cases hn
  | yld _ _ => cases hn
  | cst hc _ => rcases hc with ⟨_, rfl⟩ | ⟨_, rfl⟩ <;> exact ⟨rfl, rfl⟩
  | opts _ h2 _ => cases h2 <;> exact ⟨rfl, rfl⟩
  | _ => exact ⟨rfl, rfl⟩
theorem frzs_not : ∀ {ps : List (TV X.A)} {qs : List PV}, ps.all (notRef X) = true → VRs X r ps qs → ∀ v, frzs ⟨0, none⟩ qs v = (qs, v)
  | [], qs, _, h, v => by rw [VRs.nil_iff] at h; subst h; rfl
  | p :: ps, qs, hp, h, v => by
    obtain ⟨q, qs2, rfl, h1, h2⟩ := VRs.cons_iff.1 h
    rw [List.all_cons, Bool.and_eq_true] at hp
    simp only [frzs, (frz1_not hp.1 h1 v).1, frzs_not hp.2 h2 v]
theorem frzs_ok (hX : XOk X) : ∀ {ps : List (TV X.A)} {s : TS X.A} {v : St} {qs : List PV} {K : List (TV X.A) → TS X.A → Option α}, frzsT X ps s K = some z → SRel X r s v → VRs X r ps qs →
    ∃ ps2 st2 qs2 sv2, K ps2 st2 = some z ∧ frzs2 ⟨0, none⟩ qs v = (qs2, sv2) ∧ VRs X r ps2 qs2 ∧ SRel X r st2 sv2
  | [], s, v, qs, K, h, hs, hv => by
    rw [VRs.nil_iff] at hv; subst hv
    exact ⟨[], s, [], v, h, rfl, .nil, hs⟩
  | p :: ps, s, v, qs, K, h, hs, hv => by
    obtain ⟨q, qs1, rfl, h1, h2⟩ := VRs.cons_iff.1 hv
    have step : ∀ {p' : TV X.A} {s1 : TS X.A} {q' : PV} {v1 : St}, frz2 ⟨0, none⟩ q v = (q', v1) → VR X r p' q' → SRel X r s1 v1 → frzsT X ps s1 (fun qs st' => K (p' :: qs) st') = some z →
        ∃ ps2 st2 qs2 sv2, K ps2 st2 = some z ∧ frzs2 ⟨0, none⟩ (q :: qs1) v = (qs2, sv2) ∧ VRs X r ps2 qs2 ∧ SRel X r st2 sv2 := fun {p' s1 q' v1} g1 g2 g3 g4 => by
      obtain ⟨ps2, st2, qs2, sv2, i1, i2, i3, i4⟩ := frzs_ok hX g4 g3 h2
      exact ⟨_, st2, q' :: qs2, sv2, i1, by simp only [frzs2, g1, i2], VRs.cons g2 i3, i4⟩
    have other : notRef X p = true → frzsT X ps s (fun qs st' => K (p :: qs) st') = some z → ∃ ps2 st2 qs2 sv2, K ps2 st2 = some z ∧ frzs2 ⟨0, none⟩ (q :: qs1) v = (qs2, sv2) ∧ VRs X r ps2 qs2 ∧ SRel X r st2 sv2 := fun hn hk =>
      step (frz1_not hn h1 v).2 h1 hs hk
    cases p with
    | ref t l off n =>
      have h : (cK (tloc s l) fun c => match c with
        | .arr u r => dK (t == u) <| bK (decide (off + n ≤ r.length)) (frzsT X ps { s with locs := s.locs.set l none } fun qs st' => K (.row u ((r.drop off).take n) .sh :: qs) st') none
        | _ => none) = some z := h
      obtain ⟨c, hc, h⟩ := cK_some h
      cases c with
      | cells _ => cases h
      | arr u as =>
        obtain ⟨htu, h⟩ := dK_some h
        simp only [beq_iff_eq] at htu
        subst htu
        obtain ⟨hle, h⟩ := gK_some h
        simp only [decide_eq_true_eq] at hle
        have emp : ∀ (m : Nat), X.wd t = some m → n = 0 → ∀ f, VR X r (.row t ((as.drop off).take n) .sh) (.row [] f) := fun m hm h0 f => by
          subst h0
          simp only [List.take_zero]
          exact .row hm rfl (fun i a c ha => by simp at ha) (fun c hc => by simp at hc) trivial .nil
        cases h1 with
        | refn g1 _ =>
          rcases hs.loc l _ hc with ⟨k, cs', j1, j2, j3⟩ | ⟨j1, t', n', j2, j3⟩
          · rw [g1] at j1; cases j1
          · simp only [TL.arr.injEq] at j3
            obtain ⟨rfl, j3⟩ := j3
            exact step rfl (emp _ j2 rfl _) (hs.kill l s.wrote) h
        | refe g1 g2 g3 _ => exact step rfl (emp _ g1 rfl _) (hs.kill l s.wrote) h
        | @ref _ _ l' _ n' _ _ _ g1 g2 _ =>
          obtain ⟨n2, xs, rest, e1, hr0⟩ := arr_loc hX hs hc g2
          have en : n2 = n' := by have := hr0.1; rw [g1] at this; simpa using this.symm
          subst en
          have hlens := hr0.lens hX
          have hxl := hr0.2.1
          have hle2 : off * n2 + n * n2 ≤ (xs.flatten ++ rest).length := by
            rw [List.length_append, flat_len hlens, ← Nat.add_mul]
            have := Nat.mul_le_mul_right n2 (show off + n ≤ xs.length by omega)
            omega
          have hpart := (hr0.part off n).strip hX
          refine step (q' := .row (stripRow ((xs.drop off).take n)) .sh) (v1 := { v with locs := v.locs.set l' none }) ?_ (hpart.1.vr (f := .sh) hpart.2 trivial) (hs.kill2 s.wrote (by rw [hc]; rfl) g2) h
          simp only [frz2, frz1, e1]
          rw [if_pos ⟨by simp [Wr.ok], hle2⟩, flat_drop hlens (by omega), chunk_ok (fun d hd => hlens d (List.mem_of_mem_drop hd)) n (by simp; omega)]
    | agg cs =>
      obtain ⟨hn, h⟩ := dK_some (show dK (cs.all (notRef X)) (frzsT X ps s fun qs st' => K (.agg cs :: qs) st') = some z from h)
      cases h1 with
      | @agg _ cs' _ _ h1 _ =>
        exact step (by simp only [frz2, frzs_not hn h1 v]) (.agg h1 .nil) hs h
    | any => obtain ⟨hn, h⟩ := dK_some (show dK (notRef X .any) (frzsT X ps s fun qs st' => K (.any :: qs) st') = some z from h); cases hn
    | tuple vs => obtain ⟨hn, h⟩ := dK_some (show dK (notRef X (.tuple vs)) (frzsT X ps s fun qs st' => K ((.tuple vs) :: qs) st') = some z from h); cases hn
    | yld a b c d e => obtain ⟨hn, h⟩ := dK_some (show dK (notRef X (.yld a b c d e)) (frzsT X ps s fun qs st' => K ((.yld a b c d e) :: qs) st') = some z from h); cases hn
    | bool b => obtain ⟨hn, h⟩ := dK_some (show dK (notRef X (.bool b)) (frzsT X ps s fun qs st' => K ((.bool b) :: qs) st') = some z from h); exact other hn h
    | int k n => obtain ⟨hn, h⟩ := dK_some (show dK (notRef X (.int k n)) (frzsT X ps s fun qs st' => K ((.int k n) :: qs) st') = some z from h); exact other hn h
    | str b => obtain ⟨hn, h⟩ := dK_some (show dK (notRef X (.str b)) (frzsT X ps s fun qs st' => K ((.str b) :: qs) st') = some z from h); exact other hn h
    | cst b => obtain ⟨hn, h⟩ := dK_some (show dK (notRef X (.cst b)) (frzsT X ps s fun qs st' => K ((.cst b) :: qs) st') = some z from h); exact other hn h
    | row t l f => obtain ⟨hn, h⟩ := dK_some (show dK (notRef X (.row t l f)) (frzsT X ps s fun qs st' => K ((.row t l f) :: qs) st') = some z from h); exact other hn h
    | ptr a b => obtain ⟨hn, h⟩ := dK_some (show dK (notRef X (.ptr a b)) (frzsT X ps s fun qs st' => K ((.ptr a b) :: qs) st') = some z from h); exact other hn h
    | aptr a b c d => obtain ⟨hn, h⟩ := dK_some (show dK (notRef X (.aptr a b c d)) (frzsT X ps s fun qs st' => K ((.aptr a b c d) :: qs) st') = some z from h); exact other hn h
    | iptr a b c d e => obtain ⟨hn, h⟩ := dK_some (show dK (notRef X (.iptr a b c d e)) (frzsT X ps s fun qs st' => K ((.iptr a b c d e) :: qs) st') = some z from h); exact other hn h
    | eptr cs => obtain ⟨hn, h⟩ := dK_some (show dK (notRef X (.eptr cs)) (frzsT X ps s fun qs st' => K ((.eptr cs) :: qs) st') = some z from h); exact other hn h
    | optp t o => obtain ⟨hn, h⟩ := dK_some (show dK (notRef X (.optp t o)) (frzsT X ps s fun qs st' => K ((.optp t o) :: qs) st') = some z from h); exact other hn h
    | nili b => obtain ⟨hn, h⟩ := dK_some (show dK (notRef X (.nili b)) (frzsT X ps s fun qs st' => K ((.nili b) :: qs) st') = some z from h); exact other hn h
    | fn a b c => obtain ⟨hn, h⟩ := dK_some (show dK (notRef X (.fn a b c)) (frzsT X ps s fun qs st' => K ((.fn a b c) :: qs) st') = some z from h); exact other hn h
end frz
end Go.Proofs.YtlkaoiceehlkmaaTE

namespace Go.Proofs.YtlkaoiceehlkmaaTE
open Go Go.Proofs.YtlkaoiceehlkmaaVE
set_option linter.unusedVariables false
set_option linter.unusedSimpArgs false

section entry
variable {X : TX}
/-- Nothing is known. -/
def Rn.nil : Rn := ⟨fun _ => none, fun _ => none, fun _ => none, 0, 0, fun _ => False, fun _ => none⟩
theorem tloc_nil (l : Nat) : tloc (st00 : TS X.A) l = none := by simp [tloc, st00]
theorem srel_nil : SRel X Rn.nil st00 St.nil := by
  refine ⟨⟨fun l x h => ?_, fun t u h => ?_⟩, rfl, rfl, fun l c h => ?_, fun a b k h => ?_, fun k cs h => ?_, fun t u h => ?_, fun a b u h => ?_, fun t h => ?_, fun u h => ?_, fun u h => ?_, fun k cs h => ?_⟩
  · cases h
  · cases h
  · rw [tloc_nil] at h; cases h
  · rw [tloc_nil] at h; cases h
  · cases h
  · cases h
  · cases h
  · cases h
  · exact h.elim
  · cases h
  · cases h
theorem one_strip : ∀ {qs : List PV}, qs.map PV.strip2 = qs.map PV.strip1 → (oneP qs).strip2 = oneP (qs.map PV.strip1)
  | [], _ => rfl
  | [q], h => by simpa [oneP] using h
  | q :: q2 :: qs, _ => rfl
theorem one_safe : ∀ {qs : List PV}, safes 0 0 qs = true → safe 0 0 (oneP qs) = true
  | [], _ => rfl
  | [q], h => by simp only [safes, Bool.and_true] at h; exact h
  | q :: q2 :: qs, h => h
theorem oneP_len {qs : List PV} (h : qs.length ≠ 1) : oneP qs = .tuple qs := by
  match qs, h with
  | [], _ => rfl
  | [q], h => simp at h
  | q :: q2 :: qs, _ => rfl
theorem frzs2_len : ∀ {qs qs2 : List PV} {v v2 : St}, frzs2 ⟨0, none⟩ qs v = (qs2, v2) → qs2.length = qs.length
  | [], qs2, v, v2, h => by simp only [frzs2, Prod.mk.injEq] at h; rw [← h.1]
  | q :: qs, qs2, v, v2, h => by
    simp only [frzs2, Prod.mk.injEq] at h
    rw [← h.1, List.length_cons, List.length_cons, frzs2_len (qs := qs) (v := (frz2 ⟨0, none⟩ q v).2) rfl]
theorem frz3_one {r : Rn} {ps : List (TV X.A)} {qs qs2 : List PV} {v v2 : St} (hv : VRs X r ps qs) (hn : ∀ p ∈ ps, (∀ vs, p ≠ .tuple vs) ∧ p ≠ .any) (h : frzs2 ⟨0, none⟩ qs v = (qs2, v2)) : frz3 ⟨0, none⟩ (oneP qs) v = (oneP qs2, v2) := by
  by_cases hl : qs.length = 1
  · match qs, hl with
    | [q], _ =>
      have hp : ∃ p, ps = [p] := by
        have := hv.length
        match ps, this with
        | [p], _ => exact ⟨p, rfl⟩
      obtain ⟨p, rfl⟩ := hp
      obtain ⟨n1, n2⟩ := hn p (List.mem_cons_self ..)
      have e1 : frz3 ⟨0, none⟩ q v = frz2 ⟨0, none⟩ q v := by
        have : ∀ cs, q ≠ .tuple cs := by
          rintro cs rfl
          cases hv with
          | any _ => exact n2 rfl
          | tuple _ _ => exact n1 _ rfl
          | cst hc _ => rcases hc with ⟨_, h⟩ | ⟨_, h⟩ <;> cases h
          | opts _ h _ => cases h
        cases q with
        | tuple cs => exact absurd rfl (this cs)
        | _ => rfl
      simp only [frzs2, Prod.mk.injEq] at h
      obtain ⟨rfl, rfl⟩ := h
      exact e1
  · rw [oneP_len hl, oneP_len (by rw [frzs2_len h]; exact hl)]
    simp only [frz3, h]
theorem frzsT_no {α : Type} {z : α} : ∀ {ps : List (TV X.A)} {s : TS X.A} {K : List (TV X.A) → TS X.A → Option α}, frzsT X ps s K = some z → ∀ p ∈ ps, (∀ vs, p ≠ .tuple vs) ∧ p ≠ .any
  | [], s, K, h, p, hp => by cases hp
  | p :: ps, s, K, h, q, hq => by
    have key : ((∀ vs, p ≠ .tuple vs) ∧ p ≠ .any) ∧ ∃ s' K', frzsT X ps s' K' = some z := by
      cases p with
      | ref t l off n =>
        refine ⟨⟨by simp, by simp⟩, ?_⟩
        have h : (cK (tloc s l) fun c => match c with
          | .arr u r => dK (t == u) <| bK (decide (off + n ≤ r.length)) (frzsT X ps { s with locs := s.locs.set l none } fun qs st' => K (.row u ((r.drop off).take n) .sh :: qs) st') none
          | _ => none) = some z := h
        obtain ⟨c, hc, h⟩ := cK_some h
        cases c with
        | cells _ => cases h
        | arr u as => exact ⟨_, _, (gK_some (dK_some h).2).2⟩
      | agg cs => exact ⟨⟨by simp, by simp⟩, _, _, (dK_some (show dK (cs.all (notRef X)) (frzsT X ps s fun qs st' => K (.agg cs :: qs) st') = some z from h)).2⟩
      | any => cases (dK_some (show dK (notRef X .any) (frzsT X ps s fun qs st' => K (.any :: qs) st') = some z from h)).1
      | tuple vs => cases (dK_some (show dK (notRef X (.tuple vs)) (frzsT X ps s fun qs st' => K (.tuple vs :: qs) st') = some z from h)).1
      | yld a b c d e => exact ⟨⟨by simp, by simp⟩, _, _, (dK_some (show dK (notRef X (.yld a b c d e)) (frzsT X ps s fun qs st' => K (.yld a b c d e :: qs) st') = some z from h)).2⟩
      | bool b => exact ⟨⟨by simp, by simp⟩, _, _, (dK_some (show dK (notRef X (.bool b)) (frzsT X ps s fun qs st' => K (.bool b :: qs) st') = some z from h)).2⟩
      | int a b => exact ⟨⟨by simp, by simp⟩, _, _, (dK_some (show dK (notRef X (.int a b)) (frzsT X ps s fun qs st' => K (.int a b :: qs) st') = some z from h)).2⟩
      | str b => exact ⟨⟨by simp, by simp⟩, _, _, (dK_some (show dK (notRef X (.str b)) (frzsT X ps s fun qs st' => K (.str b :: qs) st') = some z from h)).2⟩
      | cst b => exact ⟨⟨by simp, by simp⟩, _, _, (dK_some (show dK (notRef X (.cst b)) (frzsT X ps s fun qs st' => K (.cst b :: qs) st') = some z from h)).2⟩
      | row a b c => exact ⟨⟨by simp, by simp⟩, _, _, (dK_some (show dK (notRef X (.row a b c)) (frzsT X ps s fun qs st' => K (.row a b c :: qs) st') = some z from h)).2⟩
      | ptr a b => exact ⟨⟨by simp, by simp⟩, _, _, (dK_some (show dK (notRef X (.ptr a b)) (frzsT X ps s fun qs st' => K (.ptr a b :: qs) st') = some z from h)).2⟩
      | aptr a b c d => exact ⟨⟨by simp, by simp⟩, _, _, (dK_some (show dK (notRef X (.aptr a b c d)) (frzsT X ps s fun qs st' => K (.aptr a b c d :: qs) st') = some z from h)).2⟩
      | iptr a b c d e => exact ⟨⟨by simp, by simp⟩, _, _, (dK_some (show dK (notRef X (.iptr a b c d e)) (frzsT X ps s fun qs st' => K (.iptr a b c d e :: qs) st') = some z from h)).2⟩
      | eptr b => exact ⟨⟨by simp, by simp⟩, _, _, (dK_some (show dK (notRef X (.eptr b)) (frzsT X ps s fun qs st' => K (.eptr b :: qs) st') = some z from h)).2⟩
      | optp a b => exact ⟨⟨by simp, by simp⟩, _, _, (dK_some (show dK (notRef X (.optp a b)) (frzsT X ps s fun qs st' => K (.optp a b :: qs) st') = some z from h)).2⟩
      | nili b => exact ⟨⟨by simp, by simp⟩, _, _, (dK_some (show dK (notRef X (.nili b)) (frzsT X ps s fun qs st' => K (.nili b :: qs) st') = some z from h)).2⟩
      | fn a b c => exact ⟨⟨by simp, by simp⟩, _, _, (dK_some (show dK (notRef X (.fn a b c)) (frzsT X ps s fun qs st' => K (.fn a b c :: qs) st') = some z from h)).2⟩
    obtain ⟨k1, s', K', k2⟩ := key
    rcases List.mem_cons.1 hq with rfl | hq
    · exact k1
    · exact frzsT_no k2 q hq
/-- **A function that is told promises what it tells.** -/
theorem entry_ok (hX : XOk X) (hT : TabOk X) {f : FuncId} {ins : List (Get × Ds)} {base : Nat} {outs : List (Get × Ds)} {F : dens X.A (ins.map (·.2)) → Option (dens X.A (outs.map (·.2)))} (hp : isPure X.C f = true) (hprim : ∀ args, X.C.prim f args = none)
    (hF : ∀ v w, F v = some w → ∃ n, tFn X n f ins base outs v = some w) : EntryOk X f ⟨ins, base, outs, F⟩ := by
  intro v w hw R sv args' ha
  obtain ⟨n, h⟩ := hF v w hw
  unfold tFn at h
  obtain ⟨hc, h⟩ := dK_some h
  simp only [Bool.and_eq_true] at hc
  obtain ⟨⟨hi, ho⟩, ki, ko⟩ := hc
  obtain ⟨a1, a2, a3, _⟩ := plainVs_ok hX (R := Rn.nil) (pures_inj hX hi ki v 0).1 ha
  obtain ⟨fn, c, hfn, hcd, ps, st2, r', qs, sv', e1, e2, e3, e4, e5, k0, e6⟩ := body_ok hX (call_ok hX hT n 40) srel_nil a1 h
  have mid : ∃ ps2 st3 qs2 sv3, (cK (exts X st3 0 (sds outs) ps2 ⟨[], [], []⟩) fun r => dK (emptyX r.2) (some r.1)) = some w ∧ VRs X r' ps2 qs2 ∧ SRel X r' st3 sv3 ∧ frzE (X.C.frz f) ⟨0, none⟩ (some (oneP qs, sv')) = some (oneP qs2, sv3) := by
    cases hfz : X.C.frz f with
    | false =>
      rw [hfz] at e1
      exact ⟨ps, st2, qs, sv', e1, e3, e4, rfl⟩
    | true =>
      rw [hfz] at e1
      have e1 : frzsT X ps st2 (fun ps st' => cK (exts X st' 0 (sds outs) ps ⟨[], [], []⟩) fun r => dK (emptyX r.2) (some r.1)) = some w := e1
      obtain ⟨ps2, st3, qs2, sv3, g1, g2, g3, g4⟩ := frzs_ok hX e1 e4 e3
      refine ⟨ps2, st3, qs2, sv3, g1, g3, g4, ?_⟩
      simp only [frzE, if_true, frz3_one e3 (frzsT_no e1) g2]
  obtain ⟨ps2, st3, qs2, sv3, g1, g2, g3, g4⟩ := mid
  obtain ⟨⟨x, a⟩, hx, g1⟩ := cK_some g1
  obtain ⟨hem, g1⟩ := dK_some g1
  simp only [Option.some.injEq] at g1
  subst g1
  obtain ⟨m, hm⟩ := exts_same hX g3 g2 hx hem
  rw [(pures_tok ho x m 0).1] at hm
  obtain ⟨b1, b2, b3, _⟩ := plainVs_ok hX (R := R) (pures_inj hX ho ko x 0).1 hm
  refine ⟨qs2.map PV.strip1, b1, k0 + 1, fun k hk => ?_⟩
  obtain ⟨k, rfl⟩ : ∃ q, k = q + 1 := ⟨k - 1, by omega⟩
  unfold callBy
  rw [hprim]
  simp only [pure_mode hp, a3, a2, if_true]
  have hev : evCall X.C (k + 1) (.fn f) (args'.map PV.strip1) ⟨0, none⟩ St.nil = some (oneP qs2, sv3) := by
    show evBody X.C (evCall X.C k) (iter k) f (args'.map PV.strip1) ⟨0, none⟩ St.nil = _
    unfold evBody
    simp only [hfn, hcd]
    rw [e6 k (by omega)]
    exact g4
  rw [hev]
  simp only [one_strip b3, one_safe b2, if_true]
/-- **A function that is given a pointer promises what it tells.** -/
theorem entryL_ok (hX : XOk X) (hT : TabOk X) {f : FuncId} {ins : List (Get × Ds)} {base : Nat} {outs : List (Get × Ds)} {F : dens X.A (ins.map (·.2)) → Option (dens X.A (outs.map (·.2)))} (hk : isKeep X.C f = true) (hfz : X.C.frz f = false)
    (hF : ∀ v w, F v = some w → ∃ n, tFnL X n f ins outs v = some w) : EntryOkL X f ⟨ins, base, outs, F⟩ := by
  intro v w hw R sv args' hs ha
  obtain ⟨n, h⟩ := hF v w hw
  unfold tFnL at h
  obtain ⟨hc, h⟩ := dK_some h
  simp only [Bool.and_eq_true, entOk] at hc
  have hs : SRel X R (stS X ins v).2 sv := hs
  have ha : VRs X R (stS X ins v).1 args' := ha
  have h : (match (stS X ins v).1 with
    | .ptr 0 0 :: _ => tBody X (tCall X n 40) n f (stS X ins v).1 (stS X ins v).2 fun ps st' => dK (nTmp outs == ps.length + 1) (extr X ⟨outs, []⟩ (List.replicate (nTmp outs) .any) st00 (.ptr 0 0 :: ps) st')
    | _ => none) = some w := h
  split at h
  · rename_i rest hhead
    obtain ⟨fn, c, hfn, hcd, ps, st2, r', qs, sv', e1, e2, e3, e4, e5, k0, e6⟩ := body_ok hX (call_ok hX hT n 40) hs ha h
    obtain ⟨hn, e1⟩ := dK_some e1
    simp only [beq_iff_eq] at hn
    rw [hhead] at ha
    obtain ⟨q0, qs2, rfl, a1, _⟩ := VRs.cons_iff.1 ha
    have a2 : VR X r' (.ptr 0 0) q0 := a1.mono hs.wf e2
    have hv1 : VRs X r' (.ptr 0 0 :: ps) (q0 :: qs) := VRs.cons a2 e3
    obtain ⟨A, R3, ⟨_, hR, _, _⟩, hE, hSR, hVR, _⟩ := coerceA (X := X) (r0 := Rn.zero r'.fo r'.fr) (r1 := r') (st0 := st00) (st1 := st2) (sv0 := sv') (sv1 := sv') (tm0 := List.replicate (nTmp outs) .any) (tm1 := .ptr 0 0 :: ps) (tm0' := q0 :: qs) (tm1' := q0 :: qs) (sh := ⟨outs, []⟩) (ts := []) (v := w) hX
      (srel_zero e4.fo e4.vlt fun k cs hk => (e4.fr k cs hk).1) (any_list (by rw [List.length_cons, ← e3.length]; exact hn.symm)) ext_zero e4 hv1 (fun l hl => absurd hl (Nat.not_lt_zero _)) (Same.refl _ _) (fun t ht => by cases ht) hc.2 e1
    refine ⟨R3, q0, qs, sv', hSR, hVR, rfl, ?_, ?_, fun k cs hk => ?_, k0 + 1, fun k hk' => ?_⟩
    · rw [hR]; exact e2.fr
    · rw [hR]; exact e2.fo
    · rw [hR]; exact Rj.fzk (r0 := Rn.zero r'.fo r'.fr) (n0 := 0) (T := 0) (e2.fz k cs hk)
    · obtain ⟨k, rfl⟩ : ∃ q, k = q + 1 := ⟨k - 1, by omega⟩
      unfold callBy
      rw [hX.prim f hk]
      simp only [keep_mode hk]
      show evBody X.C (evCall X.C k) (iter k) f (q0 :: qs2) ⟨0, none⟩ sv = _
      unfold evBody
      simp only [hfn, hcd, hfz, frzE, Bool.false_eq_true, if_false]
      exact e6 k (by omega)
  · cases h
end entry
/-! Over to another table. -/
section over
/-- The same frame with another table. -/
@[reducible] def TX.over (X : TX) (t : FuncId → List (Entry X.A)) (l j : FuncId → Nat → Option Shape) : TX := ⟨X.C, X.A, X.lay, X.dec, X.wd, t, l, j⟩
variable {X : TX} {t : FuncId → List (Entry X.A)} {l j : FuncId → Nat → Option Shape}
theorem VRs.over {r : Rn} {ps : List (TV X.A)} {qs : List PV} (h : VRs X r ps qs) : VRs (X.over t l j) r ps qs := by
  induction h with
  | nil => exact .nil
  | any _ ih => exact .any ih
  | bool _ ih => exact .bool ih
  | int _ ih => exact .int ih
  | str _ ih => exact .str ih
  | cst h _ ih => exact .cst h ih
  | row h1 h2 _ h4 h5 _ ih1 ih => exact .row h1 h2 ih1 h4 h5 ih
  | refn h _ ih => exact .refn h ih
  | ref h1 h2 _ ih => exact .ref h1 h2 ih
  | refe h1 h2 h3 _ ih => exact .refe h1 h2 h3 ih
  | agg _ _ ih1 ih => exact .agg ih1 ih
  | ptr h _ ih => exact .ptr h ih
  | aptr h1 h2 _ ih => exact .aptr h1 h2 ih
  | iptr h1 h2 h3 _ ih => exact .iptr h1 h2 h3 ih
  | eptr _ _ ih1 ih => exact .eptr ih1 ih
  | eptrF h1 h2 h3 _ _ ih1 ih => exact .eptrF h1 h2 h3 ih1 ih
  | optn _ ih => exact .optn ih
  | opts h1 _ _ ih1 ih => exact .opts h1 ih1 ih
  | nilt _ ih => exact .nilt ih
  | nilf h _ ih => exact .nilf h ih
  | fn _ _ _ ih1 ih2 ih => exact .fn ih1 ih2 ih
  | tuple _ _ ih1 ih => exact .tuple ih1 ih
  | yld _ _ ih1 ih => exact .yld ih1 ih
theorem VRs.back {r : Rn} {ps : List (TV (X.over t l j).A)} {qs : List PV} (h : VRs (X.over t l j) r ps qs) : VRs X r ps qs := by
  induction h with
  | nil => exact .nil
  | any _ ih => exact .any ih
  | bool _ ih => exact .bool ih
  | int _ ih => exact .int ih
  | str _ ih => exact .str ih
  | cst h _ ih => exact .cst h ih
  | row h1 h2 _ h4 h5 _ ih1 ih => exact .row h1 h2 ih1 h4 h5 ih
  | refn h _ ih => exact .refn h ih
  | ref h1 h2 _ ih => exact .ref h1 h2 ih
  | refe h1 h2 h3 _ ih => exact .refe h1 h2 h3 ih
  | agg _ _ ih1 ih => exact .agg ih1 ih
  | ptr h _ ih => exact .ptr h ih
  | aptr h1 h2 _ ih => exact .aptr h1 h2 ih
  | iptr h1 h2 h3 _ ih => exact .iptr h1 h2 h3 ih
  | eptr _ _ ih1 ih => exact .eptr ih1 ih
  | eptrF h1 h2 h3 _ _ ih1 ih => exact .eptrF h1 h2 h3 ih1 ih
  | optn _ ih => exact .optn ih
  | opts h1 _ _ ih1 ih => exact .opts h1 ih1 ih
  | nilt _ ih => exact .nilt ih
  | nilf h _ ih => exact .nilf h ih
  | fn _ _ _ ih1 ih2 ih => exact .fn ih1 ih2 ih
  | tuple _ _ ih1 ih => exact .tuple ih1 ih
  | yld _ _ ih1 ih => exact .yld ih1 ih
theorem XOk.over (h : XOk X) : XOk (X.over t l j) := ⟨h.wd, fun t' n hn cs x hd r cs' hv => (h.dec t' n hn cs x hd r cs' hv.back).over, h.keep, h.prim⟩
theorem injs_over (mu : Nat → Nat) (ds : List Ds) (x : dens X.A ds) (n : Nat) : injs (X.over t l j) mu ds x n = injs X mu ds x n := by kernel_rfl
theorem EntryOk.over {g : FuncId} {e : Entry X.A} (h : EntryOk X g e) : EntryOk (X.over t l j) g e := fun v w hw R sv args' ha => by
  have ha : VRs (X.over t l j) R (injs (X.over t l j) id (sds e.ins) v 0).1 args' := ha
  rw [injs_over] at ha
  obtain ⟨qs, h1, h2⟩ := h v w hw R sv args' ha.back
  refine ⟨qs, ?_, h2⟩
  have := h1.over (t := t) (l := l) (j := j)
  rw [← injs_over (t := t) (l := l) (j := j)] at this
  exact this
theorem EntryOk.back {g : FuncId} {e : Entry X.A} (h : EntryOk (X.over t l j) g e) : EntryOk X g e := fun v w hw R sv args' ha => by
  have ha' := ha.over (t := t) (l := l) (j := j)
  rw [← injs_over (t := t) (l := l) (j := j)] at ha'
  obtain ⟨qs, h1, h2⟩ := h v w hw R sv args' ha'
  refine ⟨qs, ?_, h2⟩
  have h1 : VRs (X.over t l j) R (injs (X.over t l j) id (sds e.outs) w 0).1 qs := h1
  rw [injs_over] at h1
  exact h1.back
theorem SRel.over {r : Rn} {s : TS X.A} {v : St} (h : SRel X r s v) : SRel (X.over t l j) r s v := by
  refine ⟨h.wf, h.nl, h.nt, fun m c hc => ?_, h.inj, h.fz, h.live, h.tinj, h.lt, h.fo, h.vlt, h.fr⟩
  rcases h.loc m c hc with ⟨k, cs', f1, f2, f3⟩ | f1
  · refine .inl ⟨k, cs', f1, f2, ?_⟩
    cases c with
    | cells ds => exact VRs.over (show VRs X r ds cs' from f3)
    | arr u as =>
      obtain ⟨n, xs, rest, e1, e2, e3, e4⟩ := f3
      exact ⟨n, xs, rest, e1, e2, e3, fun i a c ha hc => (e4 i a c ha hc).over⟩
  · exact .inr f1
theorem SRel.back {r : Rn} {s : TS X.A} {v : St} (h : SRel (X.over t l j) r s v) : SRel X r s v := by
  refine ⟨h.wf, h.nl, h.nt, fun m c hc => ?_, h.inj, h.fz, h.live, h.tinj, h.lt, h.fo, h.vlt, h.fr⟩
  rcases h.loc m c hc with ⟨k, cs', f1, f2, f3⟩ | f1
  · refine .inl ⟨k, cs', f1, f2, ?_⟩
    cases c with
    | cells ds => exact VRs.back (t := t) (l := l) (j := j) f3
    | arr u as =>
      obtain ⟨n, xs, rest, e1, e2, e3, e4⟩ := f3
      exact ⟨n, xs, rest, e1, e2, e3, fun i a c ha hc => VRs.back (t := t) (l := l) (j := j) (e4 i a c ha hc)⟩
  · exact .inr f1
theorem stS_over (s : List (Get × Ds)) (x : dens X.A (s.map (·.2))) : stS (X.over t l j) s x = stS X s x := by kernel_rfl
theorem EntryOkL.over {g : FuncId} {e : Entry X.A} (h : EntryOkL X g e) : EntryOkL (X.over t l j) g e := fun v w hw R sv args' hs ha => by
  have hs : SRel (X.over t l j) R (stS (X.over t l j) e.ins v).2 sv := hs
  have ha : VRs (X.over t l j) R (stS (X.over t l j) e.ins v).1 args' := ha
  rw [stS_over] at hs ha
  obtain ⟨R3, q0, qs, sv', h1, h2, h3⟩ := h v w hw R sv args' hs.back ha.back
  refine ⟨R3, q0, qs, sv', ?_, ?_, h3⟩
  · have := h1.over (t := t) (l := l) (j := j)
    rw [← stS_over (t := t) (l := l) (j := j)] at this
    exact this
  · have := h2.over (t := t) (l := l) (j := j)
    rw [← stS_over (t := t) (l := l) (j := j)] at this
    exact this
theorem EntryOkL.back {g : FuncId} {e : Entry X.A} (h : EntryOkL (X.over t l j) g e) : EntryOkL X g e := fun v w hw R sv args' hs ha => by
  have hs' := hs.over (t := t) (l := l) (j := j)
  have ha' := ha.over (t := t) (l := l) (j := j)
  rw [← stS_over (t := t) (l := l) (j := j)] at hs' ha'
  obtain ⟨R3, q0, qs, sv', h1, h2, h3⟩ := h v w hw R sv args' hs' ha'
  have h1 : SRel (X.over t l j) R3 (stS (X.over t l j) e.outs w).2 sv' := h1
  have h2 : VRs (X.over t l j) R3 (stS (X.over t l j) e.outs w).1 (q0 :: qs) := h2
  rw [stS_over] at h1 h2
  exact ⟨R3, q0, qs, sv', h1.back, h2.back, h3⟩
theorem EntryAny.over {g : FuncId} {e : Entry X.A} (h : EntryAny X g e) : EntryAny (X.over t l j) g e := ⟨fun hp => (h.pure hp).over, fun hk => (h.loc hk).over⟩
/-- A table whose entries all promise what they tell. -/
def TabsOk (X : TX) (t : FuncId → List (Entry X.A)) : Prop := ∀ g, ∀ e ∈ t g, EntryAny X g e
theorem TabsOk.stepA (h : TabsOk X t) {f : FuncId} {e : Entry X.A} (he : EntryAny X f e) : TabsOk X (fun g => if g = f then [e] else t g) := fun g e' he' => by
  dsimp only at he'
  split at he'
  · rename_i hg
    subst hg
    rw [List.mem_singleton] at he'
    subst he'
    exact he
  · exact h g e' he'
theorem TabsOk.step (h : TabsOk X t) {f : FuncId} {e : Entry X.A} (he : EntryOk X f e) (hp : isPure X.C f = true) : TabsOk X (fun g => if g = f then [e] else t g) := h.stepA (he.any hp)
theorem TabsOk.stepL (h : TabsOk X t) {f : FuncId} {e : Entry X.A} (he : EntryOkL X f e) (hp : isKeep X.C f = true) : TabsOk X (fun g => if g = f then [e] else t g) := h.stepA (he.any hp)
theorem TabsOk.ok (h : TabsOk X t) : TabOk (X.over t l j) := fun g e he => (h g e he).over
/-- A printed function. -/
theorem fn_ok (hX : XOk X) (hT : TabsOk X t) {f : FuncId} {ins : List (Get × Ds)} {base : Nat} {outs : List (Get × Ds)} {F : dens X.A (ins.map (·.2)) → Option (dens X.A (outs.map (·.2)))} (hp : isPure X.C f = true) (hprim : ∀ args, X.C.prim f args = none)
    (hF : ∀ v w, F v = some w → ∃ n, tFn (X.over t l j) n f ins base outs v = some w) : EntryOk X f ⟨ins, base, outs, F⟩ :=
  EntryOk.back (t := t) (l := l) (j := j) (entry_ok hX.over hT.ok hp hprim hF)
theorem fnL_ok (hX : XOk X) (hT : TabsOk X t) {f : FuncId} {ins : List (Get × Ds)} {base : Nat} {outs : List (Get × Ds)} {F : dens X.A (ins.map (·.2)) → Option (dens X.A (outs.map (·.2)))} (hk : isKeep X.C f = true) (hfz : X.C.frz f = false)
    (hF : ∀ v w, F v = some w → ∃ n, tFnL (X.over t l j) n f ins outs v = some w) : EntryOkL X f ⟨ins, base, outs, F⟩ :=
  EntryOkL.back (t := t) (l := l) (j := j) (entryL_ok hX.over hT.ok hk hfz hF)
theorem noneL_ok {g : FuncId} {e : Entry X.A} (h : ∀ v, e.F v = none) : EntryOkL X g e := fun v w hw => by rw [h v] at hw; cases hw
end over
/-- What the evaluator reckons of a function that is told. -/
theorem told_of {X : TX} {f : FuncId} {e : Entry X.A} (he : EntryOk X f e) (hp : isPure X.C f = true) (hprim : ∀ args, X.C.prim f args = none) {v : dens X.A (sds e.ins)} {w : dens X.A (sds e.outs)} (hw : e.F v = some w) (hb : (injs X id (sds e.outs) w 0).1 = [.bool true]) {args' : List PV} (ha : VRs X Rn.nil (injs X id (sds e.ins) v 0).1 args')
    (hs : args'.map PV.strip2 = args') : ∃ k, isTrue (evCall X.C k (.fn f) args' ⟨0, none⟩ St.nil) = true := by
  obtain ⟨qs, h1, k0, h2⟩ := he v w hw Rn.nil St.nil args' ha
  rw [hb] at h1
  obtain ⟨q, qs2, rfl, h3, h4⟩ := VRs.cons_iff.1 h1
  rw [VRs.nil_iff] at h4
  subst h4
  cases h3 with | bool _ =>
  have h5 := h2 k0 (Nat.le_refl _)
  unfold callBy at h5
  rw [hprim] at h5
  simp only [pure_mode hp, hs] at h5
  split at h5
  · split at h5
    · rename_i rr ss hev
      split at h5
      · simp only [oneP, Option.some.injEq, Prod.mk.injEq] at h5
        refine ⟨k0, ?_⟩
        rw [hev]
        have : rr = .v (.bool true) := by
          have h6 := h5.1
          cases rr <;> simp [PV.strip2, PV.strip1, PV.strip] at h6
          exact congrArg PV.v h6
        rw [this]
        rfl
      · cases h5
    · cases h5
  · cases h5
end Go.Proofs.YtlkaoiceehlkmaaTE

namespace Go.Proofs.YtlkaoiceehlkmaaTE
open Go Go.Proofs.YtlkaoiceehlkmaaVE
set_option linter.unusedVariables false
/-! Cells, one by one. -/
section
variable {A : TypeId → Type} {α : Type} {x : α}
theorem mI {k : IntKind} {c : TV A} {f : Int → Option α} (h : (match dI k c with | some a => f a | none => none) = some x) : ∃ a, dI k c = some a ∧ f a = some x := by
  split at h
  · rename_i a ha; exact ⟨a, ha, h⟩
  · cases h
theorem mB {c : TV A} {f : Bool → Option α} (h : (match dB c with | some a => f a | none => none) = some x) : ∃ a, dB c = some a ∧ f a = some x := by
  split at h
  · rename_i a ha; exact ⟨a, ha, h⟩
  · cases h
theorem mS {c : TV A} {f : List UInt8 → Option α} (h : (match dS c with | some a => f a | none => none) = some x) : ∃ a, dS c = some a ∧ f a = some x := by
  split at h
  · rename_i a ha; exact ⟨a, ha, h⟩
  · cases h
theorem mR {t : TypeId} {c : TV A} {f : List (A t) → Option α} (h : (match dR t c with | some a => f a | none => none) = some x) : ∃ a, dR t c = some a ∧ f a = some x := by
  split at h
  · rename_i a ha; exact ⟨a, ha, h⟩
  · cases h
end
section
variable {X : TX} {r : Rn} {q : PV}
theorem cI {k : IntKind} {c : TV X.A} {a : Int} (h : dI k c = some a) (g : VR X r c q) : VR X r (.int k a) q := by
  unfold dI at h
  split at h
  · split at h
    · rename_i hk; subst hk; simp only [Option.some.injEq] at h; subst h; exact g
    · cases h
  · cases h
theorem cB {c : TV X.A} {a : Bool} (h : dB c = some a) (g : VR X r c q) : VR X r (.bool a) q := by
  unfold dB at h
  split at h
  · simp only [Option.some.injEq] at h; subst h; exact g
  · cases h
theorem cS {c : TV X.A} {a : List UInt8} (h : dS c = some a) (g : VR X r c q) : VR X r (.str a) q := by
  unfold dS at h
  split at h
  · simp only [Option.some.injEq] at h; subst h; exact g
  · cases h
theorem cR {t : TypeId} {n : Nat} {c : TV X.A} {a : List (X.A t)} (hn : X.wd t = some n) (h : dR t c = some a) (g : VR X r c q) : VR X r (.row t a .sh) q := by
  unfold dR at h
  split at h
  · rename_i u l f
    split at h
    · rename_i hu
      subst hu
      simp only [Option.some.injEq] at h
      subst h
      cases g with
      | row h1 h2 h3 h4 h5 _ => exact .row h1 h2 h3 h4 trivial .nil
    · cases h
  · simp only [Option.some.injEq] at h
    subst h
    have := VR.nils g
    subst this
    exact .row hn rfl (fun i a c ha => by simp at ha) (fun c hc => by simp at hc) trivial .nil
  · cases h
end
/-! Functions of Go's library. -/
section
variable {X : TX} {g : FuncId}
theorem prim_ok {e : Entry X.A} (h : ∀ v w, e.F v = some w → ∀ R args', VRs X R (injs X id (sds e.ins) v 0).1 args' → ∃ qs, X.C.prim g (args'.map PV.strip2) = some (oneP qs) ∧ VRs X R (injs X id (sds e.outs) w 0).1 qs) : EntryOk X g e := fun v w hw R sv args' ha => by
  obtain ⟨qs, h1, h2⟩ := h v w hw R args' ha
  exact ⟨qs, h2, 0, fun k _ => by unfold callBy; rw [h1]⟩
theorem none_ok {e : Entry X.A} (h : ∀ v, e.F v = none) : EntryOk X g e := fun v w hw => by rw [h v] at hw; cases hw
theorem args_s {R : Rn} {s : List UInt8} {a : List PV} (h : VRs X R [.str s] a) : a = [.v (.string ⟨s.toArray⟩)] := by
  cases h with | str h => cases h; rfl
theorem args_ss {R : Rn} {s p : List UInt8} {a : List PV} (h : VRs X R [.str s, .str p] a) : a = [.v (.string ⟨s.toArray⟩), .v (.string ⟨p.toArray⟩)] := by
  cases h with | str h => rw [args_s h]
abbrev str2 : List (Get × Ds) := [(.tmp 0, .str), (.tmp 1, .str)]
theorem count_ok (hp : X.C.prim g = pCount) : EntryOk X g ⟨str2, 0, [(.tmp 0, .int .i64)], tCount⟩ := prim_ok fun v w hw R args' ha => by
  obtain ⟨s, p, u⟩ := v
  have ha := args_ss (show VRs X R [.str s, .str p] args' from ha)
  subst ha
  have hw : tCount (s, p, u) = some w := hw
  unfold tCount at hw
  split at hw
  · rename_i c hc
    have hc : p = [c] := hc
    subst hc
    cases hw
    refine ⟨[.v (.int .i64 (Lib.countByte s c))], ?_, .int .nil⟩
    rw [hp]
    rfl
  · cases hw
theorem index_ok' (hp : X.C.prim g = pIndex) : EntryOk X g ⟨str2, 0, [(.tmp 0, .int .i64)], tIndex⟩ := prim_ok fun v w hw R args' ha => by
  obtain ⟨s, p, u⟩ := v
  have ha := args_ss (show VRs X R [.str s, .str p] args' from ha)
  subst ha
  have hw : tIndex (s, p, u) = some w := hw
  unfold tIndex at hw
  split at hw
  · rename_i c hc
    have hc : p = [c] := hc
    subst hc
    cases hw
    refine ⟨[.v (.int .i64 (idxF s c 0))], ?_, .int .nil⟩
    rw [hp]
    rfl
  · cases hw
theorem pAtoi_eq {s : List UInt8} {n : Int} (hl : s.length ≤ 18) (hn : Lib.atoi s = some n) : pAtoi [.v (.string ⟨s.toArray⟩)] = some (.tuple [.v (.int .i64 n), .v .nilIface]) := by
  have e : pAtoi [.v (.string ⟨s.toArray⟩)] = if (⟨s.toArray⟩ : ByteArray).size ≤ 18 then (Lib.atoi s).map fun n => PV.tuple [.v (.int .i64 n), .v .nilIface] else none := rfl
  have hl' : (⟨s.toArray⟩ : ByteArray).size ≤ 18 := by simpa [ByteArray.size] using hl
  rw [e, if_pos hl', hn]
  rfl
theorem atoi_ok (hp : X.C.prim g = pAtoi) : EntryOk X g ⟨[(.tmp 0, .str)], 0, [(.tmp 0, .int .i64), (.tmp 1, .nili)], tAtoi⟩ := prim_ok fun v w hw R args' ha => by
  obtain ⟨s, u⟩ := v
  have ha := args_s (show VRs X R [.str s] args' from ha)
  subst ha
  have hw : tAtoi (s, u) = some w := hw
  unfold tAtoi at hw
  split at hw
  · rename_i hl
    simp only [decide_eq_true_eq] at hl
    split at hw
    · rename_i n hn
      cases hw
      refine ⟨[.v (.int .i64 n), .v .nilIface], ?_, .int (.nilt .nil)⟩
      rw [hp]
      exact pAtoi_eq (s := s) hl hn
    · cases hw
  · cases hw
theorem digs_eq : ∀ (k u : Nat), u < 10 ^ (k + 1) → digs k u = Lib.decDigits u
  | 0, u, h => by
    have hu : u < 10 := by simpa using h
    rw [Lib.decDigits, dif_pos hu]; rfl
  | k + 1, u, h => by
    rw [Lib.decDigits]
    unfold digs
    by_cases hu : u < 10
    · rw [dif_pos hu]; simp [hu]
    · rw [dif_neg hu]
      simp only [hu, decide_false]
      rw [digs_eq k (u / 10) (by rw [Nat.pow_succ] at h; omega)]
theorem pItoa_eq {n : Int} {w : Str × Unit} (h : tItoa (n, ()) = some w) : pItoa [.v (.int .i64 n)] = some (.v (.string ⟨w.1.toArray⟩)) := by
  have e : pItoa [.v (.int .i64 n)] = if -9223372036854775808 ≤ n ∧ n ≤ 9223372036854775807 then some (.v (.string ⟨(Lib.itoa n).toArray⟩)) else none := rfl
  have p21 : (10 : Nat) ^ 21 = 1000000000000000000000 := by decide
  unfold tItoa at h
  split at h
  · rename_i hl
    simp only [Bool.and_eq_true, decide_eq_true_eq] at hl
    rw [e, if_pos hl]
    split at h
    · rename_i hn
      simp only [decide_eq_true_eq] at hn
      cases h
      unfold Lib.itoa
      rw [if_pos hn, digs_eq 20 _ (by omega)]
    · rename_i hn
      simp only [decide_eq_false_iff_not] at hn
      cases h
      unfold Lib.itoa
      rw [if_neg hn, digs_eq 20 _ (by omega)]
  · cases h
theorem itoa_ok' (hp : X.C.prim g = pItoa) : EntryOk X g ⟨[(.tmp 0, .int .i64)], 0, [(.tmp 0, .str)], tItoa⟩ := prim_ok fun v w hw R args' ha => by
  obtain ⟨n, u⟩ := v
  have ha : VRs X R [.int .i64 n] args' := ha
  have ha : args' = [.v (.int .i64 n)] := by cases ha with | int h => cases h; rfl
  subst ha
  have hw : tItoa (n, ()) = some w := hw
  refine ⟨[.v (.string ⟨(w : Str × Unit).1.toArray⟩)], ?_, .str .nil⟩
  rw [hp]
  exact pItoa_eq hw
theorem pAtoiAll_eq {s : List UInt8} {n : Int} (hl : s.length ≤ 9223372036854775806) (hn : Lib.atoiAll s = .ok n) : pAtoiAll [.v (.string ⟨s.toArray⟩)] = some (.tuple [.v (.int .i64 n), .v .nilIface]) := by
  have e : pAtoiAll [.v (.string ⟨s.toArray⟩)] = if (⟨s.toArray⟩ : ByteArray).size ≤ 9223372036854775806 then (match Lib.atoiAll s with
    | .ok v => some (PV.tuple [.v (.int .i64 v), .v .nilIface])
    | _ => none) else none := rfl
  have hl' : (⟨s.toArray⟩ : ByteArray).size ≤ 9223372036854775806 := by
    show s.toArray.size ≤ _
    rw [List.size_toArray]; exact hl
  rw [e, if_pos hl', hn]
theorem atoiAll_ok (hp : X.C.prim g = pAtoiAll) : EntryOk X g ⟨[(.tmp 0, .str)], 0, [(.tmp 0, .int .i64), (.tmp 1, .nili)], tAtoiAll⟩ := prim_ok fun v w hw R args' ha => by
  obtain ⟨s, u⟩ := v
  have ha := args_s (show VRs X R [.str s] args' from ha)
  subst ha
  have hw : tAtoiAll (s, u) = some w := hw
  unfold tAtoiAll at hw
  split at hw
  · rename_i hl
    simp only [decide_eq_true_eq] at hl
    split at hw
    · rename_i n hn
      cases hw
      refine ⟨[.v (.int .i64 n), .v .nilIface], ?_, .int (.nilt .nil)⟩
      rw [hp]
      exact pAtoiAll_eq (s := s) hl hn
    · cases hw
  · cases hw
end
end Go.Proofs.YtlkaoiceehlkmaaTE

namespace Go.Proofs.YtlkaoiceehlkmaaTE
open Go Go.Proofs.YtlkaoiceehlkmaaVE Go.RowKit
set_option linter.unusedVariables false
/-- The walk of a law that is told by the table, out of its plain law. -/
theorem told_F {X : TX} {f : FuncId} {ins outs : List (Get × Ds)} {base : Nat} {F : dens X.A (ins.map (·.2)) → Option (dens X.A (outs.map (·.2)))} (he : EntryOk X f ⟨ins, base, outs, F⟩) (hp : isPure X.C f = true) (hprim : ∀ args, X.C.prim f args = none)
    (v : dens X.A (ins.map (·.2))) (w : dens X.A (outs.map (·.2))) (hw : F v = some w) (hb : (injs X id (sds outs) w 0).1 = [.bool true]) {args' : List PV} (ha : VRs X Rn.nil (injs X id (sds ins) v 0).1 args')
    (hs : args'.map PV.strip2 = args') {W : World} (hC : CfgOk X.C ⟨W⟩) {g : Gh} (hg : SR ⟨W⟩ g St.nil W) {vs : List Value} (hr : Reps g args' vs) :
    Calls X.C.P f vs.toArray W fun e w' => e = .returned (.bool true) ∧ Below W.heap.size W w' := by
  obtain ⟨k, hk⟩ := told_of he hp hprim hw hb ha hs
  exact told hC hk hg hr
end Go.Proofs.YtlkaoiceehlkmaaTE

/- strings.Index at any two texts; no condition. -/
namespace Go.Proofs.YtlkaoiceehlkmaaTE
open Go Go.Proofs.YtlkaoiceehlkmaaVE
set_option linter.unusedVariables false
def tIndexL (v : Str × Str × Unit) : Option (Int × Unit) := match decide (v.1.length < 4294967281) with
  | true => some (Lib.index v.1 v.2.1, ())
  | false => none
section
variable {X : TX} {g : FuncId}
theorem pIndexL_eq {s p : List UInt8} (hl : s.length < 4294967281) : pIndexL [.v (.string ⟨s.toArray⟩), .v (.string ⟨p.toArray⟩)] = some (.v (.int .i64 (Lib.index s p))) := by
  have e : pIndexL [.v (.string ⟨s.toArray⟩), .v (.string ⟨p.toArray⟩)] = if (⟨s.toArray⟩ : ByteArray).size < 4294967281 then some (.v (.int .i64 (Lib.index s p))) else none := rfl
  have hl' : (⟨s.toArray⟩ : ByteArray).size < 4294967281 := by simpa [ByteArray.size] using hl
  rw [e, if_pos hl']
theorem indexL_ok (hp : X.C.prim g = pIndexL) : EntryOk X g ⟨str2, 0, [(.tmp 0, .int .i64)], tIndexL⟩ := prim_ok fun v w hw R args' ha => by
  obtain ⟨s, p, u⟩ := v
  have ha := args_ss (show VRs X R [.str s, .str p] args' from ha)
  subst ha
  have hw : tIndexL (s, p, u) = some w := hw
  unfold tIndexL at hw
  split at hw
  · rename_i h
    cases hw
    refine ⟨[.v (.int .i64 (Lib.index s p))], ?_, .int .nil⟩
    rw [hp]
    exact pIndexL_eq (of_decide_eq_true h)
  · cases hw
end
end Go.Proofs.YtlkaoiceehlkmaaTE
