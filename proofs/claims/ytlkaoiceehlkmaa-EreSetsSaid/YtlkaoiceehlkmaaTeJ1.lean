import Derived.Test.YtlkaoiceehlkmaaTeF1
namespace Go.Proofs.YtlkaoiceehlkmaaTE
open Go Go.Proofs.YtlkaoiceehlkmaaVE
set_option linter.unusedVariables false
set_option linter.unusedSimpArgs false

section three
variable {X : TX} {r : Rn} {s : TS X.A} {v : St} {call : YtlkaoiceehlkmaaVE.Call} {f : FuncId} {tm : List (TV X.A)} {tm' : List PV} {o : Oper} {α : Type} {z : α} {K : TV X.A → TS X.A → Option α}
theorem nilCheck_ok (hs : SRel X r s v) (hv : VRs X r tm tm') {x : Operand} (ho : o.op = .nilCheck x) (h : (match TV.ev tm x with
    | .optp u o => oK o fun a => K (.eptr (X.lay u a)) s
    | .ptr l o => K (.ptr l o) s
    | .eptr cs => K (.eptr cs) s
    | .aptr u l i o => K (.aptr u l i o) s
    | .iptr l o n k i => K (.iptr l o n k i) s
    | .fn g a b => K (.fn g a b) s
    | _ => none) = some z) : OpR X r s v K z (evOp X.C call f ⟨0, none⟩ tm' v o) := by
  have h1 := hv.ev x
  have e : evOp X.C call f ⟨0, none⟩ tm' v o = withSt v (evNilCheck (PV.ev tm' x)) := by simp only [evOp, ho]
  rw [e]
  generalize PV.ev tm' x = q at h1
  split at h
  · rename_i hx; rw [hx] at h1
    obtain ⟨a, rfl, h⟩ := oK_some h
    cases h1 with
    | opts k1 k2 _ =>
      cases k2 with
      | eptr k3 _ => exact OpR.pure hs h (.eptr k3 .nil) rfl
      | eptrF k3 k4 k5 k6 _ => exact OpR.pure hs h (.eptrF k3 k4 k5 k6 .nil) rfl
  · rename_i hx; rw [hx] at h1
    cases h1 with | ptr k _ => exact OpR.pure hs h (.ptr k .nil) rfl
  · rename_i hx; rw [hx] at h1
    cases h1 with
    | eptr k _ => exact OpR.pure hs h (.eptr k .nil) rfl
    | eptrF k3 k4 k5 k6 _ => exact OpR.pure hs h (.eptrF k3 k4 k5 k6 .nil) rfl
  · rename_i hx; rw [hx] at h1
    cases h1 with | aptr k1 k2 _ => exact OpR.pure hs h (.aptr k1 k2 .nil) rfl
  · rename_i hx; rw [hx] at h1
    cases h1 with | iptr k1 k2 k3 _ => exact OpR.pure hs h (.iptr k1 k2 k3 .nil) rfl
  · rename_i hx; rw [hx] at h1
    cases h1 with | fn k1 k2 _ => exact OpR.pure hs h (.fn k1 k2 .nil) rfl
  · cases h
theorem makeFunc_ok (hs : SRel X r s v) (hv : VRs X r tm tm') {g : FuncId} {a b : Array Operand} (ho : o.op = .makeFunc (.func g) a b) (h : K (.fn g (a.toList.map (TV.ev tm)) (b.toList.map (TV.ev tm))) s = some z) : OpR X r s v K z (evOp X.C call f ⟨0, none⟩ tm' v o) :=
  OpR.pure hs h (.fn (hv.evs _) (hv.evs _) .nil) (by simp only [evOp, ho])
theorem part_ok' {t : TypeId} {cs : List (TV X.A)} {cs' : List PV} {off : Nat} {p : TV X.A} (hc : VRs X r cs cs') (h : partT X t cs off = some p) : ∃ p', partOf X.C.P t cs' off = some p' ∧ VR X r p p' := by
  unfold partT at h
  split at h
  · rename_i n b hn hb
    simp only [partOf, hn, hb]
    cases b with
    | true =>
      simp only [if_true] at h ⊢
      split at h
      · rename_i hl
        simp only [Option.some.injEq] at h
        subst h
        exact ⟨_, by rw [if_pos (by rw [← hc.length]; exact hl)], .agg ((hc.drop off).take n) .nil⟩
      · cases h
    | false =>
      simp only [Bool.false_eq_true, if_false] at h ⊢
      have hl := (List.getElem?_eq_some_iff.1 h).1
      have h2 : cs'[off]? = some (cs'[off]'(by rw [← hc.length]; exact hl)) := by simp [← hc.length, hl]
      exact ⟨_, h2, hc.get h h2⟩
  · cases h
theorem field_ok (hs : SRel X r s v) (hv : VRs X r tm tm') {t : TypeId} {x : Operand} {i : Nat} (ho : o.op = .field t x i) (h : (cK (fieldOf X.C.P t i) fun ft => match TV.ev tm x with
    | .agg cs => cK (partT X ft.2 cs ft.1) fun p => K p s
    | _ => none) = some z) : OpR X r s v K z (evOp X.C call f ⟨0, none⟩ tm' v o) := by
  obtain ⟨⟨off, ft⟩, hf, h⟩ := cK_some h
  have h1 := hv.ev x
  have e : evOp X.C call f ⟨0, none⟩ tm' v o = withSt v (evField X.C.P t (PV.ev tm' x) i) := by simp only [evOp, ho]
  rw [e]
  generalize PV.ev tm' x = q at h1
  split at h
  · rename_i cs hx; rw [hx] at h1
    cases h1 with
    | agg hc _ =>
      obtain ⟨p, hp, h⟩ := cK_some h
      obtain ⟨p', e1, e2⟩ := part_ok' hc hp
      exact OpR.pure hs h e2 (by simp only [evField, hf, e1]; rfl)
  · cases h
theorem VRs.dropE {cs : List (TV X.A)} {c1 c2 : List PV} (h : VRs X r cs c1) {n : Nat} (hn : n ≤ cs.length) : ∃ d, (c1 ++ c2).drop n = c1.drop n ++ d ∧ VRs X r (cs.drop n) (c1.drop n) :=
  ⟨c2, by rw [List.drop_append_of_le_length (by rw [← h.length]; exact hn)], h.drop n⟩
theorem eptr_drop {cs : List (TV X.A)} {q : PV} (h : VR X r (.eptr cs) q) {n : Nat} (hn : n ≤ cs.length) : ∃ q', (match q with | .ptr l o => some (PV.ptr l (o + n)) | .eptr cs => some (.eptr (cs.drop n)) | _ => none) = some q' ∧ VR X r (.eptr (cs.drop n)) q' := by
  cases h with
  | @eptr _ c1 c2 _ _ k _ =>
    obtain ⟨d, e1, e2⟩ := k.dropE (c2 := c2) hn
    exact ⟨_, rfl, by rw [e1]; exact .eptr e2 .nil⟩
  | @eptrF _ c1 c2 k off ds _ _ k1 k2 k3 k4 _ =>
    obtain ⟨d, e1, e2⟩ := k4.dropE (c2 := c2) hn
    have hlen := congrArg List.length k3
    simp only [List.length_drop, List.length_append] at hlen
    have := k4.length
    exact ⟨_, rfl, .eptrF k1 (by omega) (by rw [← List.drop_drop, k3, e1]) e2 .nil⟩
theorem fieldAddr_ok (hs : SRel X r s v) (hv : VRs X r tm tm') {t : TypeId} {x : Operand} {i : Nat} (ho : o.op = .fieldAddr t x i) (h : (fieldAddrT X t (TV.ev tm x) i fun p => K p s) = some z) : OpR X r s v K z (evOp X.C call f ⟨0, none⟩ tm' v o) := by
  unfold fieldAddrT at h
  obtain ⟨⟨off, ft⟩, hf, h⟩ := cK_some h
  obtain ⟨hp, h⟩ := dK_some h
  have h1 := hv.ev x
  have e : evOp X.C call f ⟨0, none⟩ tm' v o = withSt v (evFieldAddr X.C.P t (PV.ev tm' x) i) := by simp only [evOp, ho]
  rw [e]
  generalize PV.ev tm' x = q at h1
  have hsz : ∃ m, tySize X.C.P ft = some (m + 1) := by
    unfold posSize at hp
    split at hp
    · exact ⟨_, by assumption⟩
    · cases hp
  obtain ⟨m, hsz⟩ := hsz
  have ep : ∀ {cs : List (TV X.A)} {q : PV}, VR X r (.eptr cs) q → off ≤ cs.length → K (.eptr (cs.drop off)) s = some z → OpR X r s v K z (withSt v (evFieldAddr X.C.P t q i)) := fun {cs q} hq hl hk => by
    obtain ⟨q', e1, e2⟩ := eptr_drop hq hl
    refine OpR.pure hs hk e2 ?_
    cases q with
    | ptr l o => simp only [Option.some.injEq] at e1; subst e1; simp only [evFieldAddr, hf, hsz]; rfl
    | eptr cs => simp only [Option.some.injEq] at e1; subst e1; simp only [evFieldAddr, hf, hsz]; rfl
    | _ => cases e1
  split at h
  · rename_i hx; rw [hx] at h1
    cases h1 with | ptr k _ => exact OpR.pure hs h (.ptr k .nil) (by simp only [evFieldAddr, hf, hsz]; rfl)
  · rename_i hx; rw [hx] at h1
    obtain ⟨hl, h⟩ := dK_some h
    exact ep h1 (by simpa using hl) h
  · rename_i hx; rw [hx] at h1
    cases h1 with
    | aptr k1 k2 _ =>
      refine OpR.pure hs h (.aptr k1 k2 .nil) ?_
      simp only [evFieldAddr, hf, hsz, Nat.add_assoc]; rfl
  · rename_i hx; rw [hx] at h1
    obtain ⟨a, rfl, h⟩ := oK_some h
    obtain ⟨hl, h⟩ := dK_some h
    cases h1 with
    | opts _ k2 _ => exact ep k2 (by simpa using hl) h
  · cases h
theorem idx_some {β : Type} {l : List β} {i : Int} {x : β} (h : idx l i = some x) : 0 ≤ i ∧ l[i.toNat]? = some x := by
  unfold idx at h
  split at h
  · exact ⟨Int.natCast_nonneg _, h⟩
  · cases h
theorem indexAddr_ok (hX : XOk X) (hs : SRel X r s v) (hv : VRs X r tm tm') {t : TypeId} {x i : Operand} (ho : o.op = .indexAddr t x i) (h : (indexAddrT X t (TV.ev tm x) (TV.ev tm i) fun p => K p s) = some z) : OpR X r s v K z (evOp X.C call f ⟨0, none⟩ tm' v o) := by
  unfold indexAddrT at h
  obtain ⟨j, hj, h⟩ := cK_some h
  have hj' := asI_ok hj (hv.ev i)
  have h1 := hv.ev x
  have e : evOp X.C call f ⟨0, none⟩ tm' v o = withSt v (evIndexAddr X.C.P t (PV.ev tm' x) (PV.ev tm' i)) := by simp only [evOp, ho]
  rw [e]
  generalize PV.ev tm' x = q at h1
  split at h
  · rename_i el hu
    split at h
    · rename_i u l fl hx; rw [hx] at h1
      have hue := (dK_some h).1
      replace h := (dK_some h).2
      simp only [beq_iff_eq] at hue
      subst hue
      obtain ⟨a, ha, h⟩ := oK_some h
      obtain ⟨ha0, ha⟩ := idx_some ha
      cases h1 with
      | @row _ _ _ xs f' n _ _ k1 k2 k3 k4 k5 _ =>
        have hi := (List.getElem?_eq_some_iff.1 ha).1
        have hx : xs[j.toNat]? = some (xs[j.toNat]'(by omega)) := by simp [show j.toNat < xs.length by omega]
        have hc := k3 _ _ _ ha hx
        have hl := hc.layOne hX k1
        refine OpR.pure hs h (p' := .eptr (xs[j.toNat]'(by omega) ++ [])) (.eptr hc .nil) ?_
        simp only [evIndexAddr, hj', hu, (hX.wd _ _ k1).1, hx]
        rw [if_pos ha0, if_pos hl.2, List.append_nil]
        rfl
    · rename_i u l off n hx; rw [hx] at h1
      have hue := (dK_some h).1
      replace h := (dK_some h).2
      simp only [beq_iff_eq] at hue
      subst hue
      obtain ⟨hr, h⟩ := gK_some h
      simp only [inR, Bool.and_eq_true, decide_eq_true_eq] at hr
      cases h1 with
      | refn _ _ => omega
      | refe _ _ _ _ => omega
      | ref k1 k2 _ =>
        refine OpR.pure hs h (.aptr k1 k2 .nil) ?_
        simp only [evIndexAddr, hj', hu, (hX.wd _ _ k1).1]
        rw [if_pos ⟨trivial, hr.1, hr.2⟩, Nat.add_mul]
        rfl
    · cases h
  · rename_i n el hu
    obtain ⟨hsz, h⟩ := dK_some h
    simp only [beq_iff_eq] at hsz
    split at h
    · rename_i l off hx; rw [hx] at h1
      obtain ⟨hr, h⟩ := gK_some h
      simp only [inR, Bool.and_eq_true, decide_eq_true_eq] at hr
      cases h1 with
      | ptr k _ =>
        refine OpR.pure hs h (.iptr k hr.1 hr.2 .nil) ?_
        simp only [evIndexAddr, hj', hu, hsz]
        rw [if_pos ⟨hr.1, hr.2⟩, Nat.mul_one]
        rfl
    · rename_i cs hx; rw [hx] at h1
      obtain ⟨⟨k, ns⟩, hns, h⟩ := cK_some h
      obtain ⟨m, hm, h⟩ := oK_some h
      obtain ⟨hm0, hm⟩ := idx_some hm
      simp only at hm h
      have hmi := (List.getElem?_eq_some_iff.1 hm).1
      have key : ∀ {c1 : List PV}, VRs X r cs c1 → j < n ∧ ∃ d, c1.drop (j.toNat * 1) = PV.v (.int k m) :: d := fun {c1} hc => by
        obtain ⟨e1, e2⟩ := ints_ok hns (hc.take n)
        have hl := congrArg List.length e1
        simp only [List.length_take, List.length_map] at hl
        have hg : (c1.take n)[j.toNat]? = some (PV.v (.int k m)) := by rw [e2, List.getElem?_map, hm]; rfl
        rw [List.getElem?_take] at hg
        split at hg
        · rename_i hjn
          refine ⟨by omega, c1.drop (j.toNat + 1), ?_⟩
          obtain ⟨hb, hbe⟩ := List.getElem?_eq_some_iff.1 hg
          rw [Nat.mul_one, List.drop_eq_getElem_cons hb, hbe]
        · cases hg
      cases h1 with
      | @eptr _ c1 c2 _ _ hc _ =>
        obtain ⟨e1, d, e2⟩ := key hc
        have hl : j.toNat * 1 ≤ c1.length := by
          have := congrArg List.length e2
          simp at this
          omega
        refine OpR.pure hs h (p' := .eptr ([PV.v (.int k m)] ++ (d ++ c2))) (.eptr (.int .nil) .nil) ?_
        simp only [evIndexAddr, hj', hu, hsz]
        rw [if_pos ⟨hm0, e1⟩, List.drop_append_of_le_length hl, e2]
        rfl
      | @eptrF _ c1 c2 kk off ds _ _ k1 k2 k3 hc _ =>
        obtain ⟨e1, d, e2⟩ := key hc
        have hl : j.toNat * 1 ≤ c1.length := by
          have := congrArg List.length e2
          simp at this
          omega
        have hlen := congrArg List.length k3
        simp only [List.length_drop, List.length_append] at hlen
        refine OpR.pure hs h (p' := .ptr kk (off + j.toNat * 1)) (.eptrF k1 (by omega) (c1 := [PV.v (.int k m)]) (c2 := d ++ c2) ?_ (.int .nil) .nil) ?_
        · rw [← List.drop_drop, k3, List.drop_append_of_le_length hl, e2]; rfl
        · simp only [evIndexAddr, hj', hu, hsz]
          rw [if_pos ⟨hm0, e1⟩]
          rfl
    · cases h
  · cases h
theorem isString_some {P : Program} {t : TypeId} (h : isString P t = true) : P.underlying t = some .string := by
  unfold isString at h
  split at h
  · assumption
  · cases h
theorem isSlice_some {P : Program} {t : TypeId} (h : isSlice P t = true) : ∃ e, P.underlying t = some (.slice e) := by
  unfold isSlice at h
  split at h
  · exact ⟨_, by assumption⟩
  · cases h
theorem evFlat_val (o : Oper) {w : Value} (hall : (o.op.operands.toList.all fun x => (toV (PV.ev tm' x)).isSome) = true) (hr : runP X.C.P (execOp (fun z => (toV (PV.ev tm' z)).getD undef) o) = some (.value w)) (hf : ofV w = some (.v w)) : evFlat X.C.P tm' o = some (.v w) := by
  unfold evFlat
  rw [if_pos hall, hr]
  exact hf
theorem index_ok (hs : SRel X r s v) (hv : VRs X r tm tm') {t : TypeId} {x i : Operand} (ho : o.op = .index t x i) (h : (indexT X t (TV.ev tm x) (TV.ev tm i) fun p => K p s) = some z) : OpR X r s v K z (evOp X.C call f ⟨0, none⟩ tm' v o) := by
  unfold indexT at h
  obtain ⟨j, hj, h⟩ := cK_some h
  have hj' := asI_ok hj (hv.ev i)
  have h1 := hv.ev x
  generalize hq : PV.ev tm' x = q at h1
  split at h
  · rename_i y hx; rw [hx] at h1
    cases h1 with | str _ =>
    obtain ⟨hst, h⟩ := dK_some h
    obtain ⟨b, hb, h⟩ := oK_some h
    obtain ⟨hb0, hb⟩ := idx_some hb
    have hk : ∃ k, PV.ev tm' i = .v (.int k j) := by
      have h2 := hv.ev i
      revert hj h2
      cases TV.ev tm i with
      | int k n =>
        intro hj h2
        simp only [asInt, Option.some.injEq] at hj
        subst hj
        generalize PV.ev tm' i = w at h2
        cases h2 with | int _ => exact ⟨k, rfl⟩
      | _ => intro hj; simp [asInt] at hj
    obtain ⟨k, hk⟩ := hk
    refine OpR.pure hs h (.int .nil) (p' := .v (.int .u8 b.toNat)) ?_
    simp only [evOp, ho, hq, withSt]
    rw [evFlat_val (X := X) o (w := .int .u8 b.toNat) (by simp [ho, Op.operands, hq, hk, toV]) ?_ rfl]
    · rfl
    · simp only [execOp, ho, hq, hk, toV, Option.getD_some]
      refine runP_valued _ ?_
      unfold Instr.index
      rw [runP_bind]
      show runP X.C.P (do let u ← underlying t; _) = _
      rw [runP_bind, runP_und (isString_some hst)]
      simp only
      have : (⟨y.toArray⟩ : ByteArray)[j.toNat]? = some b := by
        have h5 : y.toArray[j.toNat]? = some b := by simpa using hb
        have hlt : j.toNat < y.length := (List.getElem?_eq_some_iff.1 hb).1
        have : (⟨y.toArray⟩ : ByteArray)[j.toNat]? = some ((⟨y.toArray⟩ : ByteArray)[j.toNat]'(by simpa [ByteArray.size] using hlt)) := getElem?_pos _ _ _
        rw [this]
        have h6 := (List.getElem?_eq_some_iff.1 hb).2
        exact congrArg some h6
      rw [if_pos hb0, this]
      rfl
  · rename_i cs hx; rw [hx] at h1
    cases h1 with | @agg _ cs' _ _ hc _ =>
    split at h
    · rename_i n el hu
      obtain ⟨h2, h⟩ := dK_some h
      simp only [Bool.and_eq_true, beq_iff_eq] at h2
      obtain ⟨⟨k, ns⟩, hns, h⟩ := cK_some h
      obtain ⟨m, hm, h⟩ := oK_some h
      obtain ⟨hm0, hm⟩ := idx_some hm
      simp only at hm h
      obtain ⟨e1, e2⟩ := ints_ok hns (hc.take n)
      have hg : (cs'.take n)[j.toNat]? = some (PV.v (.int k m)) := by rw [e2, List.getElem?_map, hm]; rfl
      rw [List.getElem?_take] at hg
      split at hg
      · rename_i hjn
        refine OpR.pure hs h (p' := .v (.int k m)) (.int .nil) ?_
        simp only [evOp, ho, hq, evIndex, hj', hu, h2.1]
        rw [if_pos ⟨hm0, by omega⟩]
        simp only [partOf, h2.1, h2.2, Nat.mul_one, Bool.false_eq_true, if_false, hg]
        rfl
      · cases hg
    · cases h
  · cases h
theorem extract_ok (hs : SRel X r s v) (hv : VRs X r tm tm') {x : Operand} {i : Nat} (ho : o.op = .extract x i) (h : (match TV.ev tm x with
    | .tuple vs => cK vs[i]? fun p => K p s
    | _ => none) = some z) : OpR X r s v K z (evOp X.C call f ⟨0, none⟩ tm' v o) := by
  have h1 := hv.ev x
  generalize hq : PV.ev tm' x = q at h1
  split at h
  · rename_i vs hx; rw [hx] at h1
    cases h1 with
    | @tuple _ cs' _ _ hc _ =>
      obtain ⟨p, hp, h⟩ := cK_some h
      have hl := (List.getElem?_eq_some_iff.1 hp).1
      have h2 : cs'[i]? = some (cs'[i]'(by rw [← hc.length]; exact hl)) := by simp [← hc.length, hl]
      exact OpR.pure hs h (hc.get hp h2) (by simp only [evOp, ho, hq, h2]; rfl)
  · cases h
end three
end Go.Proofs.YtlkaoiceehlkmaaTE

namespace Go.Proofs.YtlkaoiceehlkmaaTE
open Go Go.Proofs.YtlkaoiceehlkmaaVE
set_option linter.unusedVariables false
set_option linter.unusedSimpArgs false

section four
variable {X : TX} {r : Rn} {s : TS X.A} {v : St} {call : YtlkaoiceehlkmaaVE.Call} {f : FuncId} {tm : List (TV X.A)} {tm' : List PV} {o : Oper} {α : Type} {z : α} {K : TV X.A → TS X.A → Option α}
theorem asInt_v {p : TV X.A} {q : PV} {i : Int} (h : asInt X p = some i) (hv : VR X r p q) : ∃ k, q = .v (.int k i) := by
  cases p with
  | int k n =>
    simp only [asInt, Option.some.injEq] at h
    subst h
    cases hv with | int _ => exact ⟨k, rfl⟩
  | _ => simp [asInt] at h
/-- A bound. -/
def Bd (tm' : List PV) (lo : Option Operand) (i d : Int) : Prop := (lo = none ∧ i = d) ∨ ∃ x k, lo = some x ∧ PV.ev tm' x = .v (.int k i)
theorem lo_ok (hv : VRs X r tm tm') {lo : Option Operand} {l : Int} (h : loT X (lo.map (TV.ev tm)) = some l) : Bd tm' lo l 0 := by
  cases lo with
  | none => simp only [Option.map_none, loT, Option.some.injEq] at h; exact .inl ⟨rfl, h.symm⟩
  | some x =>
    simp only [Option.map_some, loT] at h
    obtain ⟨k, hk⟩ := asInt_v h (hv.ev x)
    exact .inr ⟨x, k, rfl, hk⟩
theorem hi_ok (hv : VRs X r tm tm') {hi : Option Operand} {n h' : Int} (h : hiT X (hi.map (TV.ev tm)) n = some h') : Bd tm' hi h' n := by
  cases hi with
  | none => simp only [Option.map_none, hiT, Option.some.injEq] at h; exact .inl ⟨rfl, h.symm⟩
  | some x =>
    simp only [Option.map_some, hiT] at h
    obtain ⟨k, hk⟩ := asInt_v h (hv.ev x)
    exact .inr ⟨x, k, rfl, hk⟩
theorem Bd.bnd {lo : Option Operand} {l : Int} {d : Nat} (h : Bd tm' lo l d) (h0 : 0 ≤ l) : bnd (lo.map (PV.ev tm')) d = some l.toNat := by
  rcases h with ⟨rfl, rfl⟩ | ⟨x, k, rfl, h⟩
  · simp [YtlkaoiceehlkmaaVE.bnd]
  · simp only [Option.map_some, YtlkaoiceehlkmaaVE.bnd, h, asI, if_pos h0]
theorem Bd.val {lo : Option Operand} {l d : Int} (h : Bd tm' lo l d) : (lo = none ∧ l = d) ∨ ∃ k, (lo.map fun x => (toV (PV.ev tm' x)).getD undef) = some (.int k l) := by
  rcases h with ⟨rfl, rfl⟩ | ⟨x, k, rfl, h⟩
  · exact .inl ⟨rfl, rfl⟩
  · exact .inr ⟨k, by simp [h, toV]⟩
theorem Bd.opnd {lo : Option Operand} {l d : Int} (h : Bd tm' lo l d) : ∀ x ∈ lo, (toV (PV.ev tm' x)).isSome = true := by
  rcases h with ⟨rfl, rfl⟩ | ⟨x, k, rfl, h⟩
  · intro x hx; simp at hx
  · intro y hy
    simp only [Option.mem_def, Option.some.injEq] at hy
    subst hy
    rw [h]; rfl
theorem runP_bound {P : Program} {k : IntKind} {i : Int} {y : Nat} {c : BoundsCode} (h0 : 0 ≤ i) (h1 : i ≤ y) : runP P (Instr.sliceBound (.int k i) y c) = some i.toNat := by
  unfold Instr.sliceBound
  rw [runP_bind]
  show runP P (if 0 ≤ i ∧ i ≤ y then pure i.toNat else boundsPanic k i y c) = _
  rw [if_pos ⟨h0, h1⟩]
  rfl
theorem runP_bounds {P : Program} {n : Nat} {lo hi : Option Value} {l h : Int} (e1 : (lo = none ∧ l = 0) ∨ ∃ k, lo = some (.int k l)) (e2 : (hi = none ∧ h = n) ∨ ∃ k, hi = some (.int k h)) (h0 : 0 ≤ l) (h1 : l ≤ h) (h2 : h ≤ n) :
    runP P (Instr.sliceBounds false n n lo hi none) = some (l.toNat, h.toNat, n) := by
  have hh : ((h.toNat : Nat) : Int) = h := Int.toNat_of_nonneg (by omega)
  unfold Instr.sliceBounds
  simp only [runP_bind, runP_pure]
  rcases e2 with ⟨rfl, rfl⟩ | ⟨k2, rfl⟩ <;> rcases e1 with ⟨rfl, rfl⟩ | ⟨k1, rfl⟩
  · simp only [runP_bind, runP_pure]; rfl
  · simp only [runP_bind, runP_pure]
    rw [runP_bound h0 h1]
    simp
  · simp only [runP_bind, runP_pure]
    rw [runP_bound (by omega) h2]
    simp
  · simp only [runP_bind, runP_pure]
    rw [runP_bound (by omega) h2]
    simp only
    rw [runP_bound h0 (by omega)]
theorem extract_bytes (a : List UInt8) (l h : Nat) : (⟨a.toArray⟩ : ByteArray).extract l h = ⟨((a.drop l).take (h - l)).toArray⟩ := by
  apply ByteArray.ext
  rw [ByteArray.data_extract]
  simp
theorem okSl_some {l h n : Int} (hk : okSl l h n = true) : 0 ≤ l ∧ l ≤ h ∧ h ≤ n := by
  simp only [okSl, Bool.and_eq_true, decide_eq_true_eq] at hk
  exact ⟨hk.1.1, hk.1.2, hk.2⟩
theorem RowR.slc {e : TypeId} {n : Nat} {l : List (X.A e)} {xs : List (List PV)} (h : RowR X r e n l xs) (a b : Int) : RowR X r e n (slc l a b) ((xs.drop a.toNat).take (b.toNat - a.toNat)) := by
  obtain ⟨h1, h2, h3⟩ := h
  refine ⟨h1, by simp [YtlkaoiceehlkmaaTE.slc, h2], fun i x c hx hc => ?_⟩
  unfold YtlkaoiceehlkmaaTE.slc at hx
  rw [List.getElem?_take] at hx hc
  split at hx
  · rename_i hi
    rw [if_pos hi] at hc
    rw [List.getElem?_drop] at hx hc
    exact h3 _ _ _ hx hc
  · cases hx
theorem NoTok.slc {xs : List (List PV)} (h : NoTok xs) (a b : Nat) : NoTok ((xs.drop a).take b) := fun c hc => h c (List.mem_of_mem_drop (List.mem_of_mem_take hc))
theorem slice_ok (hX : XOk X) (hs : SRel X r s v) (hv : VRs X r tm tm') {t : TypeId} {x : Operand} {lo hi mx : Option Operand} (ho : o.op = .slice t x lo hi mx) (h : sliceT X t (TV.ev tm x) (lo.map (TV.ev tm)) (hi.map (TV.ev tm)) (mx.map (TV.ev tm)) s K = some z) :
    OpR X r s v K z (evOp X.C call f ⟨0, none⟩ tm' v o) := by
  have h1 := hv.ev x
  unfold sliceT at h
  generalize hq : PV.ev tm' x = q at h1
  split at h
  · rename_i y hx; rw [hx] at h1
    cases h1 with | str _ =>
    have hd := (dK_some h).1
    replace h := (dK_some h).2
    rw [Bool.and_eq_true] at hd
    obtain ⟨l, hl, h⟩ := cK_some h
    obtain ⟨g, hg, h⟩ := cK_some h
    obtain ⟨hk, h⟩ := gK_some h
    obtain ⟨k0, k1, k2⟩ := okSl_some hk
    have bl := lo_ok hv hl
    have bh := hi_ok hv hg
    have hm : mx = none := by cases mx with | none => rfl | some m => simp at hd
    replace h := h
    subst hm
    refine OpR.pure hs (by assumption) (.str .nil) (p' := .v (.string ⟨(slc y l g).toArray⟩)) ?_
    simp only [evOp, ho, hq, withSt]
    rw [evFlat_val (X := X) o (w := .string ⟨(slc y l g).toArray⟩) ?_ ?_ rfl]
    · rfl
    · have o1 := bl.opnd
      have o2 := bh.opnd
      cases lo <;> cases hi <;> simp_all [ho, Op.operands, hq, toV]
    · simp only [execOp, ho, hq, toV, Option.getD_some]
      refine runP_valued _ ?_
      unfold Instr.sliceAt Instr.slice
      rw [runP_bind, runP_und (isString_some hd.2)]
      simp only
      rw [runP_bind, runP_und (isString_some hd.2)]
      simp only [Option.map_none, Option.isSome_none, Bool.false_eq_true, if_false]
      have hn : (⟨y.toArray⟩ : ByteArray).size = y.length := by simp [ByteArray.size]
      simp only [runP_bind, runP_pure]
      rw [hn, runP_bounds (l := l) (h := g) ?_ ?_ k0 k1 (by simpa [len] using k2)]
      · simp only [runP_pure, extract_bytes]
        rfl
      · rcases bl.val with ⟨rfl, e⟩ | ⟨k, e⟩
        · exact .inl ⟨rfl, e⟩
        · exact .inr ⟨k, e⟩
      · rcases bh.val with ⟨rfl, e⟩ | ⟨k, e⟩
        · exact .inl ⟨rfl, e⟩
        · exact .inr ⟨k, e⟩
  · rename_i u l fl hx; rw [hx] at h1
    cases h1 with
    | @row _ _ _ xs f' n _ _ q1 q2 q3 q4 q5 _ =>
      have hrow : RowR X r u n l xs := ⟨q1, q2, q3⟩
      have hd := (dK_some h).1
      replace h := (dK_some h).2
      simp only [Bool.and_eq_true, beq_iff_eq] at hd
      obtain ⟨he, hd2⟩ := hd
      have hszok := (hrow.szOk hX).1
      have hev : evOp X.C call f ⟨0, none⟩ tm' v o = withSt v (evSl X.C.P t (.row xs f') (lo.map (PV.ev tm')) (hi.map (PV.ev tm')) (mx.map (PV.ev tm'))) := by simp only [evOp, ho, hq]
      rw [hev]
      have gen : ∀ {a b : Int} {p : TV X.A}, mx = none → Bd tm' lo a 0 → Bd tm' hi b (len l) → okSl a b (len l) = true → K p s = some z → VR X r p (if a.toNat = 0 ∧ b.toNat = xs.length then .row xs f' else .row ((xs.drop a.toNat).take (b.toNat - a.toNat)) .sh) →
          OpR X r s v K z (withSt v (evSl X.C.P t (.row xs f') (lo.map (PV.ev tm')) (hi.map (PV.ev tm')) (mx.map (PV.ev tm')))) := fun {a b p} hm bl bh hk hfin hp => by
        obtain ⟨k0, k1, k2⟩ := okSl_some hk
        subst hm
        refine OpR.pure hs hfin hp ?_
        have b1 := bl.bnd (d := 0) k0
        have b2 : bnd (hi.map (PV.ev tm')) xs.length = some b.toNat := by
          have : Bd tm' hi b ((xs.length : Nat) : Int) := by rw [← q2]; exact bh
          exact this.bnd (by omega)
        have k3 : b.toNat ≤ xs.length := by rw [← q2]; simp only [len] at k2; omega
        simp only [evSl, Option.map_none, Option.isNone_none, Bool.true_or, if_true, evSlice, he, (hX.wd u n q1).1, b1, b2, hszok]
        rw [if_pos ⟨by omega, k3⟩]
        rfl
      split at h
      · rename_i hm
        have hm : mx = none := by cases mx with | none => rfl | some m => simp at hm
        split at h
        · rename_i e1 e2
          have e1 : lo = none := by cases lo with | none => rfl | some m => simp at e1
          have e2 : hi = none := by cases hi with | none => rfl | some m => simp at e2
          refine gen (a := 0) (b := len l) hm (.inl ⟨e1, rfl⟩) (.inl ⟨e2, rfl⟩) (by simp [okSl, len]) h ?_
          rw [if_pos ⟨rfl, by simp [len, q2]⟩]
          exact .row q1 q2 q3 q4 q5 .nil
        · obtain ⟨a, ha, h⟩ := cK_some h
          obtain ⟨b, hb, h⟩ := cK_some h
          obtain ⟨hk, h⟩ := gK_some h
          refine gen hm (lo_ok hv ha) (hi_ok hv hb) hk h ?_
          split
          · rename_i hab
            have e : (xs.drop a.toNat).take (b.toNat - a.toNat) = xs := by rw [hab.1, hab.2]; simp
            have := (hrow.slc a b).vr (f := .sh) (f' := f') (by rw [e]; exact q4) trivial
            rw [e] at this
            exact this
          · exact (hrow.slc a b).vr (NoTok.slc q4 _ _) trivial
      · rename_i m hm
        obtain ⟨a, ha, h⟩ := cK_some h
        obtain ⟨b, hb, h⟩ := cK_some h
        obtain ⟨mm, hmm, h⟩ := cK_some h
        obtain ⟨hk, h⟩ := gK_some h
        simp only [Bool.and_eq_true, decide_eq_true_eq] at hk
        obtain ⟨k0, k1, k2⟩ := okSl_some hk.1
        have bl := lo_ok hv ha
        have bh := hi_ok hv hb
        have hfin := h
        cases mx with
        | none => simp at hm
        | some mo =>
          simp only [Option.map_some, Option.some.injEq] at hm
          subst hm
          obtain ⟨km, hkm⟩ := asInt_v hmm (hv.ev mo)
          have b1 := bl.bnd (d := 0) k0
          have b2 : bnd (hi.map (PV.ev tm')) xs.length = some b.toNat := by
            have : Bd tm' hi b ((xs.length : Nat) : Int) := by rw [← q2]; exact bh
            exact this.bnd (by omega)
          have hb3 : b = mm := hk.2
          have k3 : b.toNat ≤ xs.length := by rw [← q2]; simp only [len] at k2; omega
          have hse : hi.isSome = true := by
            rcases hi with _ | hi
            · simp at hd2
            · rfl
          have hsl := (hrow.slc a b).mono hs (Ext.tok r none)
          refine ⟨_, _, r.tok none, _, v, hfin, ExtK.tok _ _, hsl.vr (f' := .full) (NoTok.slc q4 _ _) ⟨by simp [Rn.tok, hs.nt], .inr (.inl rfl)⟩, ?_, ?_, ?_⟩
          · refine hs.tok rfl rfl rfl (Nat.le_refl _) (fun t ht => ?_) (fun u hu => by cases hu) (fun t _ ht u hu => (hs.live t u ht hu).1) hs.fo hs.vlt
            simpa using ht
          · exact ⟨Nat.le_refl _, by simp, fun _ h => h, fun _ _ _ => rfl, fun u hu hl => by
              simp only [List.mem_cons] at hu
              rcases hu with rfl | hu
              · omega
              · exact hu⟩
          · have hmb : bnd (some (PV.ev tm' mo)) 0 = some mm.toNat := by simp only [YtlkaoiceehlkmaaVE.bnd, hkm, asI]; rw [if_pos (by omega)]
            simp only [evSl, Option.map_some, Option.isNone_some, Bool.false_or, Option.isSome_map, hse, if_true, evSlice, he, (hX.wd u n q1).1, b1, b2, hszok, hmb]
            rw [if_pos ⟨by omega, by omega, by omega⟩]
            rfl
  · rename_i u l off n hx; rw [hx] at h1
    have hd := (dK_some h).1
    replace h := (dK_some h).2
    simp only [Bool.and_eq_true, beq_iff_eq] at hd
    obtain ⟨hd, he, hw⟩ := hd
    obtain ⟨w, hw⟩ := Option.isSome_iff_exists.1 hw
    have hm : mx = none := by cases mx with | none => rfl | some m => simp at hd
    subst hm
    obtain ⟨a, ha, h⟩ := cK_some h
    obtain ⟨b, hb, h⟩ := cK_some h
    obtain ⟨hk, h⟩ := gK_some h
    obtain ⟨k0, k1, k2⟩ := okSl_some hk
    have bl := lo_ok hv ha
    have bh := hi_ok hv hb
    have b1 := bl.bnd (d := 0) k0
    have b2 : bnd (hi.map (PV.ev tm')) n = some b.toNat := bh.bnd (by omega)
    have hev : ∀ q', PV.ev tm' x = q' → (∀ w, q' ≠ .v w) → evOp X.C call f ⟨0, none⟩ tm' v o = withSt v (evSl X.C.P t q' (lo.map (PV.ev tm')) (hi.map (PV.ev tm')) none) := fun q' e hn => by
      simp only [evOp, ho, e, Option.map_none]
      try (split; exact absurd rfl (hn _); rfl)
    cases h1 with
    | refn g _ =>
      have e1 : a = 0 := by omega
      have e2 : b = 0 := by omega
      subst e1; subst e2
      rw [hev _ hq (by simp)]
      refine OpR.pure hs h (.refn g .nil) ?_
      simp only [evSl, Option.isNone_none, Bool.true_or, if_true, evSlice, he, (hX.wd _ _ hw).1, b1, List.length_nil, b2]
      rfl
    | refe g1 g2 g3 _ =>
      have e1 : a = 0 := by omega
      have e2 : b = 0 := by omega
      subst e1; subst e2
      rw [hev _ hq (by simp)]
      refine OpR.pure hs h (.refe g1 g2 (by omega) .nil) ?_
      simp only [evSl, Option.isNone_none, Bool.true_or, if_true, evSlice, he, (hX.wd _ _ g1).1, b1, List.length_nil, b2]
      rfl
    | @ref _ _ l' _ m _ _ _ g1 g2 _ =>
      rw [hev _ hq (by simp)]
      have hsl : evSl X.C.P t (.ref l' m (off * m) n) (lo.map (PV.ev tm')) (hi.map (PV.ev tm')) none = (if a.toNat = 0 then some (.ref l' m (off * m) b.toNat) else if a.toNat = b.toNat then some (.row [] .sh) else some (.ref l' m (off * m + a.toNat * m) (b.toNat - a.toNat))) := by
        simp only [evSl, Option.isNone_none, Bool.true_or, if_true, evSlice, he, (hX.wd _ _ g1).1, b1, b2]
        rw [if_pos ⟨by omega, by omega, trivial⟩]
      by_cases ha0 : a.toNat = 0
      · refine OpR.pure hs h (p' := .ref l' m (off * m) b.toNat) ?_ (by rw [hsl, if_pos ha0]; rfl)
        rw [ha0]
        simpa using VRs.ref (X := X) (r := r) g1 g2 (off := off) (len := b.toNat) .nil
      · by_cases hab : a.toNat = b.toNat
        · refine OpR.pure hs h (p' := .row [] .sh) ?_ (by rw [hsl, if_neg ha0, if_pos hab]; rfl)
          rw [hab, Nat.sub_self]
          exact .refe g1 g2 (by omega) .nil
        · refine OpR.pure hs h (p' := .ref l' m (off * m + a.toNat * m) (b.toNat - a.toNat)) ?_ (by rw [hsl, if_neg ha0, if_neg hab]; rfl)
          rw [← Nat.add_mul]
          exact .ref g1 g2 .nil
  · rename_i hx; rw [hx] at h1
    have := VR.nils h1
    subst this
    have hd := (dK_some h).1
    replace h := (dK_some h).2
    simp only [Bool.and_eq_true] at hd
    obtain ⟨hd, he⟩ := hd
    have hm : mx = none := by cases mx with | none => rfl | some m => simp at hd
    subst hm
    obtain ⟨a, ha, h⟩ := cK_some h
    obtain ⟨b, hb, h⟩ := cK_some h
    obtain ⟨hk, h⟩ := gK_some h
    obtain ⟨k0, k1, k2⟩ := okSl_some hk
    have bl := lo_ok hv ha
    have bh := hi_ok hv hb
    have e1 : a = 0 := by omega
    have e2 : b = 0 := by omega
    subst e1; subst e2
    have b1 := bl.bnd (d := 0) k0
    have b2 := bh.bnd (d := 0) k0
    obtain ⟨n, hn⟩ := Option.isSome_iff_exists.1 he
    obtain ⟨el, hel, hn⟩ := Option.bind_eq_some_iff.1 hn
    refine OpR.pure hs h (.cst (.inr ⟨rfl, rfl⟩) .nil) ?_
    simp only [evOp, ho, hq, Option.map_none, evSl, Option.isNone_none, Bool.true_or, if_true, evSlice, hel, hn, b1, List.length_nil, b2]
    rfl
  · cases h
end four
end Go.Proofs.YtlkaoiceehlkmaaTE

namespace Go.Proofs.YtlkaoiceehlkmaaTE
open Go Go.Proofs.YtlkaoiceehlkmaaVE
set_option linter.unusedVariables false
set_option linter.unusedSimpArgs false

section five
variable {X : TX} {r : Rn} {s : TS X.A} {v : St} {call : YtlkaoiceehlkmaaVE.Call} {f : FuncId} {tm : List (TV X.A)} {tm' : List PV} {o : Oper} {α : Type} {z : α} {K : TV X.A → TS X.A → Option α}
theorem len_str {P : Program} {ts : Array TypeId} {t ty : TypeId} {y : ByteArray} (ht : ts[0]? = some t) (hu : P.underlying t = some .string) : runP P (Builtin.len_ ts ty #[.string y]) = some (goInt y.size) := by
  unfold Builtin.len_
  rw [ht]
  show runP P (underlying t >>= _) = _
  rw [runP_bind, runP_und hu]
  rfl
theorem len_ok (hs : SRel X r s v) (hv : VRs X r tm tm') {c : Go.Call} {x : Operand} (ho : o.op = .call c) (hc : c.callee = .builtin .len) (hx : c.args.toList = [x]) (h : (cK c.argTypes[0]? fun t => lenT X t (TV.ev tm x) fun p => K p s) = some z) :
    OpR X r s v K z (evOp X.C call f ⟨0, none⟩ tm' v o) := by
  obtain ⟨t, ht, h⟩ := cK_some h
  have h1 := hv.ev x
  unfold lenT at h
  generalize hq : PV.ev tm' x = q at h1
  have row : ∀ (n : Nat), isSlice X.C.P t = true → ((∃ xs f', q = .row xs f' ∧ xs.length = n) ∨ (∃ a b d, q = .ref a b d n)) → evOp X.C call f ⟨0, none⟩ tm' v o = some (.v (goInt n), v) := fun n hsl hn => by
    obtain ⟨e, he⟩ := isSlice_some hsl
    rcases hn with ⟨xs, f', rfl, rfl⟩ | ⟨a, b, d, rfl⟩
    · simp only [evOp, ho, hc, hx, hq, ht, evLen, he]; rfl
    · simp only [evOp, ho, hc, hx, hq, ht, evLen, he]; rfl
  split at h
  · rename_i y hx'; rw [hx'] at h1
    cases h1 with | str _ =>
    obtain ⟨hst, h⟩ := dK_some h
    refine OpR.pure hs h (.int .nil) (p' := .v (.int .i64 (len y))) ?_
    simp only [evOp, ho, hc, hx, hq, withSt]
    have hax : c.args = #[x] := by rw [← Array.toList_inj, hx]
    rw [evFlat_val (X := X) o (w := .int .i64 (len y)) (by simp [ho, Op.operands, Go.Call.operands, hc, hax, hq, toV]) ?_ rfl]
    · rfl
    · simp only [execOp, ho, resolve, hc, hax, runP_bind, runP_pure, invoke, builtin]
      have := len_str (P := X.C.P) (ty := o.type) (y := ⟨y.toArray⟩) ht (isString_some hst)
      simp only [List.map_toArray, List.map_cons, List.map_nil, hq, toV, Option.getD_some]
      rw [this]
      simp [goInt, ByteArray.size, len]
  · rename_i u l fl hx'; rw [hx'] at h1
    obtain ⟨hst, h⟩ := dK_some h
    cases h1 with
    | @row _ _ _ xs f' n _ _ q1 q2 q3 q4 q5 _ =>
      exact OpR.pure hs h (p' := .v (goInt l.length)) (.int .nil) (row _ hst (.inl ⟨_, _, rfl, q2.symm⟩))
  · rename_i u l off n hx'; rw [hx'] at h1
    obtain ⟨hst, h⟩ := dK_some h
    cases h1 with
    | refn _ _ => exact OpR.pure hs h (p' := .v (goInt 0)) (.int .nil) (row 0 hst (.inl ⟨_, _, rfl, rfl⟩))
    | refe _ _ _ _ => exact OpR.pure hs h (p' := .v (goInt 0)) (.int .nil) (row 0 hst (.inl ⟨_, _, rfl, rfl⟩))
    | ref _ _ _ => exact OpR.pure hs h (p' := .v (goInt n)) (.int .nil) (row n hst (.inr ⟨_, _, _, rfl⟩))
  · rename_i hx'; rw [hx'] at h1
    have := VR.nils h1
    subst this
    obtain ⟨hst, h⟩ := dK_some h
    exact OpR.pure hs h (p' := .v (goInt 0)) (.int .nil) (row 0 hst (.inl ⟨_, _, rfl, rfl⟩))
  · cases h
theorem mm_ints : ∀ {ps : List (TV X.A)} {qs : List PV} {b : Bool} {k : IntKind} {x : Int} {p : TV X.A}, VRs X r ps qs → mmFrom X b k x ps = some p → ∃ (ws : List Value) (n : Int), qs = ws.map PV.v ∧ p = .int k n ∧ (∀ P : Program, runP P (ws.foldlM (if b then Builtin.max2 else Builtin.min2) (.int k x)) = some (.int k n))
  | [], qs, b, k, x, p, hv, h => by
    rw [VRs.nil_iff] at hv
    subst hv
    simp only [mmFrom, Option.some.injEq] at h
    subst h
    exact ⟨[], x, rfl, rfl, fun _ => rfl⟩
  | q :: ps, qs, b, k, x, p, hv, h => by
    obtain ⟨w, qs2, rfl, e1, e2⟩ := VRs.cons_iff.1 hv
    cases q with
    | int j y =>
      cases e1 with | int _ =>
      simp only [mmFrom] at h
      obtain ⟨ws, n, rfl, rfl, k3⟩ := mm_ints e2 h
      refine ⟨.int j y :: ws, n, rfl, rfl, fun P => ?_⟩
      rw [List.foldlM_cons, runP_bind]
      have : runP P ((if b then Builtin.max2 else Builtin.min2) (.int k x) (.int j y)) = some (.int k (mm2 b x y)) := by
        cases b with
        | true =>
          show some (Value.int k (if x < y then y else x)) = _
          unfold mm2 iMax
          by_cases hxy : x < y <;> simp [hxy]
        | false =>
          show some (Value.int k (if y < x then y else x)) = _
          unfold mm2 iMin
          by_cases hxy : y < x <;> simp [hxy]
      rw [this]
      exact k3 P
    | _ => simp [mmFrom] at h
theorem toVs_iff : ∀ {l : List Operand} {ws : List Value}, l.map (PV.ev tm') = ws.map PV.v → l.map (fun x => (toV (PV.ev tm' x)).getD undef) = ws ∧ (l.all fun x => (toV (PV.ev tm' x)).isSome) = true
  | [], ws, h => by cases ws <;> simp_all
  | x :: l, [], h => by simp at h
  | x :: l, w :: ws, h => by
    simp only [List.map_cons, List.cons.injEq] at h
    obtain ⟨e1, e2⟩ := toVs_iff h.2
    exact ⟨by rw [List.map_cons, e1, h.1]; rfl, by rw [List.all_cons, e2, h.1]; rfl⟩
theorem mm_ok (hs : SRel X r s v) (hv : VRs X r tm tm') {c : Go.Call} (ho : o.op = .call c) {b : Bool} (hc : c.callee = .builtin (if b then .max else .min)) (h : (cK (minmax X b (c.args.toList.map (TV.ev tm))) fun p => K p s) = some z) :
    OpR X r s v K z (evOp X.C call f ⟨0, none⟩ tm' v o) := by
  obtain ⟨p, hp, h⟩ := cK_some h
  have hvs := hv.evs c.args.toList
  unfold minmax at hp
  split at hp
  · rename_i k x ps hps
    rw [hps] at hvs
    obtain ⟨q, qs, hq, e1, e2⟩ := VRs.cons_iff.1 hvs
    cases e1 with | int _ =>
    obtain ⟨ws, n, rfl, rfl, hr⟩ := mm_ints e2 hp
    obtain ⟨m1, m2⟩ := toVs_iff (ws := .int k x :: ws) hq
    refine OpR.pure hs h (.int .nil) (p' := .v (.int k n)) ?_
    have hev : evOp X.C call f ⟨0, none⟩ tm' v o = withSt v (evFlat X.C.P tm' o) := by
      cases b <;> simp only [evOp, ho, hc, if_true, Bool.false_eq_true, if_false]
    rw [hev, evFlat_val (X := X) o (w := .int k n) ?_ ?_ rfl]
    · rfl
    · cases b <;> simp only [ho, Op.operands, Go.Call.operands, hc, if_true, Bool.false_eq_true, if_false] <;> simpa using m2
    · cases b
      · simp only [Bool.false_eq_true, if_false] at hc hr
        simp only [execOp, ho, resolve, hc, runP_bind, runP_pure, invoke, builtin, Builtin.min_, Array.toList_map, m1, hr]
      · simp only [if_true] at hc hr
        simp only [execOp, ho, resolve, hc, runP_bind, runP_pure, invoke, builtin, Builtin.max_, Array.toList_map, m1, hr]
  · cases hp
/-- The elements that are put behind a row. -/
theorem chunk_ok {n : Nat} : ∀ {xs : List (List PV)} {rest : List PV}, (∀ d ∈ xs, d.length = n) → ∀ k, k ≤ xs.length → chunk n k (xs.flatten ++ rest) = xs.take k
  | xs, rest, hl, 0, _ => by simp [chunk]
  | [], rest, hl, k + 1, h => by simp at h
  | d :: xs, rest, hl, k + 1, h => by
    have hd := hl d (List.mem_cons_self ..)
    rw [List.flatten_cons, List.append_assoc]
    simp only [chunk]
    rw [← hd, List.take_left, List.drop_left, hd, chunk_ok (fun e he => hl e (List.mem_cons_of_mem _ he)) k (by simpa using h)]
    rfl
theorem RowR.lens (hX : XOk X) {e : TypeId} {n : Nat} {l : List (X.A e)} {xs : List (List PV)} (h : RowR X r e n l xs) : ∀ d ∈ xs, d.length = n := fun d hd => by
  have := (h.szOk hX).1
  unfold YtlkaoiceehlkmaaVE.szOk at this
  rw [List.all_eq_true] at this
  simpa using this d hd
theorem RowR.part {e : TypeId} {n : Nat} {l : List (X.A e)} {xs : List (List PV)} (h : RowR X r e n l xs) (a b : Nat) : RowR X r e n ((l.drop a).take b) ((xs.drop a).take b) := by
  obtain ⟨h1, h2, h3⟩ := h
  refine ⟨h1, by simp [h2], fun i x c hx hc => ?_⟩
  rw [List.getElem?_take] at hx hc
  split at hx
  · rename_i hi
    rw [if_pos hi] at hc
    rw [List.getElem?_drop] at hx hc
    exact h3 _ _ _ hx hc
  · cases hx
theorem RowR.nil {e : TypeId} {n : Nat} (hn : X.wd e = some n) : RowR X r e n [] [] := ⟨hn, rfl, fun i a c ha => by simp at ha⟩
theorem str_row (hX : XOk X) {e : TypeId} (hn : X.wd e = some 1) : ∀ {y : List UInt8} {ys : List (X.A e)}, rowOfStr X.dec e y = some ys → RowR X r e 1 ys (y.map fun b => [bytePV b])
  | [], ys, h => by simp [rowOfStr] at h; subst h; exact RowR.nil hn
  | b :: y, ys, h => by
    unfold rowOfStr at h
    rw [List.mapM_cons] at h
    obtain ⟨a, ha, h⟩ := Option.bind_eq_some_iff.1 h
    obtain ⟨as, has, h⟩ := Option.bind_eq_some_iff.1 h
    have h : some (a :: as) = some ys := h
    simp only [Option.some.injEq] at h
    subst h
    obtain ⟨h1, h2, h3⟩ := str_row hX hn (y := y) has
    refine ⟨hn, by simpa using h2, fun i x c hx hc => ?_⟩
    cases i with
    | zero =>
      simp only [List.getElem?_cons_zero, Option.some.injEq, List.map_cons] at hx hc
      subst hx; subst hc
      exact hX.dec e 1 hn _ _ ha r _ (.int .nil)
    | succ i =>
      simp only [List.getElem?_cons_succ, List.map_cons] at hx hc
      exact h3 i x c hx hc
/-- What lies at a row's location. -/
theorem arr_loc (hX : XOk X) (hs : SRel X r s v) {l l' : Nat} {t : TypeId} {as : List (X.A t)} (hc : tloc s l = some (.arr t as)) (hl : r.lo l = some (some l')) : ∃ (n : Nat) (xs : List (List PV)) (rest : List PV), locAt v l' = some (xs.flatten ++ rest) ∧ RowR X r t n as xs := by
  rcases hs.loc l _ hc with ⟨k, cs', h1, h2, h3⟩ | ⟨h1, _⟩
  · rw [hl] at h1
    simp only [Option.some.injEq] at h1
    subst h1
    obtain ⟨n, xs, rest, e1, e2, e3, e4⟩ := h3
    exact ⟨n, xs, rest, by rw [h2, e2], e1, e3, e4⟩
  · rw [hl] at h1; cases h1
theorem flat_len {n : Nat} : ∀ {xs : List (List PV)}, (∀ d ∈ xs, d.length = n) → xs.flatten.length = xs.length * n
  | [], _ => by simp
  | d :: xs, h => by
    rw [List.flatten_cons, List.length_append, h d (List.mem_cons_self ..), flat_len (fun e he => h e (List.mem_cons_of_mem _ he)), List.length_cons, Nat.succ_mul]
    omega
theorem flat_drop {n : Nat} : ∀ {xs : List (List PV)} {k : Nat}, (∀ d ∈ xs, d.length = n) → k ≤ xs.length → ∀ rest, (xs.flatten ++ rest).drop (k * n) = (xs.drop k).flatten ++ rest
  | xs, 0, _, _, rest => by simp
  | [], k + 1, _, h, rest => by simp at h
  | d :: xs, k + 1, hl, h, rest => by
    have hd := hl d (List.mem_cons_self ..)
    rw [List.flatten_cons, List.append_assoc, show (k + 1) * n = d.length + k * n by rw [hd, Nat.succ_mul]; omega, ← List.drop_drop, List.drop_left, flat_drop (fun e he => hl e (List.mem_cons_of_mem _ he)) (by simpa using h) rest]
    rfl
theorem src_ok (hX : XOk X) (hs : SRel X r s v) {e tx : TypeId} {n : Nat} (hn : X.wd e = some n) {x : TV X.A} {q : PV} (hv : VR X r x q) {K : List (X.A e) → Option α} (h : srcT X e tx x s K = some z) : ∃ ys ys', K ys = some z ∧ srcRow X.C.P n tx v q = some ys' ∧ RowR X r e n ys ys' := by
  unfold srcT at h
  split at h
  · rename_i u l fl
    obtain ⟨hsl, h⟩ := dK_some h
    obtain ⟨el, hel⟩ := isSlice_some hsl
    split at h
    · rename_i hu
      subst hu
      cases hv with
      | @row _ _ _ xs f' m _ _ q1 q2 q3 q4 q5 _ =>
        rw [hn] at q1
        simp only [Option.some.injEq] at q1
        subst q1
        have hrow : RowR X r u n l xs := ⟨hn, q2, q3⟩
        refine ⟨l, xs, h, ?_, hrow⟩
        simp only [srcRow, hel, (hrow.szOk hX).1, if_true]
    · cases h
  · obtain ⟨hsl, h⟩ := dK_some h
    obtain ⟨el, hel⟩ := isSlice_some hsl
    have := VR.nils hv
    subst this
    exact ⟨[], [], h, by simp only [srcRow, hel]; rfl, RowR.nil hn⟩
  · rename_i u l off m
    obtain ⟨hsl, h⟩ := dK_some h
    rw [Bool.and_eq_true, beq_iff_eq] at hsl
    obtain ⟨hsl, hue⟩ := hsl
    obtain ⟨el, hel⟩ := isSlice_some hsl
    obtain ⟨c, hc, h⟩ := cK_some h
    split at h
    · rename_i w as
      split at h
      · rename_i hw
        subst hw
        obtain ⟨hle, h⟩ := gK_some h
        simp only [decide_eq_true_eq] at hle
        have emp : m = 0 → ((as.drop off).take m : List (X.A w)) = [] := fun h0 => by rw [h0]; simp
        cases hv with
        | refn _ _ => exact ⟨[], [], h, by simp only [srcRow, hel]; rfl, RowR.nil hn⟩
        | refe _ _ _ _ => exact ⟨[], [], by rw [emp rfl] at h; exact h, by simp only [srcRow, hel]; rfl, RowR.nil hn⟩
        | @ref _ _ l' _ n' _ _ _ g1 g2 _ =>
          obtain ⟨n2, xs, rest, e1, hrow⟩ := arr_loc hX hs hc g2
          have en : n2 = n := by have := hrow.1; rw [hn] at this; simpa using this.symm
          subst en
          have hlens := hrow.lens hX
          have hxl := hrow.2.1
          refine ⟨_, (xs.drop off).take m, h, ?_, hrow.part off m⟩
          have eu : n' = n2 := by rw [hue, hn] at g1; simpa using g1.symm
          subst eu
          have hle2 : off * n' + m * n' ≤ (xs.flatten ++ rest).length := by
            rw [List.length_append, flat_len hlens, ← Nat.add_mul]
            have := Nat.mul_le_mul_right n' (show off + m ≤ xs.length by omega)
            omega
          simp only [srcRow, e1, hel]
          rw [if_pos ⟨trivial, hle2⟩, flat_drop hlens (by omega), chunk_ok (fun d hd => hlens d (List.mem_of_mem_drop hd)) m (by simp; omega)]
      · cases h
    · cases h
  · rename_i y
    obtain ⟨hst, h⟩ := dK_some h
    simp only [Bool.and_eq_true, beq_iff_eq] at hst
    obtain ⟨ys, hys, h⟩ := oK_some h
    cases hv with | str _ =>
    have e1 : n = 1 := by have := hst.2; rw [hn] at this; simpa using this
    subst e1
    refine ⟨ys, _, h, ?_, str_row hX hn hys⟩
    simp only [srcRow, isString_some hst.1, if_true]
  · cases h
end five
end Go.Proofs.YtlkaoiceehlkmaaTE

namespace Go.Proofs.YtlkaoiceehlkmaaTE
open Go Go.Proofs.YtlkaoiceehlkmaaVE
set_option linter.unusedVariables false
set_option linter.unusedSimpArgs false

section six
variable {X : TX} {r : Rn} {s : TS X.A} {v : St} {call : YtlkaoiceehlkmaaVE.Call} {f : FuncId} {tm : List (TV X.A)} {tm' : List PV} {o : Oper} {α : Type} {z : α} {K : TV X.A → TS X.A → Option α}
theorem RowR.app {e : TypeId} {n : Nat} {l l2 : List (X.A e)} {xs xs2 : List (List PV)} (h : RowR X r e n l xs) (h2 : RowR X r e n l2 xs2) : RowR X r e n (l ++ l2) (xs ++ xs2) := by
  refine ⟨h.1, by simp [h.2.1, h2.2.1], fun i a c ha hc => ?_⟩
  rw [List.getElem?_append] at ha hc
  have := h.2.1
  split at ha
  · rename_i hi
    rw [if_pos (by omega)] at hc
    exact h.2.2 i a c ha hc
  · rename_i hi
    rw [if_neg (by omega)] at hc
    exact h2.2.2 _ a c ha (by rw [this]; exact hc)
theorem NoTok.app {xs xs2 : List (List PV)} (h : NoTok xs) (h2 : NoTok xs2) : NoTok (xs ++ xs2) := fun c hc => by
  rcases List.mem_append.1 hc with h3 | h3
  · exact h c h3
  · exact h2 c h3
/-- A location that has another name now. -/
theorem SRel.alias (h : SRel X r s v) {k : Nat} {c : TL X.A} {cs : List PV} (h1 : ∀ m, (tloc s m).isSome = true → r.lo m ≠ some (some k)) (h2 : ∃ m, r.lo m = some (some k)) (hz : r.fz k = none) (hy : r.fr k = none) (h3 : locAt v k = some cs) (hc : LocR X r c cs) : SRel X (r.loc (some k)) (newL s c) v := by
  have he := Ext.loc r (some k)
  have lo : ∀ l x, (r.loc (some k)).lo l = some x → (l = r.nl ∧ x = some k) ∨ (l < r.nl ∧ r.lo l = some x) := fun l x hx => by
    simp only [Rn.loc] at hx
    split at hx
    · rename_i e; simp only [Option.some.injEq] at hx; exact .inl ⟨e, hx.symm⟩
    · exact .inr ⟨h.wf.lo _ _ hx, hx⟩
  refine ⟨⟨fun l x hx => ?_, fun t u hu => h.wf.to t u hu⟩, ?_, h.nt, fun l d hd => ?_, fun a b i i1 i2 ha hb => ?_, fun i ds hk => ?_, h.live, h.tinj, h.lt, h.fo, h.vlt, fun i ds hk => ?_⟩
  · rcases lo l x hx with ⟨rfl, _⟩ | ⟨h1, _⟩
    · simp [Rn.loc]
    · simp [Rn.loc]; omega
  · simp [Rn.loc, newL, h.nl]
  · rcases tloc_new hd with ⟨h1, h2⟩ | ⟨rfl, rfl⟩
    · rcases h.loc l d h2 with ⟨k, cs', h3, h4, h5⟩ | ⟨h3, h4⟩
      · exact .inl ⟨k, cs', (he.lo l (by rw [h.nl]; exact h1)).trans h3, h4, h5.mono h.wf he⟩
      · exact .inr ⟨(he.lo l (by rw [h.nl]; exact h1)).trans h3, h4⟩
    · exact .inl ⟨k, cs, by simp [Rn.loc, h.nl], h3, hc.mono h.wf he⟩
  · rcases lo a _ ha with ⟨rfl, e⟩ | ⟨g1, g2⟩ <;> rcases lo b _ hb with ⟨rfl, e'⟩ | ⟨g3, g4⟩
    · rfl
    · simp only [Option.some.injEq] at e; subst e
      exact absurd g4 (h1 b (by rwa [tloc_new_old (by rw [← h.nl]; exact g3)] at i2))
    · simp only [Option.some.injEq] at e'; subst e'
      exact absurd g2 (h1 a (by rwa [tloc_new_old (by rw [← h.nl]; exact g1)] at i1))
    · exact h.inj a b i (by rwa [tloc_new_old (by rw [← h.nl]; exact g1)] at i1) (by rwa [tloc_new_old (by rw [← h.nl]; exact g3)] at i2) g2 g4
  · obtain ⟨g1, g2, g5⟩ := h.fz i ds hk
    refine ⟨g1, fun l hlv hl => ?_, g5⟩
    rcases lo l _ hl with ⟨rfl, e⟩ | ⟨g3, g4⟩
    · simp only [Option.some.injEq] at e; subst e
      exact absurd (show r.fz i = some ds from hk) (by rw [hz]; simp)
    · exact g2 l (by rwa [tloc_new_old (by rw [← h.nl]; exact g3)] at hlv) g4
  · obtain ⟨g1, g2, g5⟩ := h.fr i ds hk
    refine ⟨g1, fun l hlv hl => ?_, g5⟩
    rcases lo l _ hl with ⟨rfl, e⟩ | ⟨g3, g4⟩
    · simp only [Option.some.injEq] at e; subst e
      exact absurd (show r.fr i = some ds from hk) (by rw [hy]; simp)
    · exact g2 l (by rwa [tloc_new_old (by rw [← h.nl]; exact g3)] at hlv) g4
theorem kill_none (s : TS X.A) (l : Nat) (w : List Nat) : tloc ({ s with locs := s.locs.set l none, wrote := w } : TS X.A) l = none := by
  have := tloc_set (s := ({ s with wrote := w } : TS X.A)) (o := none) (l := l) (k := l)
  rw [show tloc ({ s with locs := s.locs.set l none, wrote := w } : TS X.A) l = _ from this]
  split
  · rfl
  · rename_i h
    unfold tloc
    rw [List.getElem?_eq_none (by simp at h ⊢; omega)]
    rfl
theorem kill_other (s : TS X.A) {l m : Nat} (w : List Nat) (h : l ≠ m) : tloc ({ s with locs := s.locs.set l none, wrote := w } : TS X.A) m = tloc s m := by
  have := tloc_set (s := ({ s with wrote := w } : TS X.A)) (o := none) (l := l) (k := m)
  rw [show tloc ({ s with locs := s.locs.set l none, wrote := w } : TS X.A) m = _ from this, if_neg (fun hh => h hh.1)]
  rfl
theorem TFr.kill (s : TS X.A) (l : Nat) : TFr s { s with locs := s.locs.set l none, wrote := l :: s.wrote } :=
  ⟨by simp, Nat.le_refl _, fun _ h => List.mem_cons_of_mem _ h, fun m _ hm => by
    exact kill_other s _ (fun e => hm (by rw [← e]; exact List.mem_cons_self ..)), fun _ h _ => h⟩
theorem fits_ok {b n : Nat} (h : fits b n = true) : n * b ≤ 140737488355328 ∧ n ≤ 9223372036854775807 := by
  simpa [fits] using h
theorem app_ok (hX : XOk X) (hs : SRel X r s v) {ref : Bool} {ts : List TypeId} {a x : TV X.A} {a' x' : PV} (ha : VR X r a a') (hx : VR X r x x') (h : appT X ref ts a x s K = some z) : OpR X r s v K z (evAppend X.C.P ref ⟨0, none⟩ ts a' x' v) := by
  unfold appT at h
  split at h
  · rename_i t tx
    obtain ⟨e, he, hA⟩ := cK_some h
    clear h
    obtain ⟨b, hb, hB⟩ := cK_some hA
    clear hA
    obtain ⟨n, hn, hC⟩ := cK_some hB
    clear hB
    obtain ⟨ys, ys', h, hys, hrow⟩ := src_ok hX hs hn hx hC
    clear hC
    obtain ⟨hsz, hpos, hzo, _⟩ := hX.wd e n hn
    obtain ⟨i, hi, rfl, rfl⟩ := bytes_info hsz hb
    have hck : (!(YtlkaoiceehlkmaaVE.allOne ys' && decide (0 < i.size) && zOk X.C.P e i.size)) = false := by
      rw [(hrow.szOk hX).2, hzo]; simp [hpos]
    have hlen := hrow.2.1
    have hstr := hrow.strip hX
    have hemp : ys'.isEmpty = true → ys' = [] ∧ ys = [] := fun h => by
      have h1 : ys' = [] := by simpa using h
      subst h1
      exact ⟨rfl, List.eq_nil_of_length_eq_zero hlen⟩
    -- the token of a row that nobody else has
    have own : ∀ {l : List (X.A e)} {xs : List (List PV)} {f' : Flag} {tk : Option Nat} {w : Option Nat}, RowR X r e i.size l xs → NoTok xs → ref = false → fits i.bytes (l.length + ys.length) = true → (f' = .nil ∨ f' = .full ∨ ∃ u, f' = .tok u ∧ w = some u) →
        (∀ u, w = some u → ∃ t, t ∈ s.live ∧ r.to t = some u ∧ tk = some t) →
        K (.row e (l ++ ys) (.own s.next)) { s with live := s.next :: s.live.filter (fun u => some u != tk), next := s.next + 1 } = some z → OpR X r s v K z (evAppend X.C.P ref ⟨0, none⟩ [t, tx] (.row xs f') x' v) := fun {l xs f' tk w} hr hk href hfit hf hw hK => by
      obtain ⟨f1, f2⟩ := fits_ok hfit
      subst href
      have hfr : ∀ t' : TS X.A, t' = { s with live := s.next :: s.live.filter (fun u => some u != tk), next := s.next + 1 } → TFr s t' := by
        rintro _ rfl
        exact ⟨Nat.le_refl _, by simp, fun _ h => h, fun _ _ _ => rfl, fun u hu hl => by
          simp only [List.mem_cons, List.mem_filter] at hu
          rcases hu with rfl | hu
          · omega
          · exact hu.1⟩
      have hlv : ∀ t ∈ s.next :: s.live.filter (fun u => some u != tk), t = s.next ∨ t ∈ s.live := fun t ht => by
        simp only [List.mem_cons, List.mem_filter] at ht
        exact ht.imp id (·.1)
      have hne : ∀ t ∈ s.next :: s.live.filter (fun u => some u != tk), t ∈ s.live → some t ≠ tk := fun t ht hl => by
        simp only [List.mem_cons, List.mem_filter] at ht
        rcases ht with rfl | ht
        · have := hs.lt _ hl; omega
        · simpa using ht.2
      by_cases hem : ys'.isEmpty = true
      · obtain ⟨h1, h2⟩ := hemp hem
        subst h2
        rw [List.append_nil] at hK
        refine ⟨_, _, r.tok w, _, v, hK, ExtK.tok _ _, (hr.mono hs (Ext.tok _ _)).vr hk (f' := f') ⟨by simp [Rn.tok, hs.nt], hf.imp id (Or.imp id ?_)⟩, ?_, hfr _ rfl, ?_⟩
        · rintro ⟨u, h3, h4⟩
          exact ⟨u, h3, by simp [Rn.tok, hs.nt, h4]⟩
        · refine hs.tok rfl rfl rfl (Nat.le_refl _) hlv (fun u hu => ?_) (fun t _ ht u hu => (hs.live t u ht hu).1) hs.fo hs.vlt
          obtain ⟨t0, t1, t2, t3⟩ := hw u hu
          refine ⟨(hs.live t0 u t1 t2).1, (hs.live t0 u t1 t2).2, fun t ht htl he => ?_⟩
          have := hs.tinj t t0 u htl t1 he t2
          subst this
          exact hne t ht htl t3.symm
        · simp only [evAppend, he, hi, hys, hck, hem, if_true, Bool.false_eq_true, if_false]
      · have hem' : ys'.isEmpty = false := by simpa using hem
        have hc2 : (!(decide ((xs.length + ys'.length) * i.bytes ≤ 140737488355328) && decide (xs.length + ys'.length ≤ 9223372036854775807) && YtlkaoiceehlkmaaVE.szOk i.size xs)) = false := by
          rw [(hr.szOk hX).1, ← hr.2.1, ← hlen]; simp [f1, f2]
        have hnew : ∀ v' : St, v'.locs = v.locs → v'.next = v.next + 1 → (∀ u, u ∈ v'.live ↔ u = v.next ∨ (u ∈ v.live ∧ ∀ u', w = some u' → f' = .tok u' → u ≠ u')) → SRel X (r.tok (some v.next)) { s with live := s.next :: s.live.filter (fun u => some u != tk), next := s.next + 1 } v' := fun v' e1 e2 e3 => by
          refine hs.tok rfl e1 rfl (by omega) hlv (fun u hu => ?_) (fun t ht htl u hu => ?_) (fun u hu => ?_) (fun u hu => ?_)
          · simp only [Option.some.injEq] at hu
            subst hu
            refine ⟨(e3 _).2 (.inl rfl), fun hfo => ?_, fun t ht htl he => ?_⟩
            · have := hs.vlt _ (hs.fo _ hfo); omega
            · have := hs.tolt htl he; omega
          · refine (e3 u).2 (.inr ⟨(hs.live t u htl hu).1, fun u' hw' hft he => ?_⟩)
            subst he
            obtain ⟨t0, t1, t2, t3⟩ := hw u hw'
            have := hs.tinj t t0 u htl t1 hu t2
            subst this
            exact hne t ht htl t3.symm
          · refine (e3 u).2 (.inr ⟨hs.fo u hu, fun u' hw' hft he => ?_⟩)
            subst he
            obtain ⟨t0, t1, t2, t3⟩ := hw u hw'
            exact (hs.live t0 u t1 t2).2 hu
          · rcases (e3 u).1 hu with rfl | h
            · omega
            · have := hs.vlt u h.1; omega
        have hvr : VR X (r.tok (some v.next)) (.row e (l ++ ys) (.own s.next)) (.row (xs ++ stripRow ys') (.tok v.next)) := ((hr.app hstr.1).mono hs (Ext.tok _ _)).vr (NoTok.app hk hstr.2) ⟨by simp [Rn.tok, hs.nt], .inr (.inr ⟨_, rfl, by simp [Rn.tok, hs.nt]⟩)⟩
        rcases hf with rfl | rfl | ⟨u, rfl, rfl⟩
        · refine ⟨_, _, r.tok (some v.next), _, { v with live := v.next :: v.live, next := v.next + 1 }, hK, ExtK.tok _ _, hvr, hnew _ rfl rfl (fun u => by simp), hfr _ rfl, ?_⟩
          simp only [evAppend, he, hi, hys, hck, hem', hc2, Bool.false_eq_true, if_false]
        · refine ⟨_, _, r.tok (some v.next), _, { v with live := v.next :: v.live, next := v.next + 1 }, hK, ExtK.tok _ _, hvr, hnew _ rfl rfl (fun u => by simp), hfr _ rfl, ?_⟩
          simp only [evAppend, he, hi, hys, hck, hem', hc2, Bool.false_eq_true, if_false]
        · obtain ⟨t0, t1, t2, _⟩ := hw u rfl
          have hul := (hs.live t0 u t1 t2).1
          refine ⟨_, _, r.tok (some v.next), _, { v with live := v.next :: v.live.filter (fun q => q != u), next := v.next + 1 }, hK, ExtK.tok _ _, hvr, hnew _ rfl rfl (fun q => by simp), hfr _ rfl, ?_⟩
          have hct : v.live.contains u = true := by simpa using hul
          simp only [evAppend, he, hi, hys, hck, hem', hc2, Bool.false_eq_true, if_false, hct, if_true]
    split at h
    · -- the empty row
      have := VR.nils ha
      subst this
      obtain ⟨hf, h⟩ := gK_some h
      cases ref with
      | false =>
        simp only [mkRowT, Bool.false_eq_true, if_false] at h
        refine own (l := []) (xs := []) (tk := none) (w := none) (RowR.nil hn) (fun c hc => by simp at hc) rfl (by simpa using hf) (.inl rfl) (fun u hu => by cases hu) ?_
        have : s.live.filter (fun u => some u != (none : Option Nat)) = s.live := by
          rw [List.filter_eq_self]; intro a _; rfl
        rw [this]
        exact h
      | true =>
        simp only [mkRowT, if_true] at h
        by_cases hem : ys'.isEmpty = true
        · obtain ⟨h1, h2⟩ := hemp hem
          subst h2
          refine ⟨_, _, r.loc none, .row [] .nil, v, h, ExtK.loc _ _, .refn (by simp [Rn.loc, hs.nl]) .nil, hs.newNil hn, TFr.newL _ _, ?_⟩
          simp only [evAppend, he, hi, hys, hck, hem, if_true, Bool.false_eq_true, if_false]
        · have hem' : ys'.isEmpty = false := by simpa using hem
          obtain ⟨f1, f2⟩ := fits_ok hf
          have hc2 : (!(decide ((([] : List (List PV)).length + ys'.length) * i.bytes ≤ 140737488355328) && decide (([] : List (List PV)).length + ys'.length ≤ 9223372036854775807) && YtlkaoiceehlkmaaVE.szOk i.size [])) = false := by
            rw [← hlen]; simp [f1, f2, YtlkaoiceehlkmaaVE.szOk]
          refine ⟨_, _, r.loc (some v.locs.length), .ref v.locs.length i.size (0 * i.size) ys.length, YtlkaoiceehlkmaaVE.newLoc v ys'.flatten, h, ExtK.loc _ _, .ref hn (by simp [Rn.loc, hs.nl]) .nil, hs.newLoc hrow.loc, TFr.newL _ _, ?_⟩
          simp only [evAppend, he, hi, hys, hck, hem', hc2, Bool.false_eq_true, if_false, if_true]
          simp [hlen]
    · -- a row written out
      rename_i u l fl
      split at h
      · rename_i hu
        subst hu
        cases fl with
        | sh => cases h
        | own t0 =>
          have hd := (dK_some h).1
          replace h := (dK_some h).2
          simp only [Bool.and_eq_true, Bool.not_eq_true', List.contains_iff_mem] at hd
          have hf := (gK_some h).1
          replace h := (gK_some h).2
          cases ha with
          | @row _ _ _ xs f' m _ _ q1 q2 q3 q4 q5 _ =>
            rw [hn] at q1
            simp only [Option.some.injEq] at q1
            subst q1
            refine own (l := l) (xs := xs) (tk := some t0) (w := r.to t0) ⟨hn, q2, q3⟩ q4 hd.2 hf ?_ (fun u hu => ⟨t0, hd.1, hu, rfl⟩) ?_
            · rcases q5.2 with h1 | h1 | ⟨u, h1, h2⟩
              · exact .inl h1
              · exact .inr (.inl h1)
              · exact .inr (.inr ⟨u, h1, h2⟩)
            · have : (fun u => some u != some t0) = (fun u => u != t0) := rfl
              rw [this]
              exact h
      · cases h
    · -- a row at a location
      rename_i u l off m
      have hd := (dK_some h).1
      replace h := (dK_some h).2
      simp only [Bool.and_eq_true, beq_iff_eq] at hd
      obtain ⟨⟨href, hoff⟩, hue⟩ := hd
      obtain ⟨c, hc, hD⟩ := cK_some h
      clear h
      have h := hD
      clear hD
      split at h
      · rename_i w as
        split at h
        · rename_i hw
          subst hw
          have hle := (gK_some h).1
          replace h := (gK_some h).2
          have hf := (gK_some h).1
          replace h := (gK_some h).2
          simp only [decide_eq_true_eq] at hle
          obtain ⟨f1, f2⟩ := fits_ok hf
          have hfr : ∀ c' : TL X.A, TFr s { newL { s with locs := s.locs.set l none, wrote := l :: s.wrote } c' with live := s.live } := fun c' => (TFr.kill s l).trans (TFr.newL _ _)
          have hlen2 : ({ s with locs := s.locs.set l none, wrote := l :: s.wrote } : TS X.A).locs.length = s.locs.length := by simp
          have hkill := hs.kill l (l :: s.wrote)
          have hnl : r.nl = s.locs.length := hs.nl
          subst href
          cases ha with
          | refn g _ =>
            by_cases hem : ys'.isEmpty = true
            · obtain ⟨h1, h2⟩ := hemp hem
              subst h2
              have e0 : as.take 0 ++ ([] : List (X.A w)) = [] := by simp
              refine ⟨_, _, r.loc none, .row [] .nil, v, h, ExtK.loc _ _, .refn (by simp [Rn.loc, hs.nl]) .nil, ?_, hfr _, ?_⟩
              · have h5 : SRel X (r.loc none) (newL { s with locs := s.locs.set l none, wrote := l :: s.wrote } (.arr w (as.take 0 ++ []))) v := by rw [e0]; exact hkill.newNil hn
                exact h5
              · simp only [evAppend, he, hi, hys, hck, hem, if_true, Bool.false_eq_true, if_false]
            · have hem' : ys'.isEmpty = false := by simpa using hem
              have hc2 : (!(decide ((([] : List (List PV)).length + ys'.length) * i.bytes ≤ 140737488355328) && decide (([] : List (List PV)).length + ys'.length ≤ 9223372036854775807) && YtlkaoiceehlkmaaVE.szOk i.size [])) = false := by
                rw [← hlen]; simp only [List.length_nil, Nat.zero_add] at f1 f2 ⊢; simp [f1, f2, YtlkaoiceehlkmaaVE.szOk]
              refine ⟨_, _, r.loc (some v.locs.length), .ref v.locs.length i.size (0 * i.size) (0 + ys.length), YtlkaoiceehlkmaaVE.newLoc v ys'.flatten, h, ExtK.loc _ _, .ref hn (by simp [Rn.loc, hs.nl]) .nil, ?_, hfr _, ?_⟩
              · have := hkill.newLoc (c := .arr w (as.take 0 ++ ys)) (cs := ys'.flatten) (by simpa using hrow.loc)
                exact this
              · simp only [evAppend, he, hi, hys, hck, hem', hc2, Bool.false_eq_true, if_false, if_true]
                simp [hlen]
          | refe _ _ g _ => omega
          | @ref _ _ l' _ n' _ _ _ g1 g2 _ =>
            subst hue
            rw [hn] at g1
            simp only [Option.some.injEq] at g1
            subst g1
            obtain ⟨n2, xs, rest, e1, hr0⟩ := arr_loc hX hs hc g2
            have en : n2 = i.size := by have := hr0.1; rw [hn] at this; simpa using this.symm
            subst en
            have hlens := hr0.lens hX
            have hxl := hr0.2.1
            have htk : (xs.flatten ++ rest).take (m * i.size) = (xs.take m).flatten := by
              have e2 : xs.flatten ++ rest = (xs.take m).flatten ++ ((xs.drop m).flatten ++ rest) := by
                rw [← List.append_assoc, ← List.flatten_append, List.take_append_drop]
              have e3 : ((xs.take m).flatten).length = m * i.size := by
                rw [flat_len (fun d hd => hlens d (List.mem_of_mem_take hd)), List.length_take, Nat.min_eq_left (by omega)]
              rw [e2, ← e3, List.take_left]
            have hz : r.fz l' = none := by
              cases hfz : r.fz l' with
              | none => rfl
              | some ds => exact absurd g2 ((hs.fz l' ds hfz).2.1 l (by rw [hc]; rfl))
            have hy : r.fr l' = none := by
              cases hfz : r.fr l' with
              | none => rfl
              | some ds => exact absurd g2 ((hs.fr l' ds hfz).2.1 l (by rw [hc]; rfl))
            have hpart : RowR X r u i.size (as.take m) (xs.take m) := by simpa using hr0.part 0 m
            by_cases hem : ys'.isEmpty = true
            · obtain ⟨h1, h2⟩ := hemp hem
              subst h2
              refine ⟨_, _, r.loc (some l'), .ref l' i.size (off * i.size) m, v, h, ExtK.loc _ _, ?_, ?_, hfr _, ?_⟩
              · rw [hoff]
                exact .ref hn (by simp [Rn.loc, hs.nl]) .nil
              · have := hkill.alias (k := l') (c := .arr u (as.take m ++ [])) (cs := xs.flatten ++ rest) (fun m' hm' he' => ?_) ⟨l, g2⟩ hz hy e1 ?_
                · exact this
                · have hne : l ≠ m' := fun e => by subst e; rw [kill_none] at hm'; cases hm'
                  rw [kill_other s _ hne] at hm'
                  exact hne (hs.inj l m' l' (by rw [hc]; rfl) hm' g2 he')
                · refine ⟨i.size, xs.take m, (xs.drop m).flatten ++ rest, hn, ?_, ?_, ?_⟩
                  · rw [← List.append_assoc, ← List.flatten_append, List.take_append_drop]
                  · simpa using hpart.2.1
                  · rw [List.append_nil]; exact hpart.2.2
              · simp only [evAppend, he, hi, hys, hck, e1, hem, if_true, Bool.false_eq_true, if_false]
            · have hem' : ys'.isEmpty = false := by simpa using hem
              have hkill2 := hs.kill2 (l := l) (k := l') (l :: s.wrote) (by rw [hc]; rfl) g2
              have hnew := hkill2.newLoc (c := .arr u (as.take m ++ ys)) (cs := (xs.take m).flatten ++ ys'.flatten) ⟨i.size, xs.take m ++ ys', [], hn, by simp, (hpart.app hrow).2.1, (hpart.app hrow).2.2⟩
              refine ⟨_, _, r.loc (some v.locs.length), .ref v.locs.length i.size (0 * i.size) (m + ys.length), YtlkaoiceehlkmaaVE.newLoc { v with locs := v.locs.set l' none } ((xs.take m).flatten ++ ys'.flatten), h, ExtK.loc _ _, .ref hn (by simp [Rn.loc, hs.nl]) .nil, ?_, hfr _, ?_⟩
              · have e5 : ({ v with locs := v.locs.set l' none } : St).locs.length = v.locs.length := by simp
                rw [e5] at hnew
                exact hnew
              · have hle2 : off * i.size + m * i.size ≤ (xs.flatten ++ rest).length := by
                  rw [hoff, Nat.zero_mul, List.length_append, flat_len hlens]
                  have := Nat.mul_le_mul_right i.size (show m ≤ xs.length by omega)
                  omega
                simp only [evAppend, he, hi, hys, hck, e1, hem', Bool.false_eq_true, if_false]
                rw [if_pos ⟨by simp [Wr.ok], trivial, hle2, by rw [← hlen]; exact f1, by rw [← hlen]; exact f2⟩]
                rw [hoff, Nat.zero_mul, List.drop_zero, htk, ← hlen]
        · cases h
      · cases h
    · cases h
  · cases h
end six
end Go.Proofs.YtlkaoiceehlkmaaTE
