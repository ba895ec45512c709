import Derived.Test.YtlkaoiceehlkmaaTeQ1
namespace Go.Proofs.YtlkaoiceehlkmaaTE
open Go Go.Proofs.YtlkaoiceehlkmaaVE
set_option linter.unusedVariables false
set_option linter.unusedSimpArgs false

/-- Several results as one. -/
def oneP : List PV → PV
  | [p] => p
  | ps => .tuple ps
section res
variable {X : TX} {r : Rn} {s : TS X.A} {v : St} {tm : List (TV X.A)} {tm' : List PV} {α : Type} {z : α}
theorem VRs.one {ps : List (TV X.A)} {qs : List PV} (h : VRs X r ps qs) : VR X r (one ps) (oneP qs) := by
  have hl := h.length
  match ps, qs, hl, h with
  | [], [], _, h => exact .tuple h .nil
  | [p], [q], _, h => exact h
  | p :: p2 :: ps, q :: q2 :: qs, _, h => exact .tuple h .nil
theorem res_ok (hX : XOk X) (hs : SRel X r s v) (hv : VRs X r tm tm') : ∀ {rs : List ResultVar} {K : List (TV X.A) → Option α}, resT X tm s rs K = some z → ∃ ps qs, K ps = some z ∧ rs.mapM (evResult X.C.P tm' v) = some qs ∧ VRs X r ps qs
  | [], K, h => ⟨[], [], h, rfl, .nil⟩
  | .tmp t :: rs, K, h => by
    obtain ⟨ps, qs, h1, h2, h3⟩ := res_ok hX hs hv (rs := rs) h
    refine ⟨_, tm'.getD t .any :: qs, h1, ?_, VRs.cons (hv.getD t) h3⟩
    rw [List.mapM_cons, h2]
    rfl
  | .cell a t :: rs, K, h => by
    obtain ⟨p, p', h1, h2, h3⟩ := load_ok hX hs (hv.getD a) h
    obtain ⟨ps, qs, h4, h5, h6⟩ := res_ok hX hs hv (rs := rs) h1
    refine ⟨_, p' :: qs, h4, ?_, VRs.cons h3 h6⟩
    rw [List.mapM_cons, h5]
    simp only [evResult, h2]
    rfl
theorem evRes_one {P : Program} {fn : Func} {tm : List PV} {st : St} {qs : List PV} (h : fn.results.toList.mapM (evResult P tm st) = some qs) : evResults P fn tm st = some (oneP qs) := by
  unfold evResults
  rw [h]
  cases qs with
  | nil => rfl
  | cons q qs =>
    cases qs with
    | nil => rfl
    | cons q2 qs => rfl
/-- A function's body. -/
theorem body_ok (hX : XOk X) {tcall : CallT X α} (hC : CallOk X tcall) {n : Nat} {f : FuncId} {args : List (TV X.A)} {args' : List PV} {K : List (TV X.A) → TS X.A → Option α} (hs : SRel X r s v) (ha : VRs X r args args') (h : tBody X tcall n f args s K = some z) :
    ∃ fn c, X.C.P.funcs[f]? = some fn ∧ fn.body = some c ∧ ∃ ps st2 r' qs sv', K ps st2 = some z ∧ Ext r r' ∧ VRs X r' ps qs ∧ SRel X r' st2 sv' ∧ TFr s st2 ∧ ∃ k0, ∀ k, k0 ≤ k → endE X.C.P fn (evCode X.C (evCall X.C k) (iter k) f ⟨0, none⟩ c (args' ++ List.replicate (fn.ntmps - args'.length) .any) v) = some (oneP qs, sv') := by
  unfold tBody at h
  obtain ⟨fn, hfn, h⟩ := cK_some h
  obtain ⟨c, hc, h⟩ := cK_some h
  refine ⟨fn, c, hfn, hc, ?_⟩
  have hv0 : VRs X r (args ++ List.replicate (fn.ntmps - args.length) .any) (args' ++ List.replicate (fn.ntmps - args'.length) .any) := by
    rw [ha.length]
    exact ha.append (VRs.replicate_any _ _)
  obtain ⟨e, tm2, st2, r', tm2', sv', e1, e2, e3, e4, e5, _, k0, e7⟩ := code_ok (f := f) hX hC n c _ _ _ _ _ _ _ h hs hv0
  have fin : (e = .normal ∨ e = .ret) → resT X tm2 st2 fn.results.toList (fun ps => K ps st2) = some z → ∃ ps st2 r' qs sv', K ps st2 = some z ∧ Ext r r' ∧ VRs X r' ps qs ∧ SRel X r' st2 sv' ∧ TFr s st2 ∧ ∃ k0, ∀ k, k0 ≤ k → endE X.C.P fn (evCode X.C (evCall X.C k) (iter k) f ⟨0, none⟩ c (args' ++ List.replicate (fn.ntmps - args'.length) .any) v) = some (oneP qs, sv') := fun he h => by
    obtain ⟨ps, qs, h1, h2, h3⟩ := res_ok hX e4 e3 h
    refine ⟨ps, st2, r', qs, sv', h1, e2, h3, e4, e5, k0, fun k hk => ?_⟩
    have := e7 k hk
    dsimp only at this
    rw [this]
    rcases he with rfl | rfl
    · simp only [endE, evRes_one h2]; rfl
    · simp only [endE, evRes_one h2]; rfl
  cases e with
  | normal => exact fin (.inl rfl) e1
  | ret => exact fin (.inr rfl) e1
  | exit id => cases e1
end res
section pure
variable {X : TX}
/-- Cells without tokens at the top are safe. -/
theorem VRs.plainSafe {r : Rn} (hX : XOk X) {ps : List (TV X.A)} {qs : List PV} (h : VRs X r ps qs) : ps.all (plainC X.wd) = true → qs.all noTok = true → safes 0 0 qs = true := by
  induction h with
  | nil => exact fun _ _ => rfl
  | bool _ ih => intro hp hq; rw [List.all_cons, Bool.and_eq_true] at hp hq; simp only [safes, safe, Bool.true_and]; exact ih hp.2 hq.2
  | int _ ih => intro hp hq; rw [List.all_cons, Bool.and_eq_true] at hp hq; simp only [safes, safe, Bool.true_and]; exact ih hp.2 hq.2
  | str _ ih => intro hp hq; rw [List.all_cons, Bool.and_eq_true] at hp hq; simp only [safes, safe, Bool.true_and]; exact ih hp.2 hq.2
  | @row t l f xs f' n ps qs h1 h2 h3 h4 h5 h ih1 ih =>
    intro hp hq
    rw [List.all_cons, Bool.and_eq_true] at hp hq
    simp only [safes, safe, Bool.and_eq_true]
    refine ⟨⟨?_, ?_⟩, ih hp.2 hq.2⟩
    · have := hq.1
      cases f' with
      | tok u => simp [noTok] at this
      | _ => rfl
    · have key : ∀ ys : List (List PV), (∀ c ∈ ys, safes 0 0 c = true) → safess 0 0 ys = true := by
        intro ys
        induction ys with
        | nil => intro _; rfl
        | cons c ys ihy =>
          intro hy
          simp only [safess, Bool.and_eq_true]
          exact ⟨hy c (List.mem_cons_self ..), ihy fun d hd => hy d (List.mem_cons_of_mem _ hd)⟩
      refine key xs fun c hc => ?_
      obtain ⟨i, hi, rfl⟩ := List.mem_iff_getElem.1 hc
      have h6 : l[i]? = some (l[i]'(by omega)) := by simp [show i < l.length by omega]
      exact ih1 i _ (xs[i]) h6 (by simp [hi]) ((hX.wd t n h1).2.2.2 _).2 (h4 _ hc)
  | _ => intro hp; simp [plainC] at hp
/-- A value that leads nowhere. -/
def plainV (X : TX) : TV X.A → Bool
  | .bool _ | .int .. | .str _ => true
  | .row t _ .sh => true
  | .agg cs => cs.all (plainC X.wd)
  | .nili _ => true
  | _ => false
theorem plainV_ok (hX : XOk X) {r R : Rn} {p : TV X.A} {q : PV} (hp : plainV X p = true) (h : VR X r p q) : VR X R p q.strip1 ∧ safe 0 0 q.strip1 = true ∧ q.strip2 = q.strip1 ∧ VR X R p q := by
  cases p with
  | bool b => cases h with | bool _ => exact ⟨.bool .nil, rfl, rfl, .bool .nil⟩
  | int k n => cases h with | int _ => exact ⟨.int .nil, rfl, rfl, .int .nil⟩
  | str s => cases h with | str _ => exact ⟨.str .nil, rfl, rfl, .str .nil⟩
  | nili b =>
    cases h with
    | nilt _ => exact ⟨.nilt .nil, rfl, rfl, .nilt .nil⟩
    | nilf k _ => exact ⟨.nilf k .nil, by simpa [PV.strip1, PV.strip, safe] using k, rfl, .nilf k .nil⟩
  | row t l f =>
    cases f with
    | own t => cases hp
    | sh =>
      cases h with
      | @row _ _ _ xs f' n _ _ h1 h2 h3 h4 h5 _ =>
        have hb : VR X R (.row t l .sh) (.row xs .sh) := .row h1 h2 (fun i a c ha hc => (h3 i a c ha hc).lay hX h1) h4 trivial .nil
        refine ⟨hb, ?_, rfl, .row h1 h2 (fun i a c ha hc => (h3 i a c ha hc).lay hX h1) h4 trivial .nil⟩
        have := hb.plainSafe hX (by simp [plainC, h1]) (by simp [noTok])
        simp only [safes, Bool.and_true] at this
        exact this
  | agg cs =>
    cases h with
    | @agg _ cs' _ _ h1 _ =>
      have h2 : VRs X R cs cs' := h1.plain hX hp
      obtain ⟨e1, e2⟩ := VRs.strip hp h2
      refine ⟨.agg e1 .nil, ?_, rfl, .agg h2 .nil⟩
      exact e1.plainSafe hX hp e2
  | _ => cases hp
theorem plainVs_ok (hX : XOk X) {r R : Rn} : ∀ {ps : List (TV X.A)} {qs : List PV}, ps.all (plainV X) = true → VRs X r ps qs → VRs X R ps (qs.map PV.strip1) ∧ safes 0 0 (qs.map PV.strip1) = true ∧ qs.map PV.strip2 = qs.map PV.strip1 ∧ VRs X R ps qs
  | [], qs, _, h => by rw [VRs.nil_iff] at h; subst h; exact ⟨.nil, rfl, rfl, .nil⟩
  | p :: ps, qs, hp, h => by
    obtain ⟨q, qs2, rfl, h1, h2⟩ := VRs.cons_iff.1 h
    rw [List.all_cons, Bool.and_eq_true] at hp
    obtain ⟨e1, e2, e3, e4⟩ := plainV_ok hX (R := R) hp.1 h1
    obtain ⟨f1, f2, f3, f4⟩ := plainVs_ok hX (R := R) hp.2 h2
    refine ⟨VRs.cons e1 f1, ?_, by rw [List.map_cons, List.map_cons, e3, f3], VRs.cons e4 f4⟩
    rw [List.map_cons]
    simp only [safes, e2, f2, Bool.and_self]
theorem flat_inj {d : Ds} (hd : flatD d = true) (x : d.den X.A) (n : Nat) (hw : ∀ t, d = .row t false → (X.wd t).isSome = true) : plainC X.wd (inj1 X id d x n).1 = true ∧ (inj1 X id d x n).2 = n := by
  cases d with
  | int k => rw [inj1_int]; exact ⟨rfl, rfl⟩
  | bool => rw [inj1_bool]; exact ⟨rfl, rfl⟩
  | str => rw [inj1_str]; exact ⟨rfl, rfl⟩
  | row t own =>
    cases own with
    | true => cases hd
    | false => rw [inj1_rowF]; exact ⟨hw t rfl, rfl⟩
  | _ => cases hd
theorem flats_inj : ∀ {ds : List Ds} (hd : ds.all flatD = true) (hk : (ds.all fun d => match d with | .row t _ => (X.wd t).isSome | _ => true) = true) (x : dens X.A ds) (n : Nat), (injs X id ds x n).1.all (plainC X.wd) = true ∧ (injs X id ds x n).2 = n
  | [], _, _, x, n => by rw [injs_nil]; exact ⟨rfl, rfl⟩
  | d :: ds, hd, hk, x, n => by
    rw [List.all_cons, Bool.and_eq_true] at hd hk
    obtain ⟨e1, e2⟩ := flat_inj hd.1 (x : d.den X.A × dens X.A ds).1 n (fun t ht => by subst ht; exact hk.1)
    obtain ⟨f1, f2⟩ := flats_inj hd.2 hk.2 (x : d.den X.A × dens X.A ds).2 n
    rw [injs_cons]
    simp only [e2, f2, List.all_cons, e1, f1, Bool.and_self, and_self]
theorem pure_inj (hX : XOk X) {o : Bool} {d : Ds} (hd : pureD o d = true) (hk : knownD X d = true) (x : d.den X.A) (n : Nat) : plainV X (inj1 X id d x n).1 = true ∧ (inj1 X id d x n).2 = n := by
  cases d with
  | int k => rw [inj1_int]; exact ⟨rfl, rfl⟩
  | bool => rw [inj1_bool]; exact ⟨rfl, rfl⟩
  | str => rw [inj1_str]; exact ⟨rfl, rfl⟩
  | row t own =>
    cases own with
    | true => cases hd
    | false => rw [inj1_rowF]; exact ⟨rfl, rfl⟩
  | sct t =>
    rw [inj1_sct]
    obtain ⟨n, hn⟩ := Option.isSome_iff_exists.1 hk
    exact ⟨((hX.wd t n hn).2.2.2 x).2, rfl⟩
  | agg ds =>
    rw [inj1_agg]
    obtain ⟨f1, f2⟩ := flats_inj hd hk x n
    exact ⟨f1, f2⟩
  | nili => rw [inj1_nili]; exact ⟨rfl, rfl⟩
  | _ => cases hd
theorem pures_inj (hX : XOk X) {o : Bool} : ∀ {ds : List Ds} (hd : ds.all (pureD o) = true) (hk : ds.all (knownD X) = true) (x : dens X.A ds) (n : Nat), (injs X id ds x n).1.all (plainV X) = true ∧ (injs X id ds x n).2 = n
  | [], _, _, x, n => by rw [injs_nil]; exact ⟨rfl, rfl⟩
  | d :: ds, hd, hk, x, n => by
    rw [List.all_cons, Bool.and_eq_true] at hd hk
    obtain ⟨e1, e2⟩ := pure_inj hX hd.1 hk.1 (x : d.den X.A × dens X.A ds).1 n
    obtain ⟨f1, f2⟩ := pures_inj hX hd.2 hk.2 (x : d.den X.A × dens X.A ds).2 n
    rw [injs_cons]
    simp only [e2, f2, List.all_cons, e1, f1, Bool.and_self, and_self]
/-- The start of every token is the same. -/
theorem pure_tok {o : Bool} {d : Ds} (hd : pureD o d = true) (x : d.den X.A) (n m : Nat) : (inj1 X id d x n).1 = (inj1 X id d x m).1 ∧ (inj1 X id d x n).2 = n := by
  have flat : ∀ {ds : List Ds}, ds.all flatD = true → ∀ (x : dens X.A ds) (n m : Nat), (injs X id ds x n).1 = (injs X id ds x m).1 ∧ (injs X id ds x n).2 = n := by
    intro ds
    induction ds with
    | nil => intro _ x n m; rw [injs_nil, injs_nil]; exact ⟨rfl, rfl⟩
    | cons d ds ih =>
      intro hd x n m
      rw [List.all_cons, Bool.and_eq_true] at hd
      have h1 : ∀ n, (inj1 X id d (x : d.den X.A × dens X.A ds).1 n).1 = (inj1 X id d (x : d.den X.A × dens X.A ds).1 m).1 ∧ (inj1 X id d (x : d.den X.A × dens X.A ds).1 n).2 = n := fun n => by
        cases d with
        | int k => rw [inj1_int, inj1_int]; exact ⟨rfl, rfl⟩
        | bool => rw [inj1_bool, inj1_bool]; exact ⟨rfl, rfl⟩
        | str => rw [inj1_str, inj1_str]; exact ⟨rfl, rfl⟩
        | row t own =>
          cases own with
          | true => simp [flatD] at hd
          | false => rw [inj1_rowF, inj1_rowF]; exact ⟨rfl, rfl⟩
        | _ => simp [flatD] at hd
      obtain ⟨i1, i2⟩ := ih hd.2 (x : d.den X.A × dens X.A ds).2 n m
      rw [injs_cons, injs_cons]
      simp only [(h1 n).2, (h1 m).2, (h1 n).1, i1, i2, and_self]
  cases d with
  | int k => rw [inj1_int, inj1_int]; exact ⟨rfl, rfl⟩
  | bool => rw [inj1_bool, inj1_bool]; exact ⟨rfl, rfl⟩
  | str => rw [inj1_str, inj1_str]; exact ⟨rfl, rfl⟩
  | row t own =>
    cases own with
    | true => cases hd
    | false => rw [inj1_rowF, inj1_rowF]; exact ⟨rfl, rfl⟩
  | sct t => rw [inj1_sct, inj1_sct]; exact ⟨rfl, rfl⟩
  | agg ds =>
    rw [inj1_agg, inj1_agg]
    obtain ⟨i1, i2⟩ := flat hd x n m
    exact ⟨by simp only [i1], i2⟩
  | nili => rw [inj1_nili, inj1_nili]; exact ⟨rfl, rfl⟩
  | _ => cases hd
theorem pures_tok {o : Bool} : ∀ {ds : List Ds} (hd : ds.all (pureD o) = true) (x : dens X.A ds) (n m : Nat), (injs X id ds x n).1 = (injs X id ds x m).1 ∧ (injs X id ds x n).2 = n
  | [], _, x, n, m => by rw [injs_nil, injs_nil]; exact ⟨rfl, rfl⟩
  | d :: ds, hd, x, n, m => by
    rw [List.all_cons, Bool.and_eq_true] at hd
    obtain ⟨e1, e2⟩ := pure_tok hd.1 (x : d.den X.A × dens X.A ds).1 n m
    obtain ⟨_, e3⟩ := pure_tok hd.1 (x : d.den X.A × dens X.A ds).1 m m
    obtain ⟨f1, f2⟩ := pures_tok hd.2 (x : d.den X.A × dens X.A ds).2 n m
    rw [injs_cons, injs_cons]
    simp only [e2, e3, e1, f1, f2, and_self]
end pure
end Go.Proofs.YtlkaoiceehlkmaaTE

namespace Go.Proofs.YtlkaoiceehlkmaaTE
open Go Go.Proofs.YtlkaoiceehlkmaaVE
set_option linter.unusedVariables false
set_option linter.unusedSimpArgs false

/-! Calls that are given a pointer. -/
section ren
variable {X : TX}
theorem rens_get {A : TypeId → Type} {mu : Nat → Nat} {T : Nat} : ∀ {ps : List (TV A)} {i : Nat}, (rens mu T ps)[i]? = (ps[i]?).map (ren mu T)
  | [], i => by simp [rens]
  | p :: ps, 0 => rfl
  | p :: ps, i + 1 => by
    show (rens mu T ps)[i]? = _
    rw [rens_get]
    rfl
/-- In another numbering the values stay related. -/
theorem VRs.ren (hX : XOk X) {R r2 : Rn} {mu : Nat → Nat} {T : Nat} (hlo : ∀ j x, R.lo j = some x → r2.lo (mu j) = some x) (hto : ∀ t u, R.to t = some u → r2.to (T + t) = some u) (hnt : T + R.nt ≤ r2.nt) (hfz : ∀ k cs, R.fz k = some cs → r2.fz k = some cs) {ps : List (TV X.A)} {qs : List PV} (h : VRs X R ps qs) : VRs X r2 (rens mu T ps) qs := by
  induction h with
  | nil => exact .nil
  | any _ ih => exact .any ih
  | bool _ ih => exact .bool ih
  | int _ ih => exact .int ih
  | str _ ih => exact .str ih
  | cst h _ ih => exact .cst h ih
  | @row t l f xs f' n ps qs h1 h2 h3 h4 h5 h _ ih =>
    have h3' : ∀ (i : Nat) (a : X.A t) (c : List PV), l[i]? = some a → xs[i]? = some c → VRs X r2 (X.lay t a) c := fun i a c ha hc => (h3 i a c ha hc).lay hX h1
    cases f with
    | sh => exact .row h1 h2 h3' h4 trivial ih
    | own t' =>
      refine .row h1 h2 h3' h4 ⟨by have := h5.1; omega, h5.2.imp id (Or.imp id ?_)⟩ ih
      rintro ⟨u, e1, e2⟩
      exact ⟨u, e1, hto _ _ e2⟩
  | refn h _ ih => exact .refn (hlo _ _ h) ih
  | ref h1 h2 _ ih => exact .ref h1 (hlo _ _ h2) ih
  | refe h1 h2 h3 _ ih => exact .refe h1 (hlo _ _ h2) h3 ih
  | agg _ _ ih1 ih => exact .agg ih1 ih
  | ptr h _ ih => exact .ptr (hlo _ _ h) ih
  | aptr h1 h2 _ ih => exact .aptr h1 (hlo _ _ h2) ih
  | iptr h1 h2 h3 _ ih => exact .iptr (hlo _ _ h1) h2 h3 ih
  | eptr _ _ ih1 ih => exact .eptr ih1 ih
  | eptrF h1 h2 h3 _ _ ih1 ih => exact .eptrF (hfz _ _ h1) h2 h3 ih1 ih
  | optn _ ih => exact .optn ih
  | opts h1 h2 _ _ ih =>
    refine .opts h1 ?_ ih
    cases h2 with
    | eptr h3 _ => exact .eptr (h3.lay hX h1) .nil
    | eptrF h3 h4 h5 h6 _ => exact .eptrF (hfz _ _ h3) h4 h5 (h6.lay hX h1) .nil
  | nilt _ ih => exact .nilt ih
  | nilf h _ ih => exact .nilf h ih
  | fn _ _ _ ih1 ih2 ih => exact .fn ih1 ih2 ih
  | tuple _ _ ih1 ih => exact .tuple ih1 ih
  | yld _ _ _ ih => exact .any ih
theorem LocR.ren (hX : XOk X) {R r2 : Rn} {mu : Nat → Nat} {T : Nat} (hlo : ∀ j x, R.lo j = some x → r2.lo (mu j) = some x) (hto : ∀ t u, R.to t = some u → r2.to (T + t) = some u) (hnt : T + R.nt ≤ r2.nt) (hfz : ∀ k cs, R.fz k = some cs → r2.fz k = some cs) {c : TL X.A} {cs : List PV} (h : LocR X R c cs) : LocR X r2 (renL mu T c) cs := by
  cases c with
  | cells ds => exact VRs.ren hX hlo hto hnt hfz (show VRs X R ds cs from h)
  | arr t l => exact LocR.plainA hX h
/-- The relation of another's tokens and locations alone. -/
theorem VRs.others {r : Rn} {fr : Nat → Option (List PV)} {fo : Nat → Prop} {ps : List (TV X.A)} {qs : List PV} (h : VRs X r ps qs) : VRs X { r with fr := fr, fo := fo } ps qs := by
  induction h with
  | nil => exact .nil
  | any _ ih => exact .any ih
  | bool _ ih => exact .bool ih
  | int _ ih => exact .int ih
  | str _ ih => exact .str ih
  | cst h _ ih => exact .cst h ih
  | row h1 h2 _ h4 h5 _ ih1 ih => exact .row h1 h2 ih1 h4 h5 ih
  | refn h _ ih => exact .refn h ih
  | ref h1 h2 _ ih => exact .ref h1 h2 ih
  | refe h1 h2 h3 _ ih => exact .refe h1 h2 h3 ih
  | agg _ _ ih1 ih => exact .agg ih1 ih
  | ptr h _ ih => exact .ptr h ih
  | aptr h1 h2 _ ih => exact .aptr h1 h2 ih
  | iptr h1 h2 h3 _ ih => exact .iptr h1 h2 h3 ih
  | eptr _ _ ih1 ih => exact .eptr ih1 ih
  | eptrF h1 h2 h3 _ _ ih1 ih => exact .eptrF h1 h2 h3 ih1 ih
  | optn _ ih => exact .optn ih
  | opts h1 _ _ ih1 ih => exact .opts h1 ih1 ih
  | nilt _ ih => exact .nilt ih
  | nilf h _ ih => exact .nilf h ih
  | fn _ _ _ ih1 ih2 ih => exact .fn ih1 ih2 ih
  | tuple _ _ ih1 ih => exact .tuple ih1 ih
  | yld _ _ ih1 ih => exact .yld ih1 ih
theorem LocR.others {r : Rn} {fr : Nat → Option (List PV)} {fo : Nat → Prop} {c : TL X.A} {cs : List PV} (h : LocR X r c cs) : LocR X { r with fr := fr, fo := fo } c cs := by
  cases c with
  | cells ds => exact VRs.others (show VRs X r ds cs from h)
  | arr t l =>
    obtain ⟨n, xs, rest, h1, h2, h3, h4⟩ := h
    exact ⟨n, xs, rest, h1, h2, h3, fun i a c ha hc => (h4 i a c ha hc).others⟩
/-- Nothing is known but what is others'. -/
def Rn.zero (fo : Nat → Prop) (fr : Nat → Option (List PV)) : Rn := ⟨fun _ => none, fun _ => none, fun _ => none, 0, 0, fo, fr⟩
theorem srel_zero {fo : Nat → Prop} {fr : Nat → Option (List PV)} {v : St} (h1 : ∀ u, fo u → u ∈ v.live) (h2 : ∀ u ∈ v.live, u < v.next) (h3 : ∀ k cs, fr k = some cs → locAt v k = some cs ∨ locAt v k = some (cs.map YtlkaoiceehlkmaaVE.clean)) : SRel X (Rn.zero fo fr) st00 v := by
  refine ⟨⟨fun l x h => (by cases h), fun t u h => (by cases h)⟩, rfl, rfl, fun l c h => (by simp [tloc, st00] at h), fun a b k h => (by simp [tloc, st00] at h), fun k cs h => (by cases h), fun t u h => (by cases h), fun a b u h => (by cases h), fun t h => (by cases h), h1, h2, fun k cs h => ⟨h3 k cs h, fun l hl => (by simp [tloc, st00] at hl), rfl⟩⟩
theorem ext_zero {r : Rn} : Ext (Rn.zero r.fo r.fr) r := ⟨Nat.zero_le _, Nat.zero_le _, fun l hl => absurd hl (Nat.not_lt_zero _), fun t ht => absurd ht (Nat.not_lt_zero _), fun k cs h => (by cases h), rfl, rfl⟩
theorem any_list {r : Rn} : ∀ {qs : List PV} {n : Nat}, qs.length = n → VRs X r (List.replicate n .any) qs
  | [], n, h => by subst h; exact .nil
  | q :: qs, n, h => by subst h; exact .any (any_list rfl)
/-- What a call that is given a pointer leaves behind. -/
def EntryOkL (X : TX) (g : FuncId) (e : Entry X.A) : Prop := ∀ (v : dens X.A (sds e.ins)) (w : dens X.A (sds e.outs)), e.F v = some w → ∀ (R : Rn) (sv : St) (args' : List PV), SRel X R (stS X e.ins v).2 sv → VRs X R (stS X e.ins v).1 args' →
  ∃ R3 q0 qs sv', SRel X R3 (stS X e.outs w).2 sv' ∧ VRs X R3 (stS X e.outs w).1 (q0 :: qs) ∧ args'.head? = some q0 ∧ R3.fr = R.fr ∧ R3.fo = R.fo ∧ (∀ k cs, R.fz k = some cs → R3.fz k = some cs) ∧ ∃ k0, ∀ k, k0 ≤ k → callBy X.C (evCall X.C k) ⟨0, none⟩ g args' sv = some (oneP qs, sv')
end ren
section graft
variable {X : TX} {r : Rn} {st : TS X.A} {sv : St}
theorem extr_of {s : List (Get × Ds)} {tm1 : List (TV X.A)} {st1 : TS X.A} {v : dens X.A (sds s)} {A : XA} {n : Nat} (h : extL X tm1 st1 0 s ⟨[], [], []⟩ = some (v, A)) (h1 : A.fz.all (fun k => !A.bl.contains (some k)) = true) (h2 : (A.bl.length == news s) = true) : extr X ⟨s, []⟩ (List.replicate n .any) st00 tm1 st1 = some v := by
  unfold extr
  have h' : extL X tm1 st1 (st00 : TS X.A).locs.length (Shape.mk s []).srcs ⟨[], [], []⟩ = some (v, A) := h
  rw [h']
  have e : (liveH X ⟨s, []⟩ (List.replicate n .any) (st00 : TS X.A)) = [] := by
    unfold liveH
    rfl
  simp only [e, List.all_nil, h1, h2, Bool.and_true, Bool.true_and]
  rw [if_pos]
  rw [List.all_eq_true]
  intro l _
  rw [Bool.or_eq_true]
  left
  simp [st00]
theorem kill_get : ∀ {ks : List Nat} {ls : List (Option (TL X.A))} {m : Nat}, ((killL ks ls)[m]?).join = if m ∈ ks then none else (ls[m]?).join
  | [], ls, m => by simp [killL]
  | k :: ks, ls, m => by
    have : killL (k :: ks) ls = killL ks (ls.set k none) := rfl
    rw [this, kill_get]
    by_cases h1 : m ∈ ks
    · rw [if_pos h1, if_pos (List.mem_cons_of_mem _ h1)]
    · rw [if_neg h1]
      by_cases h2 : k = m
      · subst h2
        rw [if_pos (List.mem_cons_self ..), List.getElem?_set_self']
        cases ls[k]? <;> rfl
      · rw [if_neg (by simp only [List.mem_cons, not_or]; exact ⟨fun e => h2 e.symm, h1⟩), List.getElem?_set_ne h2]
theorem kill_len : ∀ {ks : List Nat} {ls : List (Option (TL X.A))}, (killL ks ls).length = ls.length
  | [], ls => rfl
  | k :: ks, ls => by
    have : killL (k :: ks) ls = killL ks (ls.set k none) := rfl
    rw [this, kill_len, List.length_set]
open Classical in
/-- What of the caller's is framed. -/
noncomputable def frameOf (r : Rn) (st : TS X.A) (sv : St) (A : XA) (k : Nat) : Option (List PV) :=
  if ∃ m, (tloc st m).isSome = true ∧ ¬ some m ∈ A.bl ∧ ¬ m ∈ A.fz ∧ r.lo m = some (some k) then locAt sv k else r.fr k
def othersOf (r : Rn) (st : TS X.A) (A : XA) (u : Nat) : Prop := r.fo u ∨ ∃ t ∈ st.live, ¬ some t ∈ A.bt ∧ r.to t = some u
theorem frOk_clean {A : XA} (hf : frOk X st A = true) {m : Nat} {c : TL X.A} (hm : tloc st m = some c) (hb : ¬ some m ∈ A.bl) (hz : ¬ m ∈ A.fz) : ∀ ds, c = .cells ds → ds.all anyNof = true := by
  rintro ds rfl
  unfold frOk at hf
  rw [List.all_eq_true] at hf
  have := hf m (List.mem_range.2 (tloc_lt hm))
  rw [hm] at this
  simp only [Bool.or_eq_true, List.contains_iff_mem] at this
  rcases this with (h4 | h4) | h4
  · exact absurd h4 hb
  · exact absurd h4 hz
  · exact h4
/-- The caller's state, behind the call. -/
def stAft (n l T : Nat) (st : TS X.A) (A : XA) (c : TL X.A) (cs : List (Option (TL X.A))) (live : List Nat) (next : Nat) : TS X.A :=
  ⟨(killL (blL A ++ A.fz) st.locs).set l (some (renL (muL n l) T c)) ++ cs.map (renO (muL n l) T), live.map (T + ·) ++ st.live.filter (fun t => !A.bt.contains (some t)), T + next, blL A ++ A.fz ++ st.wrote⟩
def rnAft (r R3 : Rn) (n T len : Nat) : Rn := ⟨fun m => if m < n then r.lo m else R3.lo (m - n + 1), fun t => if t < T then r.to t else R3.to (t - T), R3.fz, n + (len - 1), T + R3.nt, r.fo, r.fr⟩
theorem mem_blL {A : XA} {m : Nat} : m ∈ blL A ↔ some m ∈ A.bl := by
  unfold blL
  rw [List.mem_filterMap]
  exact ⟨fun ⟨x, h1, h2⟩ => by cases x with | none => cases h2 | some y => simp only [id, Option.some.injEq] at h2; subst h2; exact h1, fun h => ⟨some m, h, rfl⟩⟩
theorem graft (hX : XOk X) (h : SRel X r st sv) {A : XA} {l k0 : Nat} {R3 : Rn} {sO : TS X.A} {sv' : St} {c : TL X.A} {cs : List (Option (TL X.A))}
    (hb0 : A.bl[0]? = some (some l)) (hl0 : (tloc st l).isSome = true) (hl : r.lo l = some (some k0)) (hf : frOk X st A = true) (hs3 : SRel X R3 sO sv') (hlocs : sO.locs = some c :: cs) (h30 : R3.lo 0 = some (some k0))
    (e1 : R3.fr = frameOf r st sv A) (e2 : R3.fo = othersOf r st A) (e3 : ∀ k cs, r.fz k = some cs → R3.fz k = some cs) :
    Ext r (rnAft r R3 st.locs.length st.next sO.locs.length) ∧ SRel X (rnAft r R3 st.locs.length st.next sO.locs.length) (stAft st.locs.length l st.next st A c cs sO.live sO.next) sv' ∧ TFr st (stAft st.locs.length l st.next st A c cs sO.live sO.next) ∧
      ∀ ps qs, VRs X R3 ps qs → VRs X (rnAft r R3 st.locs.length st.next sO.locs.length) (rens (muL st.locs.length l) st.next ps) qs := by
  obtain ⟨c0, hc0⟩ := Option.isSome_iff_exists.1 hl0
  have hln : l < st.locs.length := tloc_lt hc0
  have hlb : l ∈ blL A := mem_blL.2 (List.mem_of_getElem? hb0)
  obtain ⟨r2, hr2⟩ : ∃ r2, r2 = rnAft r R3 st.locs.length st.next sO.locs.length := ⟨_, rfl⟩
  obtain ⟨s3, hst3⟩ : ∃ s3, s3 = stAft st.locs.length l st.next st A c cs sO.live sO.next := ⟨_, rfl⟩
  rw [← hr2, ← hst3]
  have lo1 : ∀ m, m < st.locs.length → r2.lo m = r.lo m := fun m hm => by rw [hr2]; show (if m < st.locs.length then r.lo m else _) = _; rw [if_pos hm]
  have lo2 : ∀ j, r2.lo (st.locs.length + j) = R3.lo (j + 1) := fun j => by
    rw [hr2]; show (if st.locs.length + j < st.locs.length then _ else R3.lo (st.locs.length + j - st.locs.length + 1)) = _
    rw [if_neg (by omega), show st.locs.length + j - st.locs.length + 1 = j + 1 by omega]
  have to1 : ∀ t, t < st.next → r2.to t = r.to t := fun t ht => by rw [hr2]; show (if t < st.next then r.to t else _) = _; rw [if_pos ht]
  have to2 : ∀ t, r2.to (st.next + t) = R3.to t := fun t => by
    rw [hr2]; show (if st.next + t < st.next then _ else R3.to (st.next + t - st.next)) = _
    rw [if_neg (by omega), show st.next + t - st.next = t by omega]
  have rfz : r2.fz = R3.fz := by rw [hr2]; rfl
  have rfo : r2.fo = r.fo := by rw [hr2]; rfl
  have rfr : r2.fr = r.fr := by rw [hr2]; rfl
  have rnt : r2.nt = st.next + R3.nt := by rw [hr2]; rfl
  have rnl : r2.nl = st.locs.length + cs.length := by rw [hr2]; show st.locs.length + (sO.locs.length - 1) = _; rw [hlocs]; rfl
  have hE : Ext r r2 := ⟨by rw [rnl, h.nl]; omega, by rw [rnt, h.nt]; omega, fun m hm => lo1 m (by rw [← h.nl]; exact hm), fun t ht => to1 t (by rw [← h.nt]; exact ht), fun k ds hk => by rw [rfz]; exact e3 k ds hk, rfo, rfr⟩
  have mlo : ∀ j x, R3.lo j = some x → r2.lo (muL st.locs.length l j) = some x := fun j x hx => by
    cases j with
    | zero => show r2.lo l = _; rw [lo1 l hln, hl, ← h30]; exact hx
    | succ j => show r2.lo (st.locs.length + j) = _; rw [lo2]; exact hx
  have mto : ∀ t u, R3.to t = some u → r2.to (st.next + t) = some u := fun t u hu => by rw [to2]; exact hu
  have hren : ∀ ps qs, VRs X R3 ps qs → VRs X r2 (rens (muL st.locs.length l) st.next ps) qs := fun ps qs hv => hv.ren hX mlo mto (by rw [rnt]; exact Nat.le_refl _) (fun k ds hk => by rw [rfz]; exact hk)
  have hrenL : ∀ d ds, LocR X R3 d ds → LocR X r2 (renL (muL st.locs.length l) st.next d) ds := fun d ds hd => hd.ren hX mlo mto (by rw [rnt]; exact Nat.le_refl _) (fun k ds hk => by rw [rfz]; exact hk)
  have l3 : s3.locs = (killL (blL A ++ A.fz) st.locs).set l (some (renL (muL st.locs.length l) st.next c)) ++ cs.map (renO (muL st.locs.length l) st.next) := by rw [hst3]; rfl
  have l3n : ((killL (blL A ++ A.fz) st.locs).set l (some (renL (muL st.locs.length l) st.next c))).length = st.locs.length := by rw [List.length_set, kill_len]
  have t0 : tloc sO 0 = some c := by unfold tloc; rw [hlocs]; rfl
  have tl : ∀ m d, tloc s3 m = some d → (m = l ∧ d = renL (muL st.locs.length l) st.next c) ∨ (m < st.locs.length ∧ m ≠ l ∧ ¬ some m ∈ A.bl ∧ ¬ m ∈ A.fz ∧ tloc st m = some d) ∨ (∃ j d0, m = st.locs.length + j ∧ tloc sO (j + 1) = some d0 ∧ d = renL (muL st.locs.length l) st.next d0) := fun m d hd => by
    unfold tloc at hd
    rw [l3] at hd
    rcases Nat.lt_or_ge m st.locs.length with hm | hm
    · rw [List.getElem?_append_left (by rw [l3n]; exact hm)] at hd
      by_cases hml : m = l
      · subst hml
        rw [List.getElem?_set_self (by rw [kill_len]; exact hm)] at hd
        simp only [Option.join_some, Option.some.injEq] at hd
        exact .inl ⟨rfl, hd.symm⟩
      · rw [List.getElem?_set_ne (fun e => hml e.symm), kill_get] at hd
        split at hd
        · cases hd
        · rename_i hk
          rw [List.mem_append, not_or] at hk
          exact .inr (.inl ⟨hm, hml, fun hb => hk.1 (mem_blL.2 hb), hk.2, hd⟩)
    · rw [List.getElem?_append_right (by rw [l3n]; exact hm), l3n, List.getElem?_map] at hd
      refine .inr (.inr ⟨m - st.locs.length, ?_⟩)
      cases hq : cs[m - st.locs.length]? with
      | none => rw [hq] at hd; cases hd
      | some o =>
        rw [hq] at hd
        cases o with
        | none => cases hd
        | some d0 =>
          simp only [Option.map_some, renO, Option.join_some, Option.some.injEq] at hd
          exact ⟨d0, by omega, by unfold tloc; rw [hlocs, List.getElem?_cons_succ, hq]; rfl, hd.symm⟩
  -- what is live and elsewhere is framed
  have hframe : ∀ m k, (tloc st m).isSome = true → ¬ some m ∈ A.bl → ¬ m ∈ A.fz → r.lo m = some (some k) → R3.fr k = locAt sv k := fun m k h1 h2 h3 h4 => by
    rw [e1]; unfold frameOf; rw [if_pos ⟨m, h1, h2, h3, h4⟩]
  have hframe2 : ∀ m k, (tloc st m).isSome = true → ¬ some m ∈ A.bl → ¬ m ∈ A.fz → r.lo m = some (some k) → ∃ ds, R3.fr k = some ds := fun m k h1 h2 h3 h4 => by
    obtain ⟨d, hd⟩ := Option.isSome_iff_exists.1 h1
    rcases h.loc m d hd with ⟨k', cs', g1, g2, _⟩ | ⟨g1, _⟩
    · rw [h4] at g1
      simp only [Option.some.injEq] at g1
      subst g1
      exact ⟨cs', (hframe m k h1 h2 h3 h4).trans g2⟩
    · rw [h4] at g1; cases g1
  -- where a live location of the new state comes from
  have from3 : ∀ m k, (tloc s3 m).isSome = true → r2.lo m = some (some k) → (∃ j, (tloc sO j).isSome = true ∧ R3.lo j = some (some k) ∧ m = muL st.locs.length l j) ∨ (m < st.locs.length ∧ m ≠ l ∧ (tloc st m).isSome = true ∧ r.lo m = some (some k) ∧ ∃ ds, R3.fr k = some ds) := fun m k hm hk => by
    obtain ⟨d, hd⟩ := Option.isSome_iff_exists.1 hm
    rcases tl m d hd with ⟨rfl, _⟩ | ⟨g1, g2, g3, g4, g5⟩ | ⟨j, d0, rfl, g2, _⟩
    · refine .inl ⟨0, by rw [t0]; rfl, ?_, rfl⟩
      rw [lo1 m hln, hl] at hk
      rw [h30]; exact hk
    · rw [lo1 m g1] at hk
      have g6 : (tloc st m).isSome = true := by rw [g5]; rfl
      exact .inr ⟨g1, g2, g6, hk, hframe2 m k g6 g3 g4 hk⟩
    · exact .inl ⟨j + 1, by rw [g2]; rfl, by rw [lo2] at hk; exact hk, rfl⟩
  have nofr : ∀ k ds, r.fr k = some ds → R3.fr k = some ds := fun k ds hk => by
    rw [e1]; unfold frameOf
    rw [if_neg]
    · exact hk
    · rintro ⟨m, g1, _, _, g4⟩
      exact (h.fr k ds hk).2.1 m g1 g4
  have hS : SRel X r2 s3 sv' := by
    refine ⟨⟨fun m x hx => ?_, fun t u hu => ?_⟩, ?_, ?_, fun m d hd => ?_, fun a b k ia ib ha hb => ?_, fun k ds hk => ?_, fun t u ht hu => ?_, fun a b u ha hb hau hbu => ?_, fun t ht => ?_, fun u hu => ?_, hs3.vlt, fun k ds hk => ?_⟩
    · rw [rnl]
      rcases Nat.lt_or_ge m st.locs.length with hm | hm
      · omega
      · obtain ⟨j, rfl⟩ : ∃ j, m = st.locs.length + j := ⟨m - st.locs.length, by omega⟩
        rw [lo2] at hx
        have := hs3.wf.lo _ _ hx
        rw [hs3.nl, hlocs] at this
        simp at this
        omega
    · rw [rnt]
      rcases Nat.lt_or_ge t st.next with hm | hm
      · omega
      · obtain ⟨j, rfl⟩ : ∃ j, t = st.next + j := ⟨t - st.next, by omega⟩
        rw [to2] at hu
        have := hs3.wf.to _ _ hu
        omega
    · rw [rnl, l3, List.length_append, l3n, List.length_map]
    · rw [rnt, hs3.nt, hst3]; rfl
    · rcases tl m d hd with ⟨rfl, rfl⟩ | ⟨g1, g2, g3, g4, g5⟩ | ⟨j, d0, rfl, g2, rfl⟩
      · rcases hs3.loc 0 c t0 with ⟨k, cs', f1, f2, f3⟩ | ⟨f1, _⟩
        · rw [h30] at f1
          simp only [Option.some.injEq] at f1
          subst f1
          exact .inl ⟨k0, cs', by rw [lo1 m hln]; exact hl, f2, hrenL _ _ f3⟩
        · rw [h30] at f1; cases f1
      · rcases h.loc m d g5 with ⟨k, cs', f1, f2, f3⟩ | ⟨f1, f2⟩
        · have f4 := hframe m k (by rw [g5]; rfl) g3 g4 f1
          rw [f2] at f4
          have f5 := f3.mono h.wf hE
          rcases (hs3.fr k cs' f4).1 with f6 | f6
          · exact .inl ⟨k, cs', by rw [lo1 m g1]; exact f1, f6, f5⟩
          · exact .inl ⟨k, _, by rw [lo1 m g1]; exact f1, f6, f5.clean hX (frOk_clean hf g5 g3 g4)⟩
        · exact .inr ⟨by rw [lo1 m g1]; exact f1, f2⟩
      · rcases hs3.loc (j + 1) d0 g2 with ⟨k, cs', f1, f2, f3⟩ | ⟨f1, t, n, f2, rfl⟩
        · exact .inl ⟨k, cs', by rw [lo2]; exact f1, f2, hrenL _ _ f3⟩
        · exact .inr ⟨by rw [lo2]; exact f1, t, n, f2, rfl⟩
    · rcases from3 a k ia ha with ⟨i, i1, i2, rfl⟩ | ⟨a1, a2, a3, a4, ds, a5⟩ <;> rcases from3 b k ib hb with ⟨j, j1, j2, rfl⟩ | ⟨b1, b2, b3, b4, ds', b5⟩
      · rw [hs3.inj i j k i1 j1 i2 j2]
      · exact absurd i2 ((hs3.fr k _ b5).2.1 i i1)
      · exact absurd j2 ((hs3.fr k _ a5).2.1 j j1)
      · exact h.inj a b k a3 b3 a4 b4
    · rw [rfz] at hk
      obtain ⟨f1, f2, f3⟩ := hs3.fz k ds hk
      refine ⟨f1, fun m hm hmk => ?_, f3⟩
      rcases from3 m k hm hmk with ⟨i, i1, i2, rfl⟩ | ⟨_, _, _, _, ds', a5⟩
      · exact f2 i i1 i2
      · have := (hs3.fr k _ a5).2.2
        rw [hk] at this; cases this
    · have ht : t ∈ sO.live.map (st.next + ·) ++ st.live.filter (fun t => !A.bt.contains (some t)) := by rw [hst3] at ht; exact ht
      rw [rfo]
      rcases List.mem_append.1 ht with g | g
      · obtain ⟨t', g1, rfl⟩ := List.mem_map.1 g
        rw [to2] at hu
        obtain ⟨g2, g3⟩ := hs3.live t' u g1 hu
        exact ⟨g2, fun hh => g3 (by rw [e2]; exact .inl hh)⟩
      · obtain ⟨g1, g2⟩ := List.mem_filter.1 g
        rw [to1 t (h.lt t g1)] at hu
        exact ⟨hs3.fo u (by rw [e2]; exact .inr ⟨t, g1, by simpa using g2, hu⟩), (h.live t u g1 hu).2⟩
    · have key : ∀ t u, t ∈ s3.live → r2.to t = some u → (∃ j, t = st.next + j ∧ j ∈ sO.live ∧ R3.to j = some u) ∨ (t ∈ st.live ∧ r.to t = some u ∧ R3.fo u) := fun t u ht hu => by
        have ht : t ∈ sO.live.map (st.next + ·) ++ st.live.filter (fun t => !A.bt.contains (some t)) := by rw [hst3] at ht; exact ht
        rcases List.mem_append.1 ht with g | g
        · obtain ⟨t', g1, rfl⟩ := List.mem_map.1 g
          rw [to2] at hu
          exact .inl ⟨t', rfl, g1, hu⟩
        · obtain ⟨g1, g2⟩ := List.mem_filter.1 g
          rw [to1 t (h.lt t g1)] at hu
          exact .inr ⟨g1, hu, by rw [e2]; exact .inr ⟨t, g1, by simpa using g2, hu⟩⟩
      rcases key a u ha hau with ⟨i, rfl, i1, i2⟩ | ⟨i1, i2, i3⟩ <;> rcases key b u hb hbu with ⟨j, rfl, j1, j2⟩ | ⟨j1, j2, j3⟩
      · rw [hs3.tinj i j u i1 j1 i2 j2]
      · exact absurd j3 (hs3.live i u i1 i2).2
      · exact absurd i3 (hs3.live j u j1 j2).2
      · exact h.tinj a b u i1 j1 i2 j2
    · have ht : t ∈ sO.live.map (st.next + ·) ++ st.live.filter (fun t => !A.bt.contains (some t)) := by rw [hst3] at ht; exact ht
      have hn : s3.next = st.next + sO.next := by rw [hst3]; rfl
      rw [hn]
      rcases List.mem_append.1 ht with g | g
      · obtain ⟨t', g1, rfl⟩ := List.mem_map.1 g
        have := hs3.lt t' g1
        show st.next + t' < _
        omega
      · have := h.lt t (List.mem_filter.1 g).1
        omega
    · rw [rfo] at hu
      exact hs3.fo u (by rw [e2]; exact .inl hu)
    · rw [rfr] at hk
      have f1 := nofr k ds hk
      obtain ⟨f2, f3, f4⟩ := hs3.fr k ds f1
      refine ⟨f2, fun m hm hmk => ?_, by rw [rfz]; exact f4⟩
      rcases from3 m k hm hmk with ⟨i, i1, i2, rfl⟩ | ⟨_, _, a3, a4, _⟩
      · exact f3 i i1 i2
      · exact (h.fr k ds hk).2.1 m a3 a4
  refine ⟨hE, hS, ⟨?_, ?_, fun m hm => ?_, fun m hm hw => ?_, fun u hu hlt => ?_⟩, hren⟩
  · rw [l3, List.length_append, l3n]; omega
  · rw [hst3]; show st.next ≤ st.next + sO.next; omega
  · rw [hst3]; show m ∈ blL A ++ A.fz ++ st.wrote; exact List.mem_append_right _ hm
  · have hw : m ∉ blL A ++ A.fz ++ st.wrote := by rw [hst3] at hw; exact hw
    rw [List.mem_append, not_or] at hw
    unfold tloc
    rw [l3, List.getElem?_append_left (by rw [l3n]; exact hm), List.getElem?_set_ne (fun e => hw.1 (by rw [← e]; exact List.mem_append_left _ hlb)), kill_get, if_neg hw.1]
  · have hu : u ∈ sO.live.map (st.next + ·) ++ st.live.filter (fun t => !A.bt.contains (some t)) := by rw [hst3] at hu; exact hu
    rcases List.mem_append.1 hu with g | g
    · obtain ⟨t', _, rfl⟩ := List.mem_map.1 g
      exact absurd hlt (by show ¬ (st.next + t' < st.next); omega)
    · exact (List.mem_filter.1 g).1
end graft
end Go.Proofs.YtlkaoiceehlkmaaTE

namespace Go.Proofs.YtlkaoiceehlkmaaTE
open Go Go.Proofs.YtlkaoiceehlkmaaVE
set_option linter.unusedVariables false
set_option linter.unusedSimpArgs false

section tryl
variable {X : TX} {α : Type} {z : α} {r : Rn} {s : TS X.A} {v : St}
/-- A state of its own, with all others framed. -/
theorem narrow {A : XA} {R : Rn} {s1 : TS X.A} (hs : SRel X r s v) (hg : XG X s 0 A) (hR : R = Rj (Rn.zero r.fo r.fr) r v 0 0 A) (h1 : SRel X R s1 v)
    (back : ∀ l k, (tloc s1 l).isSome = true → R.lo l = some (some k) → ∃ m, r.lo m = some (some k) ∧ (tloc s m).isSome = true ∧ A.bl[l]? = some (some m)) :
    SRel X { R with fr := frameOf r s v A, fo := othersOf r s A } s1 v := by
  have rto : ∀ t u, R.to t = some u → ∃ w, A.bt[t]? = some (some w) ∧ r.to w = some u := fun t u hu => by
    rw [hR] at hu
    have hu : (if t < 0 then none else match A.bt[t - 0]? with
      | some (some u) => r.to u
      | _ => none) = some u := hu
    rw [if_neg (Nat.not_lt_zero _), Nat.sub_zero] at hu
    split at hu
    · rename_i w hw; exact ⟨w, hw, hu⟩
    · cases hu
  refine ⟨⟨h1.wf.lo, h1.wf.to⟩, h1.nl, h1.nt, fun l c hc => ?_, h1.inj, h1.fz, fun t u ht hu => ?_, h1.tinj, h1.lt, fun u hu => ?_, h1.vlt, fun k cs hk => ?_⟩
  · rcases h1.loc l c hc with ⟨k, cs', f1, f2, f3⟩ | f1
    · exact .inl ⟨k, cs', f1, f2, f3.others⟩
    · exact .inr f1
  · have hu : R.to t = some u := hu
    refine ⟨(h1.live t u ht hu).1, ?_⟩
    obtain ⟨w, hw, hwu⟩ := rto t u hu
    have hwl := hg.live t w hw
    rintro (hfo | ⟨t', i1, i2, i3⟩)
    · exact (hs.live w u hwl hwu).2 hfo
    · have := hs.tinj t' w u i1 hwl i3 hwu
      subst this
      exact i2 (List.mem_of_getElem? hw)
  · rcases hu with hfo | ⟨t', i1, i2, i3⟩
    · exact hs.fo u hfo
    · exact (hs.live t' u i1 i3).1
  · have hk : frameOf r s v A k = some cs := hk
    unfold frameOf at hk
    have nofz : ∀ m, (tloc s m).isSome = true → ¬ m ∈ A.fz → r.lo m = some (some k) → R.fz k = none := fun m g1 g2 g3 => by
      rw [hR]
      show (match r.fz k with
        | some cs => some cs
        | none => if ∃ l, l ∈ A.fz ∧ r.lo l = some (some k) then locAt v k else none) = none
      cases hz : r.fz k with
      | some ds => exact absurd g3 ((hs.fz k ds hz).2.1 m g1)
      | none =>
        simp only
        rw [if_neg]
        rintro ⟨l, hl, hlk⟩
        obtain ⟨_, cs0, t, n, x, z2, _, _⟩ := hg.fz l hl
        have := hs.inj m l k g1 (by rw [z2]; rfl) g3 hlk
        subst this
        exact g2 hl
    split at hk
    · rename_i hex
      obtain ⟨m, g1, g2, g3, g4⟩ := hex
      refine ⟨.inl hk, fun l hl hlk => ?_, nofz m g1 g3 g4⟩
      obtain ⟨m', i1, i2, i3⟩ := back l k hl hlk
      have := hs.inj m m' k g1 i2 g4 i1
      subst this
      exact g2 (List.mem_of_getElem? i3)
    · have hfr : R.fr k = some cs := by rw [hR]; exact hk
      exact h1.fr k cs hfr
theorem tryL_ok (hX : XOk X) {g : FuncId} (hs : SRel X r s v) {args : List (TV X.A)} {args' : List PV} (ha : VRs X r args args') {K : TV X.A → TS X.A → Option α} {e : Entry X.A} (he : EntryOkL X g e) (h : tryL X args s K e = some z) :
    StepR X r s v K z false (fun k => callBy X.C (evCall X.C k) ⟨0, none⟩ g args' v) := by
  unfold tryL at h
  split at h
  · rename_i l rest
    obtain ⟨hn, h⟩ := dK_some h
    simp only [Bool.and_eq_true, beq_iff_eq, entOk] at hn
    obtain ⟨hlen, hoi, hoo⟩ := hn
    split at h
    · rename_i x A hx
      obtain ⟨hc, h⟩ := dK_some h
      rw [Bool.and_eq_true, Bool.and_eq_true, Bool.and_eq_true, Bool.and_eq_true] at hc
      obtain ⟨⟨⟨⟨hl0, c1⟩, c2⟩, c3⟩, c4⟩ := hc
      simp only [beq_iff_eq] at c1
      obtain ⟨w, hw, h⟩ := oK_some h
      have h : (match (stS X e.outs w).1, (stS X e.outs w).2.locs with
        | .ptr 0 0 :: ps, some c :: cs => K (one (rens (muL s.locs.length l) s.next ps)) (stAft s.locs.length l s.next s A c cs (stS X e.outs w).2.live (stS X e.outs w).2.next)
        | _, _ => none) = some z := h
      have hxr := extr_of (n := nTmp e.ins) hx c2 c3
      have hal : args'.length = nTmp e.ins := by rw [← ha.length]; exact hlen
      obtain ⟨A', R, ⟨hx', hR, hg, back⟩, hE, hSR, hVR, _⟩ := coerceA (X := X) (r0 := Rn.zero r.fo r.fr) (r1 := r) (st0 := st00) (st1 := s) (sv0 := v) (sv1 := v) (tm0 := List.replicate (nTmp e.ins) .any) (tm1 := .ptr l 0 :: rest) (tm0' := args') (tm1' := args') (sh := ⟨e.ins, []⟩) (ts := []) (v := x) hX
        (srel_zero hs.fo hs.vlt fun k cs hk => (hs.fr k cs hk).1) (any_list hal) ext_zero hs ha (fun l hl => absurd hl (Nat.not_lt_zero _)) (Same.refl _ _) (fun t ht => by cases ht) hoi hxr
      have hAA : A' = A := by
        have h1 : extL X (.ptr l 0 :: rest) s 0 e.ins ⟨[], [], []⟩ = some (x, A') := hx'
        rw [hx] at h1
        simp only [Option.some.injEq, Prod.mk.injEq] at h1
        exact h1.2.symm
      subst hAA
      have hg : XG X s 0 A' := hg
      have back' : ∀ l k, (tloc (stS X e.ins x).2 l).isSome = true → R.lo l = some (some k) → ∃ m, r.lo m = some (some k) ∧ (tloc s m).isSome = true ∧ A'.bl[l]? = some (some m) := fun l k h1 h2 => by
        obtain ⟨m, m1, m2, m3⟩ := back l k h1 h2
        refine ⟨m, m1, m2, ?_⟩
        rcases m3 with ⟨m3, _⟩ | ⟨_, m4⟩
        · exact absurd m3 (Nat.not_lt_zero _)
        · exact m4
      have hN := narrow hs hg hR hSR back'
      obtain ⟨R3, q0, qs, sv', f1, f2, f3, f4, f5, f6, k0, f7⟩ := he x w hw _ v args' hN (hVR.others)
      obtain ⟨q, qs2, rfl, a1, a2⟩ := VRs.cons_iff.1 ha
      simp only [List.head?_cons, Option.some.injEq] at f3
      subst f3
      cases a1 with
      | @ptr _ k1 _ _ _ a1 _ =>
        split at h
        · rename_i ps c cs htm hlocs
          rw [htm] at f2
          obtain ⟨b1, b2⟩ : R3.lo 0 = some (some k1) ∧ VRs X R3 ps qs := by
            cases f2 with | ptr b1 b2 => exact ⟨b1, b2⟩
          have hfz : ∀ k cs, r.fz k = some cs → R3.fz k = some cs := fun k cs hk => f6 k cs (by rw [hR]; exact Rj.fzk (r0 := Rn.zero r.fo r.fr) (n0 := 0) (T := 0) hk)
          obtain ⟨g1, g2, g3, g4⟩ := graft hX hs c1 hl0 a1 c4 f1 hlocs b1 f4 f5 hfz
          exact ⟨_, _, _, oneP qs, sv', h, g1, (g4 ps qs b2).one, g2, g3, fun hh => (by cases hh), k0, f7⟩
        · cases h
    · cases h
  · cases h
end tryl
end Go.Proofs.YtlkaoiceehlkmaaTE
