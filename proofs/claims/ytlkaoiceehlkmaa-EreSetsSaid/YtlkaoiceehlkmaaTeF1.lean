import Derived.Test.YtlkaoiceehlkmaaTeB1
import Derived.WideShapes
import Derived.Laws.StructEq
namespace Go.Proofs.YtlkaoiceehlkmaaTE
open Go Go.Proofs.YtlkaoiceehlkmaaVE
set_option linter.unusedVariables false
set_option linter.unusedSimpArgs false

section scal
variable {X : TX} {r : Rn} {s : TS X.A} {v : St} {call : YtlkaoiceehlkmaaVE.Call} {f : FuncId} {wr : Wr} {tm' : List PV} {o : Oper}
theorem nilCmp_v (P : Program) (t : TypeId) (a b : Value) : nilCmp P t (.v a) (.v b) = none := by
  unfold nilCmp
  split <;> simp_all
theorem ev_flat {op : BinOp} {t u : TypeId} {x y : Operand} (ho : o.op = .binOp op t x y u) {p q : PV} {a b : Value} (hx : PV.ev tm' x = p) (hy : PV.ev tm' y = q) (hp : toV p = some a) (hq : toV q = some b) :
    evFlat X.C.P tm' o = match runP X.C.P (execOp (fun z => (toV (PV.ev tm' z)).getD undef) o) with
      | some (.value v) => ofV v
      | _ => none := by
  unfold evFlat
  rw [if_pos (by simp [ho, Op.operands, hx, hy, hp, hq])]
  rfl
theorem exec_bin {op : BinOp} {t u : TypeId} {x y : Operand} (ho : o.op = .binOp op t x y u) {ρ : Operand → Value} : execOp ρ o = (do let w ← (do eqGuard op t x y (ρ x) (ρ y); binOp op t (ρ x) (ρ y)); pure (.value w)) := by
  simp only [execOp, ho]
/-- A comparison or a sum of two plain values. -/
theorem bin_flat {op : BinOp} {t u : TypeId} {x y : Operand} (ho : o.op = .binOp op t x y u) {a b c : Value} (hx : PV.ev tm' x = .v a) (hy : PV.ev tm' y = .v b) (hi : evIntCmp op (.v a) (.v b) = none)
    (hr : runP X.C.P (do eqGuard op t x y a b; binOp op t a b : Sem Value) = some c) (hf : ofV c = some (.v c)) :
    evOp X.C call f wr tm' v o = some (.v c, v) := by
  have h1 := ev_flat (X := X) ho hx hy rfl rfl
  have h2 : runP X.C.P (execOp (fun z => (toV (PV.ev tm' z)).getD undef) o) = some (.value c) := by
    rw [exec_bin ho]
    simp only [hx, hy, toV, Option.getD_some]
    have key : ∀ (m : Sem Value), runP X.C.P m = some c → runP X.C.P (do let w ← m; pure (Next.value w)) = some (.value c) := by
      intro m
      induction m with
      | pure a => intro h; simp only [runP, Option.some.injEq] at h; subst h; rfl
      | program k ih => intro h; simp only [runP] at h; exact ih _ h
      | mark m k ih => intro h; simp only [runP] at h; exact ih h
      | _ => intro h; simp [runP] at h
    exact key _ hr
  simp only [evOp, ho, hx, hy, evNilCmp, hi, nilCmp_v]
  rw [h1, h2]
  simp only [hf]
  rfl
theorem int_ok {α : Type} {K : TV X.A → Option α} {z : α} {op : BinOp} {t u : TypeId} {x y : Operand} (ho : o.op = .binOp op t x y u) {k : IntKind} {m n : Int} (hx : PV.ev tm' x = .v (.int k m)) (hy : PV.ev tm' y = .v (.int k n)) (h : intOp X op k m n K = some z) :
    ∃ p p', K p = some z ∧ evOp X.C call f wr tm' v o = some (p', v) ∧ VR X r p p' := by
  have guard : eqGuard op t x y (.int k m) (.int k n) = pure () := by cases op <;> rfl
  have flat : ∀ c : Value, evIntCmp op (.v (.int k m)) (.v (.int k n)) = none → runP X.C.P (binOp op t (.int k m) (.int k n)) = some c → ofV c = some (.v c) → evOp X.C call f wr tm' v o = some (.v c, v) := fun c h1 h2 h3 =>
    bin_flat ho hx hy h1 (by rw [guard]; exact h2) h3
  have cmp : ∀ q : PV, evIntCmp op (.v (.int k m)) (.v (.int k n)) = some q → evOp X.C call f wr tm' v o = some (q, v) := fun q h1 => by
    simp only [evOp, ho, hx, hy, evNilCmp, h1]
  cases op <;> simp only [intOp] at h
  case add => exact ⟨_, _, h, flat (.int k (k.wrap (m + n))) (by simp [evIntCmp]) (by simp [binOp, Op.intArith]; rfl) rfl, .int .nil⟩
  case sub => exact ⟨_, _, h, flat (.int k (k.wrap (m - n))) (by simp [evIntCmp]) (by simp [binOp, Op.intArith]; rfl) rfl, .int .nil⟩
  case mul => exact ⟨_, _, h, flat (.int k (k.wrap (m * n))) (by simp [evIntCmp]) (by simp [binOp, Op.intArith]; rfl) rfl, .int .nil⟩
  case quo =>
    rcases bK_some h with ⟨_, h⟩ | ⟨h0, h⟩
    · cases h
    · simp only [decide_eq_false_iff_not] at h0
      exact ⟨_, _, h, flat (.int k (k.wrap (m.tdiv n))) (by simp [evIntCmp]) (by simp [binOp, Op.intDiv, h0]; rfl) rfl, .int .nil⟩
  case rem =>
    rcases bK_some h with ⟨_, h⟩ | ⟨h0, h⟩
    · cases h
    · simp only [decide_eq_false_iff_not] at h0
      exact ⟨_, _, h, flat (.int k (m.tmod n)) (by simp [evIntCmp]) (by simp [binOp, Op.intDiv, h0]; rfl) rfl, .int .nil⟩
  case and => exact ⟨_, _, h, flat _ (by simp [evIntCmp]) (by simp [binOp, Op.intBits]; rfl) rfl, .int .nil⟩
  case or => exact ⟨_, _, h, flat _ (by simp [evIntCmp]) (by simp [binOp, Op.intBits]; rfl) rfl, .int .nil⟩
  case xor => exact ⟨_, _, h, flat _ (by simp [evIntCmp]) (by simp [binOp, Op.intBits]; rfl) rfl, .int .nil⟩
  case andNot => exact ⟨_, _, h, flat _ (by simp [evIntCmp]) (by simp [binOp, Op.intBits]; rfl) rfl, .int .nil⟩
  case shl => cases h
  case shr => cases h
  case eql => exact ⟨_, _, h, flat (.bool (decide (m = n))) (by simp [evIntCmp]) (by simp only [binOp, Op.intCmp, ne_eq, not_true_eq_false, if_false]; rfl) rfl, .bool .nil⟩
  case neq => exact ⟨_, _, h, flat (.bool !(decide (m = n))) (by simp [evIntCmp]) (by simp only [binOp, Op.intCmp, ne_eq, not_true_eq_false, if_false]; rfl) rfl, .bool .nil⟩
  case lss => exact ⟨_, _, h, cmp _ (by simp only [evIntCmp, if_true]), .bool .nil⟩
  case geq => exact ⟨_, _, h, cmp _ (by simp only [evIntCmp, if_true]), .bool .nil⟩
  case gtr => exact ⟨_, _, h, cmp _ (by simp only [evIntCmp, if_true]), .bool .nil⟩
  case leq => exact ⟨_, _, h, cmp _ (by simp only [evIntCmp, if_true]), .bool .nil⟩
theorem sh_ok {α : Type} {K : TV X.A → Option α} {z : α} {op : BinOp} {t u : TypeId} {x y : Operand} (ho : o.op = .binOp op t x y u) {k j : IntKind} {m n : Int} (hx : PV.ev tm' x = .v (.int k m)) (hy : PV.ev tm' y = .v (.int j n)) (h : shOp X op k m n K = some z) :
    ∃ p p', K p = some z ∧ evOp X.C call f wr tm' v o = some (p', v) ∧ VR X r p p' := by
  have guard : eqGuard op t x y (.int k m) (.int j n) = pure () := by cases op <;> rfl
  have flat : ∀ c : Value, evIntCmp op (.v (.int k m)) (.v (.int j n)) = none → runP X.C.P (binOp op t (.int k m) (.int j n)) = some c → ofV c = some (.v c) → evOp X.C call f wr tm' v o = some (.v c, v) := fun c h1 h2 h3 =>
    bin_flat ho hx hy h1 (by rw [guard]; exact h2) h3
  cases op <;> simp only [shOp] at h <;> try (cases h; done)
  case shl =>
    rcases bK_some h with ⟨_, h⟩ | ⟨h0, h⟩
    · cases h
    · simp only [decide_eq_false_iff_not] at h0
      exact ⟨_, _, h, flat (.int k (k.wrap (m * 2 ^ (min n.toNat k.bits)))) (by simp [evIntCmp]) (by simp [binOp, Op.shift, h0]; rfl) rfl, .int .nil⟩
  case shr =>
    rcases bK_some h with ⟨_, h⟩ | ⟨h0, h⟩
    · cases h
    · simp only [decide_eq_false_iff_not] at h0
      exact ⟨_, _, h, flat (.int k (m.fdiv (2 ^ (min n.toNat k.bits)))) (by simp [evIntCmp]) (by simp [binOp, Op.shift, h0]; rfl) rfl, .int .nil⟩
theorem str_ok {α : Type} {K : TV X.A → Option α} {z : α} {op : BinOp} {t u : TypeId} {x y : Operand} (ho : o.op = .binOp op t x y u) {a b : List UInt8} (hx : PV.ev tm' x = .v (.string ⟨a.toArray⟩)) (hy : PV.ev tm' y = .v (.string ⟨b.toArray⟩)) (h : strOp X op a b K = some z) :
    ∃ p p', K p = some z ∧ evOp X.C call f wr tm' v o = some (p', v) ∧ VR X r p p' := by
  have guard : eqGuard op t x y (.string ⟨a.toArray⟩) (.string ⟨b.toArray⟩) = pure () := by cases op <;> rfl
  have flat : ∀ c : Value, runP X.C.P (binOp op t (.string ⟨a.toArray⟩) (.string ⟨b.toArray⟩)) = some c → ofV c = some (.v c) → evOp X.C call f wr tm' v o = some (.v c, v) := fun c h2 h3 =>
    bin_flat ho hx hy (by simp [evIntCmp]) (by rw [guard]; exact h2) h3
  have hsa : (⟨a.toArray⟩ : ByteArray).toList = a := by
    rw [ByteArray.toList_eq]
  have hsb : (⟨b.toArray⟩ : ByteArray).toList = b := by
    rw [ByteArray.toList_eq]
  have heq : (a == b) = decide (a = b) := by
    by_cases hab : a = b <;> simp [hab]
  cases op <;> simp only [strOp] at h <;> try (cases h; done)
  case add =>
    obtain ⟨hf, h⟩ := gK_some h
    simp only [fits, Bool.and_eq_true, decide_eq_true_eq] at hf
    refine ⟨_, _, h, flat (.string ⟨(a ++ b).toArray⟩) ?_ rfl, .str .nil⟩
    have hsz : ¬ ((((⟨a.toArray⟩ : ByteArray).size + (⟨b.toArray⟩ : ByteArray).size : Nat) : Int) > IntKind.i64.max) := by
      have e1 : (⟨a.toArray⟩ : ByteArray).size = a.length := by simp [ByteArray.size]
      have e2 : (⟨b.toArray⟩ : ByteArray).size = b.length := by simp [ByteArray.size]
      rw [e1, e2]
      have : IntKind.i64.max = 9223372036854775807 := by decide
      rw [this]
      omega
    have happ : ((⟨a.toArray⟩ : ByteArray) ++ (⟨b.toArray⟩ : ByteArray)) = ⟨(a ++ b).toArray⟩ := by
      apply ByteArray.ext
      simp
    simp only [binOp, Op.stringOp]
    rw [if_neg hsz, happ]
    rfl
  case eql => exact ⟨_, _, h, flat (.bool (decide (a = b))) (by simp only [binOp, Op.stringOp, hsa, hsb, heq]; rfl) rfl, .bool .nil⟩
  case neq => exact ⟨_, _, h, flat (.bool !(decide (a = b))) (by simp only [binOp, Op.stringOp, hsa, hsb, heq]; rfl) rfl, .bool .nil⟩
  case lss => exact ⟨_, _, h, flat (.bool (less a b)) (by simp only [binOp, Op.stringOp, hsa, hsb, heq]; rfl) rfl, .bool .nil⟩
  case leq => exact ⟨_, _, h, flat (.bool (less a b || decide (a = b))) (by simp only [binOp, Op.stringOp, hsa, hsb, heq]; rfl) rfl, .bool .nil⟩
  case gtr => exact ⟨_, _, h, flat (.bool !(less a b || decide (a = b))) (by simp only [binOp, Op.stringOp, hsa, hsb, heq]; rfl) rfl, .bool .nil⟩
  case geq => exact ⟨_, _, h, flat (.bool !(less a b)) (by simp only [binOp, Op.stringOp, hsa, hsb, heq]; rfl) rfl, .bool .nil⟩
theorem runP_bind {P : Program} {α β : Type} : ∀ (m : Sem α) (f : α → Sem β), runP P (m >>= f) = match runP P m with | some a => runP P (f a) | none => none
  | .pure a, f => rfl
  | .program k, f => runP_bind (k P) f
  | .mark _ k, f => runP_bind k f
  | .load .., _ => rfl
  | .store .., _ => rfl
  | .new .., _ => rfl
  | .shape .., _ => rfl
  | .freeze .., _ => rfl
  | .frozen .., _ => rfl
  | .getObj .., _ => rfl
  | .setObj .., _ => rfl
  | .choose .., _ => rfl
  | .sys .., _ => rfl
  | .halt .., _ => rfl
theorem runP_und {P : Program} {t : TypeId} {d : TypeDesc} (h : P.underlying t = some d) : runP P (underlying t) = some d := by
  unfold underlying
  rw [runP_bind]
  show (match (some P : Option Program) with | some p => runP P (match p.underlying t with | some d => pure d | none => stuck "no such type") | none => none) = some d
  simp only [h]
  rfl
/-- Are two plain values one? -/
def valEq : Value → Value → Bool
  | .int _ a, .int _ b => a == b
  | .bool a, .bool b => a == b
  | .string a, .string b => a == b
  | _, _ => false
theorem eq1_ok {kd : Nat} {a b : TV X.A} {q : Bool} {p1 p2 : PV} (h : eq1 X kd a b = some q) (h1 : VR X r a p1) (h2 : VR X r b p2) :
    ∃ x y, p1 = .v x ∧ p2 = .v y ∧ flat x = true ∧ flat y = true ∧ valEq x y = q ∧ ∀ (P : Program) (t : TypeId) (d : Nat), kindOf P t = some kd → runP P (Op.equalIn (d + 1) t x y) = some q := by
  unfold eq1 at h
  split at h
  · split at h
    · split at h
      · rename_i k x j y hk
        subst hk
        simp only [Option.some.injEq] at h
        subst h
        cases h1 with | int _ =>
        cases h2 with | int _ =>
        have he : (x == y) = decide (x = y) := by by_cases hxy : x = y <;> simp [hxy]
        refine ⟨_, _, rfl, rfl, rfl, rfl, he, fun P t d hd => ?_⟩
        unfold kindOf at hd
        split at hd
        · rename_i hu
          rw [Op.equalIn, runP_bind, runP_und hu]
          simp only [if_true]
          rw [← he]; rfl
        · cases hd
        · cases hd
        · cases hd
      · cases h
    · cases h
  · split at h
    · simp only [Option.some.injEq] at h
      subst h
      cases h1 with | bool _ =>
      cases h2 with | bool _ =>
      refine ⟨_, _, rfl, rfl, rfl, rfl, rfl, fun P t d hd => ?_⟩
      unfold kindOf at hd
      split at hd
      · cases hd
      · rename_i hu
        rw [Op.equalIn, runP_bind, runP_und hu]
        rfl
      · cases hd
      · cases hd
    · cases h
  · split at h
    · rename_i x y
      simp only [Option.some.injEq] at h
      subst h
      cases h1 with | str _ =>
      cases h2 with | str _ =>
      have he : ((⟨x.toArray⟩ : ByteArray) == ⟨y.toArray⟩) = decide (x = y) := by
        rw [beq_toListBytes, ByteArray.toList_eq, ByteArray.toList_eq]
        by_cases hxy : x = y <;> simp [hxy]
      refine ⟨_, _, rfl, rfl, rfl, rfl, he, fun P t d hd => ?_⟩
      unfold kindOf at hd
      split at hd
      · cases hd
      · cases hd
      · rename_i hu
        rw [Op.equalIn, runP_bind, runP_und hu]
        show some ((⟨x.toArray⟩ : ByteArray) == ⟨y.toArray⟩) = _
        rw [he]
      · cases hd
    · cases h
  · cases h
theorem runP_ite {P : Program} {α : Type} {c : Prop} [Decidable c] (a b : Sem α) : runP P (if c then a else b) = if c then runP P a else runP P b := by split <;> rfl
theorem runP_pure {P : Program} {α : Type} (a : α) : runP P (pure a : Sem α) = some a := rfl
theorem runP_program {P : Program} : runP P program = some P := rfl
theorem runP_eq_struct {P : Program} (d : Nat) (t : TypeId) (xs ys : Array Value) {fs : Array Field} (ht : P.underlying t = some (.struct fs)) (hp : P.stoodInHeld t = false) :
    runP P (Op.equalIn (d + 1) t (.agg xs) (.agg ys)) = runP P (Op.eqFields d xs ys fs.toList) := by
  simp only [Op.equalIn, runP_bind, runP_und ht, runP_program, hp, Bool.false_eq_true, if_false]
  rw [← Array.forIn_toList]
  generalize fs.toList = fs
  clear ht
  induction fs with
  | nil => simp [Op.eqFields, runP_pure, List.forIn_nil]
  | cons f fs ih =>
    simp only [List.forIn_cons, Op.eqFields, runP_bind, runP_ite]
    by_cases hn : f.name ≠ "_"
    · simp only [if_pos hn]
      generalize runP P (part f.type xs f.offset) = r1
      cases r1 with
      | none => rfl
      | some a =>
        simp only
        generalize runP P (part f.type ys f.offset) = r2
        cases r2 with
        | none => rfl
        | some b =>
          simp only
          generalize runP P (Op.equalIn d f.type a b) = r3
          cases r3 with
          | none => rfl
          | some r =>
            cases r
            · rfl
            · exact ih
    · simp only [if_neg hn]
      exact ih
theorem runP_eq_elems {P : Program} (d : Nat) (e : TypeId) (xs ys : Array Value) : ∀ (n k : Nat), runP P (do
      for i in List.range' k n 1 do
        if !(← Op.equalIn d e (← part e xs (i * 1)) (← part e ys (i * 1))) then return false
      pure true) = runP P (Op.eqFields d xs ys (arrFields e k n))
  | 0, k => rfl
  | n + 1, k => by
    have ih := runP_eq_elems (P := P) d e xs ys n (k + 1)
    simp only [List.range'_succ, List.forIn_cons, arrFields, Op.eqFields, runP_bind, runP_ite, Nat.mul_one] at ih ⊢
    rw [if_pos (by decide)]
    generalize runP P (part e xs k) = r1
    cases r1 with
    | none => rfl
    | some a =>
      simp only
      generalize runP P (part e ys k) = r2
      cases r2 with
      | none => rfl
      | some b =>
        simp only
        generalize runP P (Op.equalIn d e a b) = r3
        cases r3 with
        | none => rfl
        | some r =>
          cases r
          · rfl
          · exact ih
theorem runP_eq_arr {P : Program} (d : Nat) (t : TypeId) (xs ys : Array Value) {n : Nat} {e : TypeId} (ht : P.underlying t = some (.array n e)) (hs : tySize P e = some 1) :
    runP P (Op.equalIn (d + 1) t (.agg xs) (.agg ys)) = runP P (Op.eqFields d xs ys (arrFields e 0 n)) := by
  have hsz : runP P (sizeOf e) = some 1 := by
    unfold tySize at hs
    unfold sizeOf typeInfo
    rw [Option.map_eq_some_iff] at hs
    obtain ⟨i, hi, hi1⟩ := hs
    simp only [runP_bind, runP_program, hi]
    show some i.size = _
    rw [hi1]
  rw [← runP_eq_elems]
  simp only [Op.equalIn, runP_bind, runP_und ht, hsz]
  rw [Std.Legacy.Range.forIn_eq_forIn_range']
  simp only [Std.Legacy.Range.size, Nat.sub_zero, Nat.add_sub_cancel, Nat.div_one]
theorem part_ok {P : Program} {t : TypeId} {k off : Nat} {cs : Array Value} {x : Value} (hk : kindOf P t = some k) (hx : cs[off]? = some x) : runP P (part t cs off) = some x := by
  have ha : runP P (isAgg t) = some false := by
    unfold kindOf at hk
    unfold isAgg
    rw [runP_bind]
    split at hk
    · rename_i hu; rw [runP_und hu]; rfl
    · rename_i hu; rw [runP_und hu]; rfl
    · rename_i hu; rw [runP_und hu]; rfl
    · cases hk
  unfold part
  rw [runP_bind, ha]
  simp only [Bool.false_eq_true, if_false, hx]
  rfl
theorem eqFields_ok {P : Program} (d : Nat) {xs ys : Array Value} : ∀ {ks : List Nat} {fs : List Field} {k : Nat} {a b : List (TV X.A)} {cs1 cs2 : List PV} {q : Bool}, fieldKs P k fs = some ks → eqCells X ks a b = some q → VRs X r a cs1 → VRs X r b cs2 →
    (∃ vs ws : List Value, cs1 = vs.map PV.v ∧ cs2 = ws.map PV.v ∧ (∀ x ∈ vs, flat x = true) ∧ (∀ x ∈ ws, flat x = true) ∧
      ((∀ i x, vs[i]? = some x → xs[k + i]? = some x) → (∀ i x, ws[i]? = some x → ys[k + i]? = some x) → runP P (Op.eqFields (d + 1) xs ys fs) = some q))
  | ks, [], k, a, b, cs1, cs2, q, hf, he, h1, h2 => by
    simp only [fieldKs, Option.some.injEq] at hf
    subst hf
    cases a with
    | cons _ _ => cases b <;> simp [eqCells] at he
    | nil =>
      cases b with
      | cons _ _ => simp [eqCells] at he
      | nil =>
        simp only [eqCells, Option.some.injEq] at he
        subst he
        rw [VRs.nil_iff] at h1 h2
        subst h1; subst h2
        exact ⟨[], [], rfl, rfl, by simp, by simp, fun _ _ => rfl⟩
  | ks, f :: fs, k, a, b, cs1, cs2, q, hf, he, h1, h2 => by
    simp only [fieldKs] at hf
    split at hf
    · rename_i kd qs hk1 hk2
      split at hf
      · rename_i hn
        simp only [Option.some.injEq] at hf
        subst hf
        cases a with
        | nil => simp [eqCells] at he
        | cons a as =>
          cases b with
          | nil => simp [eqCells] at he
          | cons b bs =>
            obtain ⟨p1, cs1, rfl, g1, g2⟩ := VRs.cons_iff.1 h1
            obtain ⟨p2, cs2, rfl, g3, g4⟩ := VRs.cons_iff.1 h2
            cases hq1 : eq1 X kd a b with
            | none => simp only [eqCells, hq1] at he; cases he
            | some q1 =>
              obtain ⟨x, y, rfl, rfl, x1, x2, x3, x4⟩ := eq1_ok hq1 g1 g3
              -- the rest
              have hrest : ∃ q2, eqCells X qs as bs = some q2 ∧ q = (q1 && q2) := by
                cases qs with
                | nil =>
                  simp only [eqCells, hq1] at he
                  split at he
                  · simp only [Option.some.injEq] at he
                    exact ⟨true, by simp [eqCells], by simp [he]⟩
                  · cases he
                | cons q' qs =>
                  simp only [eqCells, hq1] at he
                  cases hq2 : eqCells X (q' :: qs) as bs with
                  | none => simp only [hq2] at he; cases he
                  | some q2 =>
                    simp only [hq2, Option.some.injEq] at he
                    exact ⟨q2, rfl, he.symm⟩
              obtain ⟨q2, hq2, rfl⟩ := hrest
              obtain ⟨vs, ws, rfl, rfl, f1, f2, f3⟩ := eqFields_ok d (xs := xs) (ys := ys) hk2 hq2 g2 g4
              refine ⟨x :: vs, y :: ws, rfl, rfl, by simpa [x1] using f1, by simpa [x2] using f2, fun e1 e2 => ?_⟩
              have i1 := e1 0 x rfl
              have i2 := e2 0 y rfl
              simp only [Nat.add_zero] at i1 i2
              simp only [Op.eqFields]
              rw [if_pos hn.1, hn.2, runP_bind, part_ok hk1 i1]
              simp only
              rw [runP_bind, part_ok hk1 i2]
              simp only
              rw [runP_bind, x4 P _ d hk1]
              simp only
              cases q1
              · rfl
              · simp only [Bool.not_true, Bool.false_eq_true, if_false, Bool.true_and]
                exact f3 (fun i z hz => by have := e1 (i + 1) z (by simpa using hz); rwa [show k + (i + 1) = k + 1 + i by omega] at this) (fun i z hz => by have := e2 (i + 1) z (by simpa using hz); rwa [show k + (i + 1) = k + 1 + i by omega] at this)
      · cases hf
    · cases hf
end scal
end Go.Proofs.YtlkaoiceehlkmaaTE

namespace Go.Proofs.YtlkaoiceehlkmaaTE
open Go Go.Proofs.YtlkaoiceehlkmaaVE
set_option linter.unusedVariables false
set_option linter.unusedSimpArgs false

section bins
variable {X : TX} {r : Rn} {s : TS X.A} {v : St} {call : YtlkaoiceehlkmaaVE.Call} {f : FuncId} {wr : Wr} {tm' : List PV} {o : Oper} {α : Type}
theorem runP_valued {P : Program} {c : Value} (m : Sem Value) (h : runP P m = some c) : runP P (do let w ← m; pure (Next.value w)) = some (.value c) := by
  rw [runP_bind, h]; rfl
theorem runP_guard {P : Program} {op : BinOp} {t : TypeId} {x y : Operand} {a b c : Value} (h1 : runP P (eqGuard op t x y a b) = some ()) (h2 : runP P (binOp op t a b) = some c) :
    runP P (do eqGuard op t x y a b; binOp op t a b : Sem Value) = some c := by
  show runP P (eqGuard op t x y a b >>= fun _ => binOp op t a b) = some c
  rw [runP_bind, h1]; exact h2
/-- Are these two one? The step that the machine takes. -/
theorem eq_flat {op : BinOp} {t u : TypeId} {x y : Operand} {K : TV X.A → Option α} {z : α} (ho : o.op = .binOp op t x y u) {p q : PV} {a b : Value} {e : Bool} (hx : PV.ev tm' x = p) (hy : PV.ev tm' y = q) (ha : toV p = some a) (hb : toV q = some b)
    (hi : evIntCmp op p q = none) (hn : nilCmp X.C.P t p q = none) (hg : (op = .eql ∨ op = .neq) → runP X.C.P (eqGuard op t x y a b) = some ()) (he : runP X.C.P (Op.equal t a b) = some e)
    (b1 : binOp .eql t a b = (do pure (.bool (← Op.equal t a b)))) (b2 : binOp .neq t a b = (do pure (.bool (!(← Op.equal t a b))))) (h : boolOp X op e true K = some z) :
    ∃ p p', K p = some z ∧ evOp X.C call f wr tm' v o = some (p', v) ∧ VR X r p p' := by
  have key : ∀ c : Bool, (op = .eql ∨ op = .neq) → runP X.C.P (binOp op t a b) = some (.bool c) → evOp X.C call f wr tm' v o = some (.v (.bool c), v) := fun c hop hr => by
    have h1 := ev_flat (X := X) ho hx hy ha hb
    have h2 : runP X.C.P (execOp (fun z => (toV (PV.ev tm' z)).getD undef) o) = some (.value (.bool c)) := by
      rw [exec_bin ho]
      simp only [hx, hy, ha, hb, Option.getD_some]
      exact runP_valued _ (runP_guard (hg hop) hr)
    simp only [evOp, ho, hx, hy, evNilCmp, hi, hn]
    rw [h1, h2]
    rfl
  cases op <;> simp only [boolOp] at h <;> try (cases h; done)
  case eql => exact ⟨_, _, h, key (e == true) (.inl rfl) (by rw [b1, runP_bind, he]; cases e <;> rfl), .bool .nil⟩
  case neq => exact ⟨_, _, h, key (!(e == true)) (.inr rfl) (by rw [b2, runP_bind, he]; cases e <;> rfl), .bool .nil⟩
/-- A comparison with nil that is told at sight. -/
theorem eq_nil {op : BinOp} {t u : TypeId} {x y : Operand} {K : TV X.A → Option α} {z : α} (ho : o.op = .binOp op t x y u) {p q : PV} {e : Bool} (hx : PV.ev tm' x = p) (hy : PV.ev tm' y = q)
    (hi : evIntCmp op p q = none) (hn : nilCmp X.C.P t p q = some e) (h : boolOp X op e true K = some z) :
    ∃ p p', K p = some z ∧ evOp X.C call f wr tm' v o = some (p', v) ∧ VR X r p p' := by
  cases op <;> simp only [boolOp] at h <;> try (cases h; done)
  case eql =>
    refine ⟨_, .v (.bool e), h, ?_, by cases e <;> exact .bool .nil⟩
    simp only [evOp, ho, hx, hy, evNilCmp, hi, hn]
  case neq =>
    refine ⟨_, .v (.bool !e), h, ?_, by cases e <;> exact .bool .nil⟩
    simp only [evOp, ho, hx, hy, evNilCmp, hi, hn]
theorem guard_none {P : Program} {op : BinOp} {t : TypeId} {x y : Operand} {a b : Value} (h1 : ∀ u w, ¬ (a = .agg u ∧ b = .agg w)) (h2 : ¬ (a = .nilIface ∧ b = .nilIface)) : runP P (eqGuard op t x y a b) = some () := by
  unfold eqGuard
  cases op <;> first | rfl | skip
  all_goals
    simp only [Bool.not_true, Bool.false_eq_true, if_false]
    split
    · exact absurd ⟨rfl, rfl⟩ h2
    · exact absurd ⟨rfl, rfl⟩ (h1 _ _)
    · rfl
theorem guard_con {P : Program} {op : BinOp} {t : TypeId} {x y : Operand} (hc : (isCon x || isCon y) = true) : runP P (eqGuard op t x y .nilIface .nilIface) = some () := by
  cases x <;> cases y <;> first | (simp [isCon] at hc; done) | (cases op <;> rfl)
theorem guard_agg {P : Program} {op : BinOp} {t : TypeId} {x y : Operand} {u w : Array Value} (h : P.eqGuardType P.depth t = false) : runP P (eqGuard op t x y (.agg u) (.agg w)) = some () := by
  unfold eqGuard
  cases op <;> first | rfl | skip
  all_goals
    simp only [Bool.not_true, Bool.false_eq_true, if_false, runP_bind, runP_program, h, Bool.not_false, if_true]
    rfl
theorem bool_ok {op : BinOp} {t u : TypeId} {x y : Operand} {K : TV X.A → Option α} {z : α} (ho : o.op = .binOp op t x y u) {a b : Bool} (hx : PV.ev tm' x = .v (.bool a)) (hy : PV.ev tm' y = .v (.bool b)) (hk : kindOf X.C.P t = some 1) (h : boolOp X op a b K = some z) :
    ∃ p p', K p = some z ∧ evOp X.C call f wr tm' v o = some (p', v) ∧ VR X r p p' := by
  have he : runP X.C.P (Op.equal t (.bool a) (.bool b)) = some (a == b) := by
    obtain ⟨p, q, e1, e2, _, _, _, e3⟩ := eq1_ok (X := X) (r := r) (kd := 1) (a := .bool a) (b := .bool b) (q := (a == b)) rfl (.bool .nil) (.bool .nil)
    cases e1; cases e2
    exact e3 X.C.P t 9999 hk
  have hbo : boolOp X op (a == b) true K = some z := by
    cases op <;> simp only [boolOp] at h ⊢ <;> try (cases h; done)
    all_goals (cases a <;> cases b <;> exact h)
  exact eq_flat ho hx hy rfl rfl (by simp [evIntCmp]) (nilCmp_v ..) (fun _ => guard_none (by simp) (by simp)) he rfl rfl hbo
theorem toVs_map : ∀ vs : List Value, toVs (vs.map PV.v) = some vs
  | [] => rfl
  | x :: vs => by simp only [List.map_cons, toVs, toV, toVs_map vs]
theorem map_v_inj : ∀ {vs ws : List Value}, vs.map PV.v = ws.map PV.v → vs = ws
  | [], [], _ => rfl
  | [], _ :: _, h => by simp at h
  | _ :: _, [], h => by simp at h
  | x :: vs, y :: ws, h => by
    simp only [List.map_cons, List.cons.injEq, PV.v.injEq] at h
    rw [h.1, map_v_inj h.2]
theorem agg_ok {op : BinOp} {t u : TypeId} {x y : Operand} {K : TV X.A → Option α} {z : α} (ho : o.op = .binOp op t x y u) {a b : List (TV X.A)} {c1 c2 : List PV} (hx : PV.ev tm' x = .agg c1) (hy : PV.ev tm' y = .agg c2) {ks : List Nat} {e : Bool}
    (hk : kinds X.C.P t = some ks) (he : eqCells X ks a b = some e) (h1 : VRs X r a c1) (h2 : VRs X r b c2) (h : boolOp X op e true K = some z) :
    ∃ p p', K p = some z ∧ evOp X.C call f wr tm' v o = some (p', v) ∧ VR X r p p' := by
  unfold kinds at hk
  split at hk
  · cases hk
  · rename_i hg
    split at hk
    · rename_i fs hu
      split at hk
      · cases hk
      · rename_i hs
        obtain ⟨vs, ws, rfl, rfl, f1, f2, _⟩ := eqFields_ok (P := X.C.P) 9998 (xs := #[]) (ys := #[]) hk he h1 h2
        obtain ⟨vs', ws', e1, e2, _, _, f3⟩ := eqFields_ok (P := X.C.P) 9998 (xs := vs.toArray) (ys := ws.toArray) hk he h1 h2
        have e1 := map_v_inj e1
        have e2 := map_v_inj e2
        subst e1; subst e2
        refine eq_flat ho hx hy (a := .agg vs.toArray) (b := .agg ws.toArray) (by simp only [toV, toVs_map]; rfl) (by simp only [toV, toVs_map]; rfl) (by simp [evIntCmp]) ?_ (fun _ => guard_agg (by simpa using hg)) ?_ rfl rfl h
        · unfold nilCmp; split <;> simp_all
        · show runP X.C.P (Op.equalIn (9999 + 1) t _ _) = _
          rw [runP_eq_struct 9999 t _ _ hu (by simpa using hs)]
          exact f3 (fun i z hz => by simpa using hz) (fun i z hz => by simpa using hz)
    · rename_i n el hu
      split at hk
      · rename_i hs
        obtain ⟨vs, ws, rfl, rfl, f1, f2, _⟩ := eqFields_ok (P := X.C.P) 9998 (xs := #[]) (ys := #[]) hk he h1 h2
        obtain ⟨vs', ws', e1, e2, _, _, f3⟩ := eqFields_ok (P := X.C.P) 9998 (xs := vs.toArray) (ys := ws.toArray) hk he h1 h2
        have e1 := map_v_inj e1
        have e2 := map_v_inj e2
        subst e1; subst e2
        refine eq_flat ho hx hy (a := .agg vs.toArray) (b := .agg ws.toArray) (by simp only [toV, toVs_map]; rfl) (by simp only [toV, toVs_map]; rfl) (by simp [evIntCmp]) ?_ (fun _ => guard_agg (by simpa using hg)) ?_ rfl rfl h
        · unfold nilCmp; split <;> simp_all
        · show runP X.C.P (Op.equalIn (9999 + 1) t _ _) = _
          rw [runP_eq_arr 9999 t _ _ hu hs]
          exact f3 (fun i z hz => by simpa using hz) (fun i z hz => by simpa using hz)
      · cases hk
    · cases hk
theorem nil_ok {op : BinOp} {t u : TypeId} {x y : Operand} {K : TV X.A → Option α} {z : α} (ho : o.op = .binOp op t x y u) {a b : TV X.A} {p q : PV} (hx : PV.ev tm' x = p) (hy : PV.ev tm' y = q) {e : Bool}
    (hn : nilT X X.C.P t (isCon x || isCon y) a b = some e) (h1 : VR X r a p) (h2 : VR X r b q) (h : boolOp X op e true K = some z) :
    ∃ p p', K p = some z ∧ evOp X.C call f wr tm' v o = some (p', v) ∧ VR X r p p' := by
  unfold nilT at hn
  split at hn
  · -- pointers
    rename_i el hu
    have both : ∀ {e : Bool}, e = true → p = .v (.pointer none) → q = .v (.pointer none) → boolOp X op e true K = some z → ∃ p p', K p = some z ∧ evOp X.C call f wr tm' v o = some (p', v) ∧ VR X r p p' := by
      rintro _ rfl rfl rfl h
      refine eq_flat ho hx hy rfl rfl (by simp [evIntCmp]) (nilCmp_v ..) (fun _ => guard_none (by simp) (by simp)) ?_ rfl rfl h
      show runP X.C.P (Op.equalIn (9999 + 1) t _ _) = _
      rw [Op.equalIn, runP_bind, runP_und hu]
      rfl
    have one : ∀ {e : Bool}, e = false → ((∃ l o, p = .ptr l o) ∨ (∃ cs, p = .eptr cs)) → q = .v (.pointer none) → boolOp X op e true K = some z → ∃ p p', K p = some z ∧ evOp X.C call f wr tm' v o = some (p', v) ∧ VR X r p p' := by
      rintro _ rfl hp rfl h
      rcases hp with ⟨l, o, rfl⟩ | ⟨cs, rfl⟩
      · exact eq_nil ho hx hy (by simp [evIntCmp]) (by simp [nilCmp, hu]) h
      · exact eq_nil ho hx hy (by simp [evIntCmp]) (by simp [nilCmp, hu]) h
    split at hn
    all_goals first | (cases hn; done) | skip
    all_goals
      simp only [Option.some.injEq] at hn
      have hq := VR.flatc rfl h2
      subst hn
    · cases h1 with | ptr _ _ => exact one rfl (.inl ⟨_, _, rfl⟩) hq h
    · cases h1 with
      | eptr _ _ => exact one rfl (.inr ⟨_, rfl⟩) hq h
      | eptrF _ _ _ _ _ => exact one rfl (.inl ⟨_, _, rfl⟩) hq h
    · cases h1 with | aptr _ _ _ => exact one rfl (.inl ⟨_, _, rfl⟩) hq h
    · exact both rfl (VR.flatc rfl h1) hq h
    · cases h1 with
      | optn _ => exact both rfl rfl hq h
      | opts _ h3 _ =>
        cases h3 with
        | eptr _ _ => exact one rfl (.inr ⟨_, rfl⟩) hq h
        | eptrF _ _ _ _ _ => exact one rfl (.inl ⟨_, _, rfl⟩) hq h
  · -- interfaces
    rename_i ms hu
    split at hn
    · rename_i hc
      have both : p = .v .nilIface → q = .v .nilIface → boolOp X op true true K = some z → ∃ p p', K p = some z ∧ evOp X.C call f wr tm' v o = some (p', v) ∧ VR X r p p' := by
        rintro rfl rfl h
        refine eq_flat ho hx hy rfl rfl (by simp [evIntCmp]) (nilCmp_v ..) (fun _ => guard_con hc) ?_ rfl rfl h
        show runP X.C.P (Op.equalIn (9999 + 1) t _ _) = _
        rw [Op.equalIn, runP_bind, runP_und hu]
        rfl
      split at hn
      all_goals first | (cases hn; done) | skip
      all_goals
        simp only [Option.some.injEq] at hn
        have hq := VR.flatc rfl h2
        subst hn
      · cases h1 with
        | nilt _ => exact both rfl hq h
        | nilf _ _ => subst hq; exact eq_nil ho hx hy (by simp [evIntCmp]) (by simp [nilCmp, hu]) h
      · exact both (VR.flatc rfl h1) hq h
    · cases hn
  · rename_i el hu
    split at hn
    · simp only [Option.some.injEq] at hn
      subst hn
      have hp := VR.nils h1
      have hq := VR.nils h2
      subst hp; subst hq
      exact eq_nil ho hx hy (by simp [evIntCmp]) (by simp [nilCmp, hu]) h
    · cases hn
  · rename_i hu
    split at hn
    · simp only [Option.some.injEq] at hn
      subst hn
      have hq := VR.flatc rfl h2
      subst hq
      cases h1 with
      | fn _ _ _ => exact eq_nil ho hx hy (by simp [evIntCmp]) (by simp [nilCmp, hu]) h
    · cases hn
  · cases hn
theorem bin_ok {op : BinOp} {t u : TypeId} {x y : Operand} {K : TV X.A → Option α} {z : α} (ho : o.op = .binOp op t x y u) {a b : TV X.A} (h1 : VR X r a (PV.ev tm' x)) (h2 : VR X r b (PV.ev tm' y)) (h : binT X op t (isCon x || isCon y) a b K = some z) :
    ∃ p p', K p = some z ∧ evOp X.C call f wr tm' v o = some (p', v) ∧ VR X r p p' := by
  generalize hx : PV.ev tm' x = p at h1
  generalize hy : PV.ev tm' y = q at h2
  unfold binT at h
  split at h
  · cases h1 with | int _ =>
    cases h2 with | int _ =>
    split at h
    · exact sh_ok ho hx hy h
    · exact sh_ok ho hx hy h
    · obtain ⟨hk, h'⟩ := dK_some h
      simp only [decide_eq_true_eq] at hk
      subst hk
      exact int_ok ho hx hy h'
  · cases h1 with | str _ =>
    cases h2 with | str _ =>
    exact str_ok ho hx hy h
  · cases h1 with | bool _ =>
    cases h2 with | bool _ =>
    obtain ⟨hk, h⟩ := dK_some h
    exact bool_ok ho hx hy (by simpa using hk) h
  · cases h1 with | agg h1 _ =>
    cases h2 with | agg h2 _ =>
    obtain ⟨ks, hk, h⟩ := cK_some h
    obtain ⟨e, he, h⟩ := cK_some h
    exact agg_ok ho hx hy hk he h1 h2 h
  · obtain ⟨e, he, h⟩ := cK_some h
    exact nil_ok ho hx hy he h1 h2 h
end bins
end Go.Proofs.YtlkaoiceehlkmaaTE

namespace Go.Proofs.YtlkaoiceehlkmaaTE
open Go Go.Proofs.YtlkaoiceehlkmaaVE
set_option linter.unusedVariables false
set_option linter.unusedSimpArgs false

/-- What an operation's step comes to, on both sides. -/
def OpR (X : TX) (r : Rn) (st : TS X.A) (sv : St) {α : Type} (K : TV X.A → TS X.A → Option α) (z : α) (res : Option (PV × St)) : Prop :=
  ∃ p st2 r' p' sv', K p st2 = some z ∧ ExtK r r' ∧ VR X r' p p' ∧ SRel X r' st2 sv' ∧ TFr st st2 ∧ res = some (p', sv')
section one
variable {X : TX} {r : Rn} {s : TS X.A} {v : St} {call : YtlkaoiceehlkmaaVE.Call} {f : FuncId} {tm : List (TV X.A)} {tm' : List PV} {o : Oper} {α : Type} {z : α} {K : TV X.A → TS X.A → Option α}
theorem OpR.pure (hs : SRel X r s v) {p : TV X.A} {p' : PV} {res : Option (PV × St)} (hK : K p s = some z) (hp : VR X r p p') (hr : res = some (p', v)) : OpR X r s v K z res :=
  ⟨p, s, r, p', v, hK, ExtK.refl r, hp, hs, TFr.refl s, hr⟩
theorem OpR.pureE (hs : SRel X r s v) {res : Option (PV × St)} (h : ∃ p p', K p s = some z ∧ res = some (p', v) ∧ VR X r p p') : OpR X r s v K z res := by
  obtain ⟨p, p', h1, h2, h3⟩ := h
  exact OpR.pure hs h1 h3 h2
/-! Operands that are plain values. -/
theorem ofV_flat : ∀ x : Value, flat x = true → ofV x = some (.v x) := fun x h => by
  cases x <;> first | (simp [flat] at h; done) | (simp [ofV, h])
theorem intRow_cons {t : TypeId} {a : X.A t} {l : List (X.A t)} : intRow X.lay t (a :: l) = (u8Of (X.lay t a)).bind fun m => (intRow X.lay t l).bind fun ms => some (m :: ms) := by
  unfold intRow
  rw [List.mapM_cons]
  rfl
theorem flat_ok {p : TV X.A} {q : PV} (h : flatT p = true) (hv : VR X r p q) : ∃ x, q = .v x ∧ ofV x = some (.v x) := by
  cases hv with
  | bool _ => exact ⟨_, rfl, rfl⟩
  | int _ => exact ⟨_, rfl, rfl⟩
  | str _ => exact ⟨_, rfl, rfl⟩
  | cst hc _ =>
    rcases hc with ⟨h1, rfl⟩ | ⟨rfl, rfl⟩
    · refine ⟨_, rfl, ?_⟩
      exact ofV_flat _ h1
    · simp [flatT] at h
  | _ => simp [flatT] at h
theorem evFlat_v (o : Oper) {c p : PV} {w : Value} (hall : (o.op.operands.toList.all fun x => (toV (PV.ev tm' x)).isSome) = true) (hr : runP X.C.P (execOp (fun z => (toV (PV.ev tm' z)).getD undef) o) = some (.value w)) (hf : ofV w = some p) : evFlat X.C.P tm' o = some p := by
  unfold evFlat
  rw [if_pos hall, hr]
  exact hf
theorem pick_ok (hs : SRel X r s v) (hv : VRs X r tm tm') {c a b : Operand} (ho : o.op = .pick c a b) (h : (match TV.ev tm c with
    | .bool r => dK (flatT (TV.ev tm a) && flatT (TV.ev tm b)) <| bK r (K (TV.ev tm a) s) (K (TV.ev tm b) s)
    | _ => none) = some z) : OpR X r s v K z (evOp X.C call f ⟨0, none⟩ tm' v o) := by
  have h1 := hv.ev c
  have h2 := hv.ev a
  have h3 := hv.ev b
  revert h h1
  cases hc : TV.ev tm c with
  | bool q =>
    intro h h1
    obtain ⟨hf, h⟩ := dK_some h
    rw [Bool.and_eq_true] at hf
    obtain ⟨x, e1, f1⟩ := flat_ok hf.1 h2
    obtain ⟨y, e2, f2⟩ := flat_ok hf.2 h3
    have e0 : PV.ev tm' c = .v (.bool q) := by
      generalize PV.ev tm' c = w at h1
      cases h1 with | bool _ => rfl
    have hall : (o.op.operands.toList.all fun x => (toV (PV.ev tm' x)).isSome) = true := by simp [ho, Op.operands, e0, e1, e2, toV]
    have hr : runP X.C.P (execOp (fun z => (toV (PV.ev tm' z)).getD undef) o) = some (.value (if q then x else y)) := by
      simp only [execOp, ho, e0, e1, e2, toV, Option.getD_some]
      rfl
    rcases bK_some h with ⟨rfl, h⟩ | ⟨rfl, h⟩
    · refine OpR.pure hs h h2 ?_
      simp only [evOp, ho, withSt]
      rw [evFlat_v o hall hr (by exact f1) (c := .any), e1]; rfl
    · refine OpR.pure hs h h3 ?_
      simp only [evOp, ho, withSt]
      rw [evFlat_v o hall hr (by exact f2) (c := .any), e2]; rfl
  | _ => intro h; cases h
theorem un_ok (hs : SRel X r s v) (hv : VRs X r tm tm') {op : UnOp} {t : TypeId} {x : Operand} (ho : o.op = .unOp op t x) (h : unT X op (TV.ev tm x) (fun p => K p s) = some z) : OpR X r s v K z (evOp X.C call f ⟨0, none⟩ tm' v o) := by
  have h1 := hv.ev x
  have key : ∀ (a w : Value), PV.ev tm' x = .v a → runP X.C.P (Op.unary op a) = some w → ofV w = some (.v w) → evOp X.C call f ⟨0, none⟩ tm' v o = some (.v w, v) := fun a w e hr hw => by
    simp only [evOp, ho, withSt]
    rw [evFlat_v (c := .any) o (p := .v w) (w := w) (by simp [ho, Op.operands, e, toV]) ?_ hw]
    · rfl
    · simp only [execOp, ho, e, toV, Option.getD_some]
      exact runP_valued _ hr
  unfold unT at h
  split at h
  · rename_i b hx; rw [hx] at h1
    generalize hq : PV.ev tm' x = q at h1
    cases h1 with | bool _ => exact OpR.pure hs h (.bool .nil) (key _ _ hq rfl rfl)
  · rename_i k n hx; rw [hx] at h1
    generalize hq : PV.ev tm' x = q at h1
    cases h1 with | int _ => exact OpR.pure hs h (.int .nil) (key _ (.int k (k.wrap (0 - n))) hq (by simp only [Op.unary, Op.intArith]; rfl) rfl)
  · rename_i k n hx; rw [hx] at h1
    generalize hq : PV.ev tm' x = q at h1
    cases h1 with | int _ =>
    simp only [intOp] at h
    exact OpR.pure hs h (.int .nil) (key _ _ hq (by simp only [Op.unary, Op.intBits]; rfl) rfl)
  · cases h
theorem runP_convert {P : Program} {a b : TypeId} {d e : TypeDesc} {x : Value} (ha : P.underlying a = some d) (hb : P.underlying b = some e) : ∀ w, (match d, e, x with
    | _, .int k, .int _ n => some (Value.int k (k.wrap n))
    | _, .string, .string _ => some x
    | _, _, _ => none) = some w → runP P (convert a b x) = some w := by
  intro w hw
  unfold convert
  rw [runP_bind, runP_und ha]
  simp only
  rw [runP_bind, runP_und hb]
  simp only
  split at hw
  · simp only [Option.some.injEq] at hw; subst hw; rfl
  · simp only [Option.some.injEq] at hw; subst hw; rfl
  · cases hw
theorem bytes_ok (hX : XOk X) {t : TypeId} {n : Nat} (hn : X.wd t = some n) : ∀ {l : List (X.A t)} {xs : List (List PV)} {ns : List Int}, l.length = xs.length → (∀ (i : Nat) (a : X.A t) (c : List PV), l[i]? = some a → xs[i]? = some c → VRs X r (X.lay t a) c) → intRow X.lay t l = some ns → xs.mapM YtlkaoiceehlkmaaVE.byteOf = some (toBytes ns)
  | [], [], ns, _, _, h => by
    simp [intRow] at h; subst h; rfl
  | [], _ :: _, ns, hl, _, _ => by simp at hl
  | _ :: _, [], ns, hl, _, _ => by simp at hl
  | a :: l, c :: xs, ns, hl, hr, h => by
    rw [intRow_cons] at h
    have h0 := hr 0 a c rfl rfl
    obtain ⟨m, hm, h⟩ := Option.bind_eq_some_iff.1 h
    obtain ⟨ms, hms, h⟩ := Option.bind_eq_some_iff.1 h
    simp only [Option.some.injEq] at h
    subst h
    unfold u8Of at hm
    split at hm
    · rename_i k hk
      simp only [Option.some.injEq] at hm
      subst hm
      rw [hk] at h0
      obtain ⟨q, qs, rfl, e1, e2⟩ := VRs.cons_iff.1 h0
      rw [VRs.nil_iff] at e2
      subst e2
      cases e1 with | int _ =>
      have := bytes_ok hX hn (l := l) (xs := xs) (ns := ms) (by simpa using hl) (fun i a c ha hc => hr (i + 1) a c (by simpa using ha) (by simpa using hc)) hms
      rw [List.mapM_cons, this]
      rfl
    · cases hm
theorem conv_ok (hX : XOk X) (hs : SRel X r s v) (hv : VRs X r tm tm') {a b : TypeId} {x : Operand} (ho : o.op = .convert a b x) (h : convT X a b (TV.ev tm x) (fun p => K p s) = some z) : OpR X r s v K z (evOp X.C call f ⟨0, none⟩ tm' v o) := by
  have h1 := hv.ev x
  have key : ∀ (d w : Value), PV.ev tm' x = .v d → runP X.C.P (convert a b d) = some w → ofV w = some (.v w) → evOp X.C call f ⟨0, none⟩ tm' v o = some (.v w, v) := fun d w e hr hw => by
    simp only [evOp, ho, withSt, e]
    rw [evFlat_v (c := .any) o (p := .v w) (w := w) (by simp [ho, Op.operands, e, toV]) ?_ hw]
    · rfl
    · simp only [execOp, ho, e, toV, Option.getD_some]
      exact runP_valued _ hr
  have isB : isBytes X.C.P a = true → ∃ e, X.C.P.underlying a = some (.slice e) ∧ X.C.P.underlying e = some (.int .u8) := fun h => by
    unfold isBytes at h
    split at h
    · rename_i e he
      split at h
      · rename_i he2; exact ⟨e, he, he2⟩
      · cases h
    · cases h
  have isS : isString X.C.P b = true → X.C.P.underlying b = some .string := fun h => by
    unfold isString at h
    split at h
    · rename_i he; exact he
    · cases h
  unfold convT at h
  generalize hq : PV.ev tm' x = q at h1
  split at h
  · rename_i k n hx; rw [hx] at h1
    cases h1 with | int _ =>
    obtain ⟨hd, h⟩ := dK_some h
    obtain ⟨d, hd⟩ := Option.isSome_iff_exists.1 hd
    split at h
    · rename_i j hj
      exact OpR.pure hs h (.int .nil) (key _ _ hq (runP_convert hd hj (.int j (j.wrap n)) rfl) rfl)
    · cases h
  · rename_i t l fl hx; rw [hx] at h1
    cases h1 with
    | row k1 k2 k3 k4 k5 _ =>
      obtain ⟨hd, h⟩ := dK_some h
      rw [Bool.and_eq_true] at hd
      obtain ⟨ns, hns, h⟩ := oK_some h
      obtain ⟨e, he1, he2⟩ := isB hd.1
      refine OpR.pure hs h (.str .nil) ?_
      simp only [evOp, ho, hq, withSt, evConvert, he1, isS hd.2, he2, bytes_ok hX k1 k2 k3 hns]
      rfl
  · rename_i hx; rw [hx] at h1
    have := VR.nils h1
    subst this
    obtain ⟨hd, h⟩ := dK_some h
    rw [Bool.and_eq_true] at hd
    obtain ⟨e, he1, he2⟩ := isB hd.1
    refine OpR.pure hs h (.str .nil) ?_
    simp only [evOp, ho, hq, withSt, evConvert, he1, isS hd.2, he2]
    rfl
  · rename_i y hx; rw [hx] at h1
    cases h1 with | str _ =>
    obtain ⟨hd, h⟩ := dK_some h
    rw [Bool.and_eq_true] at hd
    obtain ⟨d, hd1⟩ := Option.isSome_iff_exists.1 hd.1
    exact OpR.pure hs h (.str .nil) (key _ _ hq (runP_convert hd1 (isS hd.2) (.string ⟨y.toArray⟩) (by cases d <;> rfl)) rfl)
  · cases h
end one
end Go.Proofs.YtlkaoiceehlkmaaTE

namespace Go.Proofs.YtlkaoiceehlkmaaTE
open Go Go.Proofs.YtlkaoiceehlkmaaVE
set_option linter.unusedVariables false
set_option linter.unusedSimpArgs false

section two
variable {X : TX} {r : Rn} {s : TS X.A} {v : St} {call : YtlkaoiceehlkmaaVE.Call} {f : FuncId} {tm : List (TV X.A)} {tm' : List PV} {o : Oper} {α : Type} {z : α} {K : TV X.A → TS X.A → Option α}
theorem ofC1_ok {x : Value} {p : TV X.A} (h : ofC1 X (ofC x) = some p) : VR X r p (ofC x) := by
  by_cases hn : x = .slice none 0 0
  · subst hn
    have h : some (TV.cst (.slice none 0 0)) = some p := h
    simp only [Option.some.injEq] at h
    subst h
    exact .cst (.inr ⟨rfl, rfl⟩) .nil
  · by_cases hf : flat x = true
    · have e : ofC x = .v x := by
        unfold ofC
        split
        · exact absurd rfl hn
        · rw [if_pos hf]
      have e2 : YtlkaoiceehlkmaaTE.ofC1 X (.v x) = some (ofT x) := rfl
      rw [e, e2] at h
      simp only [Option.some.injEq] at h
      subst h
      exact VR.ofT x
    · have e : ofC x = .any := by
        unfold ofC
        split
        · exact absurd rfl hn
        · rw [if_neg hf]
      rw [e] at h
      cases h
theorem ofC1s_ok : ∀ {xs : List Value} {ps : List (TV X.A)}, (xs.map ofC).mapM (ofC1 X) = some ps → VRs X r ps (xs.map ofC)
  | [], ps, h => by simp at h; subst h; exact .nil
  | x :: xs, ps, h => by
    rw [List.map_cons, List.mapM_cons] at h
    obtain ⟨p, hp, h⟩ := Option.bind_eq_some_iff.1 h
    obtain ⟨qs, hq, h⟩ := Option.bind_eq_some_iff.1 h
    have h : some (p :: qs) = some ps := h
    simp only [Option.some.injEq] at h
    subst h
    exact VRs.cons (ofC1_ok hp) (ofC1s_ok hq)
theorem noTok_ofC (x : Value) : noTok (ofC x) = true := by
  unfold ofC
  split
  · rfl
  · split <;> rfl
theorem zero_ok {t : TypeId} {cs : List (TV X.A)} (h : zeroT X t = some cs) : ∃ cs', zeroCells X.C.P t = some cs' ∧ VRs X r cs cs' ∧ cs'.all noTok = true := by
  unfold zeroT at h
  split at h
  · rename_i cs' hz
    refine ⟨cs', hz, ?_⟩
    unfold zeroCells at hz
    rw [Option.map_eq_some_iff] at hz
    obtain ⟨w, _, rfl⟩ := hz
    refine ⟨ofC1s_ok h, ?_⟩
    rw [List.all_eq_true]
    intro p hp
    obtain ⟨x, _, rfl⟩ := List.mem_map.1 hp
    exact noTok_ofC x
  · cases h
theorem TFr.newL (s : TS X.A) (c : TL X.A) : TFr s (newL s c) :=
  ⟨by simp [YtlkaoiceehlkmaaTE.newL], Nat.le_refl _, fun _ h => h, fun l hl _ => tloc_new_old hl, fun _ h _ => h⟩
/-- A new location. -/
theorem new_ok (hs : SRel X r s v) {c : TL X.A} {cs : List PV} (hc : LocR X r c cs) (h : K (.ptr s.locs.length 0) (newL s c) = some z) {res : Option (PV × St)} (hr : res = some (.ptr v.locs.length 0, YtlkaoiceehlkmaaVE.newLoc v cs)) : OpR X r s v K z res :=
  ⟨_, _, r.loc (some v.locs.length), _, _, h, ExtK.loc _ _, .ptr (by simp [Rn.loc, hs.nl]) .nil, hs.newLoc hc, TFr.newL s c, hr⟩
theorem alloc_ok (hs : SRel X r s v) {t : TypeId} (ho : o.op = .alloc t) (h : (cK (zeroT X t) fun cs => dK (cs.all oneT) <| K (.ptr s.locs.length 0) (newL s (.cells cs))) = some z) : OpR X r s v K z (evOp X.C call f ⟨0, none⟩ tm' v o) := by
  obtain ⟨cs, hc, h⟩ := cK_some h
  obtain ⟨h1, h⟩ := dK_some h
  obtain ⟨cs', e1, e2, _⟩ := zero_ok (r := r) hc
  refine new_ok hs (c := .cells cs) (cs := cs') e2 h ?_
  simp only [evOp, ho, evAlloc, e1, e2.ones h1, if_true]
theorem box_ok (hs : SRel X r s v) (hv : VRs X r tm tm') {t : TypeId} {x : Operand} (ho : o.op = .box t x) (h : (dK ((TV.ev tm x).cells.all oneT) <| K (.ptr s.locs.length 0) (newL s (.cells (TV.ev tm x).cells))) = some z) : OpR X r s v K z (evOp X.C call f ⟨0, none⟩ tm' v o) := by
  obtain ⟨h1, h⟩ := dK_some h
  obtain ⟨e1, e2, e3⟩ := (hv.ev x).cells h1
  refine new_ok hs (c := .cells _) e1 h ?_
  simp only [evOp, ho, evBox, e2, if_true]
theorem fill_ok {place : Nat → Option (Nat × Nat)} : ∀ {ps : List (Nat × Operand)} {cs : List (TV X.A)} {cs' : List PV} {ds : List (TV X.A)}, VRs X r tm tm' → VRs X r cs cs' → fillT X place cs (ps.map fun p => (p.1, TV.ev tm p.2)) = some ds →
    ∃ ds', fillP place cs' (ps.map fun p => (p.1, PV.ev tm' p.2)) = some ds' ∧ VRs X r ds ds'
  | [], cs, cs', ds, _, hc, h => by
    simp only [List.map_nil, fillT, Option.some.injEq] at h
    subst h
    exact ⟨cs', rfl, hc⟩
  | p :: ps, cs, cs', ds, hv, hc, h => by
    simp only [List.map_cons, fillT] at h
    cases hp : place p.1 with
    | none => rw [hp] at h; cases h
    | some q =>
      obtain ⟨off, size⟩ := q
      rw [hp] at h
      simp only at h
      split at h
      · rename_i hq
        obtain ⟨e1, e2, e3⟩ := (hv.ev p.2).cells hq.2.2
        obtain ⟨ds', k1, k2⟩ := fill_ok hv (hc.setC e1 off) h
        refine ⟨ds', ?_, k2⟩
        simp only [List.map_cons, fillP, hp]
        rw [if_pos ⟨by rw [e3]; exact hq.1, by rw [← hc.length]; exact hq.2.1, e2⟩]
        exact k1
      · cases h
theorem build_ok (hs : SRel X r s v) (hv : VRs X r tm tm') {t : TypeId} {ps : Array (Nat × Operand)} (ho : o.op = .build t ps) (h : (cK (buildT X t (ps.toList.map fun p => (p.1, TV.ev tm p.2))) fun p => K p s) = some z) : OpR X r s v K z (evOp X.C call f ⟨0, none⟩ tm' v o) := by
  obtain ⟨p, hp, h⟩ := cK_some h
  suffices hh : ∃ p', evBuild X.C.P t (ps.toList.map fun p => (p.1, PV.ev tm' p.2)) = some p' ∧ VR X r p p' by
    obtain ⟨p', e1, e2⟩ := hh
    refine OpR.pure hs h e2 ?_
    simp only [evOp, ho, e1, withSt]
    rfl
  unfold buildT at hp
  split at hp
  · rename_i zc fs hz hu
    obtain ⟨z', z1, z2, _⟩ := zero_ok (r := r) hz
    split at hp
    · rename_i places hpl
      rw [Option.map_eq_some_iff] at hp
      obtain ⟨ds, hd, rfl⟩ := hp
      obtain ⟨ds', d1, d2⟩ := fill_ok hv z2 hd
      exact ⟨.agg ds', by simp only [evBuild, z1, hu, hpl, d1]; rfl, .agg d2 .nil⟩
    · cases hp
  · rename_i zc n e hz hu
    obtain ⟨z', z1, z2, _⟩ := zero_ok (r := r) hz
    split at hp
    · rename_i n hn
      rw [Option.map_eq_some_iff] at hp
      obtain ⟨ds, hd, rfl⟩ := hp
      obtain ⟨ds', d1, d2⟩ := fill_ok hv z2 hd
      exact ⟨.agg ds', by simp only [evBuild, z1, hu, hn, d1]; rfl, .agg d2 .nil⟩
    · cases hp
  · cases hp
/-- Elements, one against one. -/
def RowR (X : TX) (r : Rn) (e : TypeId) (n : Nat) (l : List (X.A e)) (xs : List (List PV)) : Prop := X.wd e = some n ∧ l.length = xs.length ∧ (∀ (i : Nat) (a : X.A e) (c : List PV), l[i]? = some a → xs[i]? = some c → VRs X r (X.lay e a) c)
def NoTok (xs : List (List PV)) : Prop := ∀ c ∈ xs, c.all noTok = true
theorem RowR.szOk (hX : XOk X) {e : TypeId} {n : Nat} {l : List (X.A e)} {xs : List (List PV)} (h : RowR X r e n l xs) : YtlkaoiceehlkmaaVE.szOk n xs = true ∧ YtlkaoiceehlkmaaVE.allOne xs = true := by
  obtain ⟨h1, h2, h3⟩ := h
  have : ∀ c ∈ xs, c.all PV.one = true ∧ c.length = n := fun c hc => by
    obtain ⟨i, hi, rfl⟩ := List.mem_iff_getElem.1 hc
    have h5 : l[i]? = some (l[i]'(by omega)) := by simp [show i < l.length by omega]
    exact (h3 i _ _ h5 (by simp [hi])).layOne hX h1
  constructor
  · unfold YtlkaoiceehlkmaaVE.szOk; rw [List.all_eq_true]; intro c hc; simp [(this c hc).2]
  · unfold YtlkaoiceehlkmaaVE.allOne; rw [List.all_eq_true]; intro c hc; exact (this c hc).1
theorem VRs.strip : ∀ {ps : List (TV X.A)} {qs : List PV}, ps.all (plainC X.wd) = true → VRs X r ps qs → VRs X r ps (qs.map PV.strip) ∧ (qs.map PV.strip).all noTok = true
  | [], qs, _, h => by rw [VRs.nil_iff] at h; subst h; exact ⟨.nil, rfl⟩
  | p :: ps, qs, hp, h => by
    obtain ⟨q, qs2, rfl, h1, h2⟩ := VRs.cons_iff.1 h
    rw [List.all_cons, Bool.and_eq_true] at hp
    obtain ⟨e1, e2⟩ := VRs.strip hp.2 h2
    rw [List.map_cons, List.all_cons, Bool.and_eq_true]
    have : VR X r p q.strip ∧ noTok q.strip = true := by
      have hp1 := hp.1
      cases h1 with
      | bool _ => exact ⟨.bool .nil, rfl⟩
      | int _ => exact ⟨.int .nil, rfl⟩
      | str _ => exact ⟨.str .nil, rfl⟩
      | @row t l f xs f' n _ _ k1 k2 k3 k4 k5 _ =>
        cases f with
        | sh => exact ⟨.row k1 k2 k3 k4 trivial .nil, rfl⟩
        | own _ => simp [plainC] at hp1
      | _ => simp [plainC] at hp1
    exact ⟨VRs.cons this.1 e1, this.2, e2⟩
theorem VRs.layStrip (hX : XOk X) {t : TypeId} {n : Nat} (hn : X.wd t = some n) {a : X.A t} {qs : List PV} (h : VRs X r (X.lay t a) qs) : VRs X r (X.lay t a) (qs.map PV.strip) ∧ (qs.map PV.strip).all noTok = true := VRs.strip ((hX.wd t n hn).2.2.2 a).2 h
theorem RowR.strip (hX : XOk X) {e : TypeId} {n : Nat} {l : List (X.A e)} {xs : List (List PV)} (h : RowR X r e n l xs) : RowR X r e n l (stripRow xs) ∧ NoTok (stripRow xs) := by
  obtain ⟨h1, h2, h3⟩ := h
  refine ⟨⟨h1, by simp [stripRow, h2], fun i a c ha hc => ?_⟩, fun c hc => ?_⟩
  · simp only [stripRow, List.getElem?_map, Option.map_eq_some_iff] at hc
    obtain ⟨d, hd, rfl⟩ := hc
    exact ((h3 i a d ha hd).layStrip hX h1).1
  · simp only [stripRow, List.mem_map] at hc
    obtain ⟨d, hd, rfl⟩ := hc
    obtain ⟨i, hi, rfl⟩ := List.mem_iff_getElem.1 hd
    have h5 : l[i]? = some (l[i]'(by omega)) := by simp [show i < l.length by omega]
    exact ((h3 i _ _ h5 (by simp [hi])).layStrip hX h1).2
theorem RowR.set {e : TypeId} {n : Nat} {l : List (X.A e)} {xs : List (List PV)} (h : RowR X r e n l xs) {i : Nat} {a : X.A e} {c : List PV} (hc : VRs X r (X.lay e a) c) : RowR X r e n (l.set i a) (xs.set i c) := by
  obtain ⟨h1, h2, h3⟩ := h
  refine ⟨h1, by simp [h2], fun j b d hb hd => ?_⟩
  rw [List.getElem?_set] at hb hd
  split at hb
  · rename_i hij
    rw [if_pos hij] at hd
    split at hb
    · rename_i hl
      rw [if_pos (by omega)] at hd
      simp only [Option.some.injEq] at hb hd
      subst hb; subst hd; exact hc
    · cases hb
  · rename_i hij
    rw [if_neg hij] at hd
    exact h3 j b d hb hd
theorem NoTok.set {xs : List (List PV)} (h : NoTok xs) {i : Nat} {c : List PV} (hc : c.all noTok = true) : NoTok (xs.set i c) := fun d hd => by
  rcases List.mem_or_eq_of_mem_set hd with h1 | rfl
  · exact h d h1
  · exact hc
theorem RowR.replicate {e : TypeId} {n m : Nat} {a : X.A e} {c : List PV} (hn : X.wd e = some n) (hc : VRs X r (X.lay e a) c) : RowR X r e n (List.replicate m a) (List.replicate m c) :=
  ⟨hn, by simp, fun i b d hb hd => by
    rw [List.getElem?_replicate] at hb hd
    split at hb
    · rename_i hi
      rw [if_pos hi] at hd
      simp only [Option.some.injEq] at hb hd
      subst hb; subst hd; exact hc
    · cases hb⟩
theorem NoTok.replicate {m : Nat} {c : List PV} (hc : c.all noTok = true) : NoTok (List.replicate m c) := fun d hd => by
  rw [List.mem_replicate] at hd; rw [hd.2]; exact hc
theorem cells_noCk {p : TV X.A} {q : PV} {e : TypeId} {n : Nat} {x : X.A e} (hX : XOk X) (hn : X.wd e = some n) (hd : X.dec e p.cells = some x) (hv : VR X r p q) : VRs X r (X.lay e x) q.cells := by
  have h0 : VRs X r p.cells q.cells ∨ p.cells = [.any] ∨ (∃ vs, p.cells = [.tuple vs]) ∨ (∃ a b c d e, p.cells = [.yld a b c d e]) ∨ (∃ x, p = .cst x) := by
    cases hv with
    | agg h _ => exact .inl h
    | any _ => exact .inr (.inl rfl)
    | tuple _ _ => exact .inr (.inr (.inl ⟨_, rfl⟩))
    | yld _ _ => exact .inr (.inr (.inr (.inl ⟨_, _, _, _, _, rfl⟩)))
    | cst _ _ => exact .inr (.inr (.inr (.inr ⟨_, rfl⟩)))
    | bool _ => exact .inl (.bool .nil)
    | int _ => exact .inl (.int .nil)
    | str _ => exact .inl (.str .nil)
    | row k1 k2 k3 k4 k5 _ => exact .inl (.row k1 k2 k3 k4 k5 .nil)
    | refn k1 _ => exact .inl (.refn k1 .nil)
    | ref k1 k2 _ => exact .inl (.ref k1 k2 .nil)
    | refe k1 k2 k3 _ => exact .inl (.refe k1 k2 k3 .nil)
    | ptr k1 _ => exact .inl (.ptr k1 .nil)
    | aptr k1 k2 _ => exact .inl (.aptr k1 k2 .nil)
    | iptr k1 k2 k3 _ => exact .inl (.iptr k1 k2 k3 .nil)
    | eptr k1 _ => exact .inl (.eptr k1 .nil)
    | eptrF k1 k2 k3 k4 _ => exact .inl (.eptrF k1 k2 k3 k4 .nil)
    | optn _ => exact .inl (.optn .nil)
    | opts k1 k2 _ =>
      cases k2 with
      | eptr k3 _ => exact .inl (.opts k1 (.eptr k3 .nil) .nil)
      | eptrF k3 k4 k5 k6 _ => exact .inl (.opts k1 (.eptrF k3 k4 k5 k6 .nil) .nil)
    | nilt _ => exact .inl (.nilt .nil)
    | nilf k _ => exact .inl (.nilf k .nil)
    | fn k1 k2 _ => exact .inl (.fn k1 k2 .nil)
  have lone : ∀ (q' : PV), p.cells = [p] → VRs X r (X.lay e x) [q'] → True := fun _ _ _ => trivial
  rcases h0 with h | h | ⟨vs, h⟩ | ⟨a, b, c, d, g, h⟩ | ⟨y, rfl⟩
  · exact hX.dec e n hn _ _ hd r _ h
  · -- an unknown cell may be anything: the element's cells are related to any such
    have hall : ∀ q', VRs X r (X.lay e x) [q'] := fun q' => hX.dec e n hn _ _ hd r [q'] (by rw [h]; exact .any .nil)
    have hl := (hall .any).layOne hX hn
    simp [PV.one] at hl
  · have hall : VRs X r (X.lay e x) [.tuple []] ∨ True := .inr trivial
    cases p with
    | tuple vs' =>
      cases hv with
      | tuple k _ =>
        exact hX.dec e n hn _ _ hd r _ (.tuple k .nil)
    | agg cs =>
      cases hv with
      | agg k _ => exact hX.dec e n hn _ _ hd r _ k
    | _ => simp [TV.cells] at h
  · cases p with
    | yld =>
      cases hv with
      | yld k _ => exact hX.dec e n hn _ _ hd r _ (.yld k .nil)
    | agg cs =>
      cases hv with
      | agg k _ => exact hX.dec e n hn _ _ hd r _ k
    | _ => simp [TV.cells] at h
  · cases hv with
    | cst hc _ =>
      rcases hc with ⟨h2, rfl⟩ | ⟨rfl, rfl⟩
      · exact hX.dec e n hn _ _ hd r _ (.cst (.inl ⟨h2, rfl⟩) .nil)
      · exact hX.dec e n hn _ _ hd r _ (.cst (.inr ⟨rfl, rfl⟩) .nil)
theorem rowParts_ok (hX : XOk X) {e : TypeId} {n : Nat} : ∀ {ps : List (Nat × Operand)} {l l2 : List (X.A e)} {xs : List (List PV)}, VRs X r tm tm' → RowR X r e n l xs → NoTok xs → rowT X e l (ps.map fun p => (p.1, TV.ev tm p.2)) = some l2 →
    ∃ xs2, rowParts n xs (ps.map fun p => (p.1, PV.ev tm' p.2)) = some xs2 ∧ RowR X r e n l2 xs2 ∧ NoTok xs2
  | [], l, l2, xs, _, hr, hk, h => by
    simp only [List.map_nil, rowT, Option.some.injEq] at h
    subst h
    exact ⟨xs, rfl, hr, hk⟩
  | p :: ps, l, l2, xs, hv, hr, hk, h => by
    simp only [List.map_cons, rowT] at h
    cases hd : X.dec e (TV.ev tm p.2).cells with
    | none => rw [hd] at h; cases h
    | some x =>
      rw [hd] at h
      simp only at h
      split at h
      · rename_i hi
        have hc := cells_noCk hX hr.1 hd (hv.ev p.2)
        have h1 := hc.layOne hX hr.1
        have h2 := hc.layStrip hX hr.1
        obtain ⟨xs2, k1, k2⟩ := rowParts_ok hX hv (hr.set (i := p.1) h2.1) (hk.set h2.2) h
        refine ⟨xs2, ?_, k2⟩
        simp only [List.map_cons, rowParts]
        rw [if_pos ⟨h1.2, by rw [← hr.2.1]; exact hi, h1.1⟩]
        exact k1
      · cases h
theorem RowR.loc {e : TypeId} {n : Nat} {l : List (X.A e)} {xs : List (List PV)} (h : RowR X r e n l xs) : LocR X r (.arr e l) xs.flatten := ⟨n, xs, [], h.1, by simp, h.2.1, h.2.2⟩
theorem RowR.mono (hs : SRel X r s v) {r' : Rn} (he : Ext r r') {e : TypeId} {n : Nat} {l : List (X.A e)} {xs : List (List PV)} (h : RowR X r e n l xs) : RowR X r' e n l xs := ⟨h.1, h.2.1, fun i a c ha hc => (h.2.2 i a c ha hc).mono hs.wf he⟩
theorem RowR.vr {e : TypeId} {n : Nat} {l : List (X.A e)} {xs : List (List PV)} (h : RowR X r e n l xs) (hk : NoTok xs) {f : TF} {f' : Flag} (hf : FlagR r f f') : VR X r (.row e l f) (.row xs f') := .row h.1 h.2.1 h.2.2 hk hf .nil
/-- A new row of its own. -/
theorem mkRow_ok (hs : SRel X r s v) {ref : Bool} {e : TypeId} {n : Nat} {l : List (X.A e)} {xs : List (List PV)} (hr : RowR X r e n l xs) (hk : NoTok xs) (h : (match mkRowT X ref e l s with | (p, st') => K p st') = some z) {res : Option (PV × St)} (he : res = some (mkRow ref n xs v)) : OpR X r s v K z res := by
  unfold mkRowT at h
  cases ref with
  | true =>
    simp only [if_true] at h
    refine ⟨_, _, r.loc (some v.locs.length), .ref v.locs.length n (0 * n) l.length, YtlkaoiceehlkmaaVE.newLoc v xs.flatten, h, ExtK.loc _ _, .ref hr.1 (by simp [Rn.loc, hs.nl]) .nil, hs.newLoc hr.loc, TFr.newL _ _, ?_⟩
    rw [he]
    simp [mkRow, hr.2.1]
  | false =>
    simp only [Bool.false_eq_true, if_false] at h
    refine ⟨_, _, r.tok none, .row xs .full, v, h, ExtK.tok _ _, (hr.mono hs (Ext.tok _ _)).vr hk ⟨by simp [Rn.tok, hs.nt], .inr (.inl rfl)⟩, ?_, ?_, ?_⟩
    · refine hs.tok rfl rfl rfl (Nat.le_refl _) (fun t ht => ?_) (fun u hu => by cases hu) (fun t _ ht u hu => (hs.live t u ht hu).1) hs.fo hs.vlt
      simpa using ht
    · exact ⟨Nat.le_refl _, by simp, fun _ h => h, fun _ _ _ => rfl, fun u hu hl => by
        simp only [List.mem_cons] at hu
        rcases hu with rfl | hu
        · omega
        · exact hu⟩
    · rw [he]; rfl
theorem buildSlice_ok (hX : XOk X) (hs : SRel X r s v) (hv : VRs X r tm tm') {t : TypeId} {m : Nat} {ps : Array (Nat × Operand)} (ho : o.op = .buildSlice t m ps)
    (h : (cK (tyElem X.C.P t) fun e => cK (X.wd e) fun w => cK (zeroT X e) fun z => cK (X.dec e z) fun a => dK (z.all oneT && decide (m * w ≤ 2 ^ 24)) <| cK (rowT X e (List.replicate m a) (ps.toList.map fun p => (p.1, TV.ev tm p.2))) fun l =>
      match mkRowT X (rfOf X.C f o) e l s with | (p, st') => K p st') = some z) : OpR X r s v K z (evOp X.C call f ⟨0, none⟩ tm' v o) := by
  obtain ⟨e, he, h⟩ := cK_some h
  obtain ⟨w, hw, h⟩ := cK_some h
  obtain ⟨zs, hz, h⟩ := cK_some h
  obtain ⟨a, ha, h⟩ := cK_some h
  obtain ⟨h1, h⟩ := dK_some h
  obtain ⟨l, hl, h⟩ := cK_some h
  rw [Bool.and_eq_true, decide_eq_true_eq] at h1
  obtain ⟨z', z1, z2, z3⟩ := zero_ok (r := r) hz
  have za := hX.dec e w hw _ _ ha r _ z2
  have z4 := za.layOne hX hw
  obtain ⟨hsz, hpos, _⟩ := hX.wd e w hw
  obtain ⟨xs2, k1, k2, k3⟩ := rowParts_ok hX hv (RowR.replicate hw za) (NoTok.replicate z3) hl
  refine mkRow_ok hs k2 k3 h ?_
  simp only [evOp, ho, evBuildSlice, he, hsz, z1]
  rw [if_pos ⟨z4.2, z4.1, h1.2, hpos⟩, k1]
  rfl
theorem asI_ok {p : TV X.A} {q : PV} {i : Int} (h : asInt X p = some i) (hv : VR X r p q) : asI q = some i := by
  cases p with
  | int k n =>
    simp only [asInt, Option.some.injEq] at h
    subst h
    cases hv with | int _ => rfl
  | _ => simp [asInt] at h
theorem bytes_info {e : TypeId} {n b : Nat} (h1 : tySize X.C.P e = some n) (h2 : bytes X.C.P e = some b) : ∃ i, X.C.P.info? e = some i ∧ i.size = n ∧ i.bytes = b := by
  unfold tySize at h1
  unfold bytes at h2
  rw [Option.map_eq_some_iff] at h1 h2
  obtain ⟨i, e1, e2⟩ := h1
  obtain ⟨j, e3, e4⟩ := h2
  rw [e1] at e3
  simp only [Option.some.injEq] at e3
  subst e3
  exact ⟨i, e1, e2, e4⟩
theorem makeSlice_ok (hX : XOk X) (hs : SRel X r s v) (hv : VRs X r tm tm') {t : TypeId} {a b : Operand} (ho : o.op = .makeSlice t a b)
    (h : (cK (asInt X (TV.ev tm a)) fun l => cK (asInt X (TV.ev tm b)) fun c => cK (tyElem X.C.P t) fun e => cK (bytes X.C.P e) fun b => cK (X.wd e) fun w => cK (zeroT X e) fun z => cK (X.dec e z) fun a => dK (z.all oneT) <|
      bK (decide (l = c) && decide (0 ≤ l) && fits b l.toNat) (match mkRowT X (rfOf X.C f o) e (List.replicate l.toNat a) s with | (p, st') => K p st') none) = some z) : OpR X r s v K z (evOp X.C call f ⟨0, none⟩ tm' v o) := by
  obtain ⟨l, hl, h⟩ := cK_some h
  obtain ⟨c, hc, h⟩ := cK_some h
  obtain ⟨e, he, h⟩ := cK_some h
  obtain ⟨bt, hb, h⟩ := cK_some h
  obtain ⟨w, hw, h⟩ := cK_some h
  obtain ⟨zs, hz, h⟩ := cK_some h
  obtain ⟨y, hy, h⟩ := cK_some h
  obtain ⟨_, h⟩ := dK_some h
  obtain ⟨h1, h⟩ := gK_some h
  simp only [fits, Bool.and_eq_true, decide_eq_true_eq] at h1
  obtain ⟨⟨h2, h3⟩, h4, h5⟩ := h1
  obtain ⟨z', z1, z2, z3⟩ := zero_ok (r := r) hz
  have za := hX.dec e w hw _ _ hy r _ z2
  have z4 := za.layOne hX hw
  obtain ⟨hsz, hpos, _⟩ := hX.wd e w hw
  obtain ⟨i, i1, i2, i3⟩ := bytes_info hsz hb
  refine mkRow_ok hs (RowR.replicate hw za) (NoTok.replicate z3) h ?_
  simp only [evOp, ho, evMakeSlice, he, asI_ok hl (hv.ev a), asI_ok hc (hv.ev b), i1, z1]
  have hb2 : (i.bytes : Int) * l ≤ 140737488355328 := by
    have e : ((l.toNat * bt : Nat) : Int) = (i.bytes : Int) * l := by rw [i3, Int.natCast_mul, Int.toNat_of_nonneg h3, Int.mul_comm]
    rw [← e]
    generalize l.toNat * bt = q at h4
    omega
  have hl2 : l ≤ 9223372036854775807 := by omega
  rw [if_pos ⟨h2, h3, hl2, hb2, by rw [i2]; exact z4.2, z4.1, by rw [i2]; exact hpos⟩, i2]
end two
end Go.Proofs.YtlkaoiceehlkmaaTE
