import Derived.Test.YthngeddaeoeimaaDoorVeH
namespace Go.Proofs.YthngeddaeoeimaaDoorVE
open Go Go.RowKit
set_option linter.unusedVariables false
set_option linter.unusedSimpArgs false

/-- The kinds of operations that are reckoned by the machine itself, over values without addresses. -/
def flatKind : Op → Bool
  | .binOp .. | .unOp .. | .convert .. | .index .. | .slice .. | .pick .. => true
  | .call c => match c.callee with
    | .builtin _ => true
    | _ => false
  | _ => false
theorem execOp_congr {ρ ρ' : Operand → Value} {o : Oper} (hk : flatKind o.op = true) (h : ∀ x ∈ o.op.operands.toList, ρ x = ρ' x) : execOp ρ o = execOp ρ' o := by
  cases ho : o.op <;> rw [ho] at hk h <;> simp only [flatKind] at hk <;> (try cases hk)
  case binOp op t x y t' =>
    simp only [Op.operands, List.mem_cons, List.not_mem_nil, or_false] at h
    simp only [execOp, ho, h x (.inl rfl), h y (.inr rfl)]
  case unOp op t x =>
    simp only [Op.operands, List.mem_cons, List.not_mem_nil, or_false] at h
    simp only [execOp, ho, h x rfl]
  case convert s d x =>
    simp only [Op.operands, List.mem_cons, List.not_mem_nil, or_false] at h
    simp only [execOp, ho, h x rfl]
  case index t x i =>
    simp only [Op.operands, List.mem_cons, List.not_mem_nil, or_false] at h
    simp only [execOp, ho, h x (.inl rfl), h i (.inr rfl)]
  case pick c x y =>
    simp only [Op.operands, List.mem_cons, List.not_mem_nil, or_false] at h
    simp only [execOp, ho, h c (.inl rfl), h x (.inr (.inl rfl)), h y (.inr (.inr rfl))]
  case slice t x lo hi mx =>
    have h1 : ρ x = ρ' x := h x (by simp [Op.operands])
    have h2 : lo.map ρ = lo.map ρ' := by cases lo with | none => rfl | some l => simp only [Option.map_some]; rw [h l (by simp [Op.operands])]
    have h3 : hi.map ρ = hi.map ρ' := by cases hi with | none => rfl | some l => simp only [Option.map_some]; rw [h l (by simp [Op.operands])]
    have h4 : mx.map ρ = mx.map ρ' := by cases mx with | none => rfl | some l => simp only [Option.map_some]; rw [h l (by simp [Op.operands])]
    simp only [execOp, ho, h1, h2, h3, h4]
  case call c =>
    split at hk
    · rename_i b hb
      have h1 : c.args.map ρ = c.args.map ρ' := by
        apply Array.map_congr_left
        intro x hx
        exact h x (by simp [Op.operands, Call.operands, hb]; exact hx)
      simp only [execOp, ho, resolve, hb, h1]
    · cases hk

section ops
variable {P : Program} {B : Base} {g : Gh} {st : St} {w : World} {wr : Wr} {tm : List PV} {a : Act}
theorem flat_ok {o : Oper} {p : PV} (h : evFlat P tm o = some p) (hk : flatKind o.op = true) (ht : Reps g tm a.tmps.toList) : ∃ v, (execOp a.eval o).run P w = .ok (.value v) w ∧ Rep g p v := by
  unfold evFlat at h
  split at h
  · rename_i hall
    rw [List.all_eq_true] at hall
    have hcongr : execOp (fun x => (toV (PV.ev tm x)).getD undef) o = execOp a.eval o := execOp_congr hk fun x hx => by
      obtain ⟨y, hy⟩ := Option.isSome_iff_exists.1 (hall x hx)
      rw [hy, Option.getD_some]
      exact (Rep.toV _ _ _ (Rep.ev ht x) hy).symm
    split at h
    · rename_i v hv
      have := runP_run hv w
      rw [hcongr] at this
      exact ⟨v, this, Rep.ofV h⟩
    · cases h
  · cases h
theorem len_ok {t : TypeId} {ts : Array TypeId} {ty : TypeId} {x p : PV} {xv : Value} (h : evLen P t x = some p) (hts : ts[0]? = some t) (hx : Rep g x xv) : ∃ v, (Builtin.len_ ts ty #[xv]).run P w = .ok v w ∧ Rep g p v := by
  unfold evLen at h
  split at h
  · rename_i e xs f hu
    simp only [Option.some.injEq] at h
    subst h
    simp only [Rep] at hx
    rcases hx with ⟨rfl, rfl, _⟩ | ⟨b, o, sz, cap, vals, rfl, _⟩
    · exact ⟨goInt 0, by simp [Builtin.len_, hts, run_underlying hu], Rep.ofFlat rfl⟩
    · exact ⟨goInt xs.length, by simp [Builtin.len_, hts, run_underlying hu], Rep.ofFlat rfl⟩
  · rename_i e l sz off len hu
    simp only [Option.some.injEq] at h
    subst h
    simp only [Rep] at hx
    obtain ⟨cap, rfl, _⟩ := hx
    exact ⟨goInt len, by simp [Builtin.len_, hts, run_underlying hu], Rep.ofFlat rfl⟩
  · cases h
theorem nilCheck_ok {x p : PV} {xv : Value} (h : evNilCheck x = some p) (hx : Rep g x xv) {o : Oper} {y : Operand} (ho : o.op = .nilCheck y) {ρ : Operand → Value} (hy : ρ y = xv) : (execOp ρ o).run P w = .ok (.value xv) w ∧ Rep g p xv := by
  unfold evNilCheck at h
  split at h
  · simp only [Option.some.injEq] at h
    subst h
    refine ⟨?_, hx⟩
    simp only [Rep] at hx
    obtain ⟨rfl, _⟩ := hx
    simp [execOp, ho, hy]
  · simp only [Option.some.injEq] at h
    subst h
    refine ⟨?_, hx⟩
    simp only [Rep] at hx
    obtain ⟨b, o', vals, rfl, _⟩ := hx
    simp [execOp, ho, hy]
  · simp only [Option.some.injEq] at h
    subst h
    refine ⟨?_, hx⟩
    simp only [Rep] at hx
    obtain ⟨va, vb, rfl, _⟩ := hx
    simp [execOp, ho, hy]
  · cases h
theorem nilCmp_ok {t : TypeId} {x y : PV} {xv yv : Value} {b : Bool} (h : nilCmp P t x y = some b) (hx : Rep g x xv) (hy : Rep g y yv) (cx cy : Operand) :
    (∀ s : Sem Value, (do eqGuard .eql t cx cy xv yv; s : Sem Value).run P w = s.run P w) ∧ (∀ s : Sem Value, (do eqGuard .neq t cx cy xv yv; s : Sem Value).run P w = s.run P w) ∧ (Op.equal t xv yv).run P w = .ok b w ∧
    binOp .eql t xv yv = (do pure (.bool (← Op.equal t xv yv))) ∧ binOp .neq t xv yv = (do pure (.bool (!(← Op.equal t xv yv)))) := by
  have key : ∀ {d : TypeDesc} {X Y : Value}, P.underlying t = some d → xv = X → yv = Y → (∀ d : Nat, (Op.equalIn (d + 1) t X Y).run P w = .ok b w) → (Op.equal t xv yv).run P w = .ok b w := fun _ h1 h2 h => by rw [h1, h2]; exact h 9999
  unfold nilCmp at h
  split at h
  all_goals first
    | (cases h; done)
    | skip
  · rename_i e l o hu
    simp only [Option.some.injEq] at h
    subst h
    simp only [Rep] at hx hy
    obtain ⟨rfl, _⟩ := hx
    obtain ⟨rfl, _⟩ := hy
    exact ⟨fun s => by simp [eqGuard], fun s => by simp [eqGuard], key hu rfl rfl (fun d => by simp [Op.equalIn, run_underlying hu]), rfl, rfl⟩
  · rename_i e cs hu
    simp only [Option.some.injEq] at h
    subst h
    simp only [Rep] at hx hy
    obtain ⟨b, o, vals, rfl, _⟩ := hx
    obtain ⟨rfl, _⟩ := hy
    exact ⟨fun s => by simp [eqGuard], fun s => by simp [eqGuard], key hu rfl rfl (fun d => by simp [Op.equalIn, run_underlying hu]), rfl, rfl⟩
  · rename_i e l o hu
    simp only [Option.some.injEq] at h
    subst h
    simp only [Rep] at hx hy
    obtain ⟨rfl, _⟩ := hx
    obtain ⟨rfl, _⟩ := hy
    exact ⟨fun s => by simp [eqGuard], fun s => by simp [eqGuard], key hu rfl rfl (fun d => by simp [Op.equalIn, run_underlying hu]), rfl, rfl⟩
  · rename_i e cs hu
    simp only [Option.some.injEq] at h
    subst h
    simp only [Rep] at hx hy
    obtain ⟨rfl, _⟩ := hx
    obtain ⟨b, o, vals, rfl, _⟩ := hy
    exact ⟨fun s => by simp [eqGuard], fun s => by simp [eqGuard], key hu rfl rfl (fun d => by simp [Op.equalIn, run_underlying hu]), rfl, rfl⟩
  · rename_i e hu
    simp only [Option.some.injEq] at h
    subst h
    have hn : ∀ {v : Value}, Rep g (.row [] .nil) v → v = .slice none 0 0 := fun {v} hv => by
      simp only [Rep] at hv
      rcases hv with ⟨_, rfl, _⟩ | ⟨b, o, sz, cap, vals, _, _, _, _, _, h6⟩
      · rfl
      · exact h6.elim
    obtain rfl := hn hx
    obtain rfl := hn hy
    exact ⟨fun s => by simp [eqGuard], fun s => by simp [eqGuard], key hu rfl rfl (fun d => by simp [Op.equalIn, run_underlying hu]), rfl, rfl⟩
  · rename_i e xs t' hu
    simp only [Option.some.injEq] at h
    subst h
    have hn : yv = .slice none 0 0 := by
      simp only [Rep] at hy
      rcases hy with ⟨_, rfl, _⟩ | ⟨b, o, sz, cap, vals, _, _, _, _, _, h6⟩
      · rfl
      · exact h6.elim
    obtain rfl := hn
    simp only [Rep] at hx
    rcases hx with ⟨_, _, h3⟩ | ⟨b, o, sz, cap, vals, rfl, _⟩
    · exact h3.elim
    · exact ⟨fun s => by simp [eqGuard], fun s => by simp [eqGuard], key hu rfl rfl (fun d => by simp [Op.equalIn, run_underlying hu]), rfl, rfl⟩
  · rename_i e l sz off len hu
    simp only [Option.some.injEq] at h
    subst h
    have hn : yv = .slice none 0 0 := by
      simp only [Rep] at hy
      rcases hy with ⟨_, rfl, _⟩ | ⟨b, o, sz, cap, vals, _, _, _, _, _, h6⟩
      · rfl
      · exact h6.elim
    obtain rfl := hn
    simp only [Rep] at hx
    obtain ⟨cap, rfl, _⟩ := hx
    exact ⟨fun s => by simp [eqGuard], fun s => by simp [eqGuard], key hu rfl rfl (fun d => by simp [Op.equalIn, run_underlying hu]), rfl, rfl⟩
  · rename_i p r v f x1 x2 hu
    simp only [Option.some.injEq] at h
    subst h
    simp only [Rep] at hx hy
    obtain ⟨va, vb, rfl, _⟩ := hx
    obtain ⟨rfl, _⟩ := hy
    exact ⟨fun s => by simp [eqGuard], fun s => by simp [eqGuard], key hu rfl rfl (fun d => by simp [Op.equalIn, run_underlying hu]), rfl, rfl⟩
  · rename_i ms t' q hu
    simp only [Option.some.injEq] at h
    subst h
    simp only [Rep] at hx hy
    obtain ⟨u, rfl, _⟩ := hx
    obtain ⟨rfl, _⟩ := hy
    exact ⟨fun s => by simp [eqGuard], fun s => by simp [eqGuard], key hu rfl rfl (fun d => by simp [Op.equalIn, run_underlying hu]), rfl, rfl⟩
theorem evIntCmp_ok {op : BinOp} {t t' : TypeId} {x y : Operand} {o : Oper} {p : PV} (ho : o.op = .binOp op t x y t') (h : evIntCmp op (PV.ev tm x) (PV.ev tm y) = some p) (ht : Reps g tm a.tmps.toList) :
    ∃ v, (execOp a.eval o).run P w = .ok (.value v) w ∧ Rep g p v := by
  unfold evIntCmp at h
  split at h
  · rename_i k m j n hx hy
    have h1 := Rep.ev ht x
    have h2 := Rep.ev ht y
    rw [hx] at h1
    rw [hy] at h2
    simp only [Rep] at h1 h2
    split at h
    · rename_i hk
      subst hk
      have key : ∀ b : Bool, (execOp a.eval o).run P w = .ok (.value (.bool b)) w → ∃ v, (execOp a.eval o).run P w = .ok (.value v) w ∧ Rep g (.v (.bool b)) v := fun b hb => ⟨_, hb, Rep.ofFlat rfl⟩
      cases op <;> simp only [reduceCtorEq, Option.some.injEq] at h <;> subst h <;> refine key _ ?_ <;> simp [execOp, ho, eqGuard, binOp, Op.intCmp, h1.1, h2.1, GT.gt, GE.ge, Int.not_lt, ← decide_not]
    · cases h
  · cases h
theorem evNilCmp_ok {op : BinOp} {t t' : TypeId} {x y : Operand} {o : Oper} {p : PV} (ho : o.op = .binOp op t x y t') (h : evNilCmp P op t (PV.ev tm x) (PV.ev tm y) = some p) (ht : Reps g tm a.tmps.toList) :
    ∃ v, (execOp a.eval o).run P w = .ok (.value v) w ∧ Rep g p v := by
  unfold evNilCmp at h
  split at h
  · rename_i r hr
    simp only [Option.some.injEq] at h
    subst h
    exact evIntCmp_ok ho hr ht
  rename_i hno; clear hno
  split at h
  · rename_i b hb
    simp only [Option.some.injEq] at h
    subst h
    obtain ⟨h1, h2, h3, h4, h5⟩ := nilCmp_ok (w := w) hb (Rep.ev ht x) (Rep.ev ht y) x y
    refine ⟨.bool b, ?_, Rep.ofFlat rfl⟩
    simp only [execOp, ho, Sem.run_bind, h1, h4, h3, Result.andThen_ok, Sem.run_pure]
  · rename_i b hb
    simp only [Option.some.injEq] at h
    subst h
    obtain ⟨h1, h2, h3, h4, h5⟩ := nilCmp_ok (w := w) hb (Rep.ev ht x) (Rep.ev ht y) x y
    refine ⟨.bool (!b), ?_, Rep.ofFlat rfl⟩
    simp only [execOp, ho, Sem.run_bind, h2, h5, h3, Result.andThen_ok, Sem.run_pure]
  · cases h
theorem bytes_fold (ns : List Int) : ∀ acc : ByteArray, ns.foldl (fun (r : ByteArray) n => r.push (UInt8.ofNat n.toNat)) acc = ⟨acc.data ++ (ns.map fun n => UInt8.ofNat n.toNat).toArray⟩ := by
  induction ns with
  | nil => intro acc; cases acc; simp
  | cons n ns ih =>
    intro acc
    rw [List.foldl_cons, ih]
    congr 1
    show (acc.data.push _) ++ _ = _
    simp
theorem bytes_of {xs : List (List PV)} {bs : List UInt8} (h : xs.mapM byteOf = some bs) : ∃ ns : List Int, xs = ns.map (fun n => [PV.v (.int .u8 n)]) ∧ bs = ns.map fun n => UInt8.ofNat n.toNat := by
  induction xs generalizing bs with
  | nil => simp at h; exact ⟨[], rfl, h⟩
  | cons c xs ih =>
    simp only [List.mapM_cons, Option.bind_eq_bind, Option.bind_eq_some_iff, Option.pure_def, Option.some.injEq] at h
    obtain ⟨b, hb, bs', hbs, rfl⟩ := h
    obtain ⟨ns, h1, h2⟩ := ih hbs
    unfold byteOf at hb
    split at hb
    · rename_i n
      simp only [Option.some.injEq] at hb
      exact ⟨n :: ns, by simp [h1], by simp [h2, hb]⟩
    · cases hb
theorem Reps.bytes {ns : List Int} : ∀ {vals : List Value}, Reps g (ns.map (fun n => [PV.v (.int .u8 n)])).flatten vals → vals = ns.map (Value.int .u8) := by
  induction ns with
  | nil => intro vals h; simpa [Reps] using h
  | cons n ns ih =>
    intro vals h
    simp only [List.map_cons, List.flatten_cons, List.singleton_append, Reps, Rep] at h
    obtain ⟨v, vs, rfl, ⟨rfl, _⟩, h⟩ := h
    rw [ih h]
    rfl
theorem convert_ok (hs : SR B g st w) {s d : TypeId} {x p : PV} {xv : Value} (h : evConvert P s d x = some p) (hx : Rep g x xv) : ∃ v, (convert s d xv).run P w = .ok v w ∧ Rep g p v := by
  unfold evConvert at h
  split at h
  · rename_i e xs f hu hd
    split at h
    · rename_i he
      simp only [Option.map_eq_some_iff] at h
      obtain ⟨bs, hbs, rfl⟩ := h
      obtain ⟨ns, rfl, rfl⟩ := bytes_of hbs
      refine ⟨.string ⟨(ns.map fun n => UInt8.ofNat n.toNat).toArray⟩, ?_, Rep.ofFlat rfl⟩
      simp only [Rep] at hx
      rcases hx with ⟨hns, rfl, _⟩ | ⟨b, o, sz, cap, vals, rfl, h2, h3, h4, h5, h6⟩
      · have : ns = [] := by simpa using hns
        subst this
        rw [run_convert_bytes_string w s d e none 0 0 hu he hd]
        simp [Conv.bytesToString]
        try rfl
      · have hr := Repss_iff.1 h4
        have hvals := hr.bytes
        rw [run_convert_bytes_string w s d e _ _ _ hu he hd]
        rw [run_bytesToString w ⟨b, o, none⟩ _ cap ns]
        · rw [bytes_fold]; simp; try rfl
        · have hl := load_cells (P := P) (w := w) (b := b) (o := o) (vals := vals) (fun j u hj => hs.im _ _ _ (h3 j u hj))
          rw [hvals] at hl
          simpa using hl
    · cases h
  · cases h
end ops
end Go.Proofs.YthngeddaeoeimaaDoorVE
