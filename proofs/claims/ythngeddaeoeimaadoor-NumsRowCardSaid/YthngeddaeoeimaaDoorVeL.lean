import Derived.Test.YthngeddaeoeimaaDoorVeK
namespace Go.Proofs.YthngeddaeoeimaaDoorVE
open Go Go.RowKit
set_option linter.unusedVariables false
set_option linter.unusedSimpArgs false

/-! Regions in their order. -/
section region
variable {C : Cfg} {call : Call} {B : Base} {g : Gh} {st st' : St} {w : World} {wr : Wr} {tm tm' : List PV} {a : Act} {o : Oper}
theorem wanted_ok {ops : Array Oper} {b : Bool} (h : wantedP ops.toList tm o = some b) (ht : Reps g tm a.tmps.toList) : Region.wanted o (yielded ops a.tmps) = b := by
  unfold wantedP at h
  unfold Region.wanted
  split at h
  · rename_i hg
    simp only [Option.some.injEq] at h
    subst h
    rw [hg]
  · rename_i j want hg
    rw [hg]
    simp only
    unfold yielded
    rw [Array.getElem?_toList] at h
    split at h
    · rename_i hd
      simp only [Option.some.injEq] at h
      subst h
      rw [hd]
      simp
    · rename_i d hd
      rw [hd]
      simp only [Option.bind_some]
      have hget : ∀ x : Value, tm.getD d .any = .v x → a.tmps[d]? = some x := fun x hx => by
        rcases Nat.lt_or_ge d tm.length with hl | hl
        · have h1 : tm[d]? = some (.v x) := by rw [← hx]; simp [List.getD, hl]
          have h2 : d < a.tmps.size := by rw [← Array.length_toList, ht.length]; exact hl
          have h3 : a.tmps.toList[d]? = some a.tmps[d] := by simp [h2]
          have := ht.get h1 h3
          simp only [Rep] at this
          rw [Array.getElem?_eq_getElem h2, this.1]
        · have : tm.getD d .any = .any := by simp [List.getD, List.getElem?_eq_none hl]
          rw [this] at hx; cases hx
      unfold wantV at h
      split at h
      · rename_i c hc
        rw [hget _ hc]
        simp only [Option.some.injEq] at h
        subst h
        simp
      · rename_i x hnb hx
        rw [hget _ hx]
        simp only [Option.some.injEq] at h
        subst h
        cases x <;> first | rfl | (rename_i c; exact absurd rfl (hnb c))
      · cases h
theorem put_ok {p : PV} {v : Value} (ht : Reps g tm a.tmps.toList) (hp : Rep g p v) (d : Option Tmp) : Reps g (putP tm d p) (a.put d v).tmps.toList := by
  cases d with
  | none => exact ht
  | some d =>
    simp only [putP, Act.put, Array.toList_setIfInBounds]
    exact ht.set hp
theorem put_defers (d : Option Tmp) (v : Value) : (a.put d v).defers = a.defers := by cases d <;> rfl
theorem wipe_ok : ∀ {ks : List Bool} {tm : List PV} {vs : List Value}, Reps g tm vs → Reps g (wipe ks tm) vs
  | [], tm, vs, h => by
    cases tm <;> exact h
  | b :: ks, [], vs, h => h
  | b :: ks, p :: tm, vs, h => by
    simp only [Reps] at h
    obtain ⟨v, vs', rfl, h1, h2⟩ := h
    simp only [wipe, Reps]
    refine ⟨v, vs', rfl, ?_, wipe_ok h2⟩
    cases b
    · simp only [Bool.false_eq_true, if_false, Rep]
    · exact h1
/-- What is asked behind a region, or a piece of code. -/
def After (B : Base) (wr : Wr) (g : Gh) (st : St) (w : World) (tm' : List PV) (st' : St) (ds : List Deferred) (a' : Act) (w' : World) : Prop :=
  ∃ g', Fr B wr g st w g' st' w' ∧ SR B g' st' w' ∧ Reps g' tm' a'.tmps.toList ∧ a'.defers = ds
structure Ok (C : Cfg) (call : Call) (B : Base) : Prop where
  ok : CallOk C.P call B
  yl : YlOk C.P call B
  prim : PrimOk C B
  callHas : CallHas C.P call
  primHas : PrimHas C
  plain : Plain C.P
theorem ops_ok (hok : Ok C call B) {f : FuncId} {ops : Array Oper} {r : Option Nat} {n : Nat} {Q : Exit → Act → World → Prop} :
    ∀ (os : List Oper) (k : Nat) (tm : List PV) (st : St) (g : Gh) (a : Act) (w : World), (∀ j, os[j]? = ops[k + j]?) → evOps C call f wr ops.toList os tm st = some (tm', st') → SR B g st w → Reps g tm a.tmps.toList →
      (∀ a' w', After B wr g st w tm' st' a.defers a' w' → Q .normal a' w') → wpOpsIn (Fw r) n C.P ops Q (List.range' k os.length) a w
  | [], k, tm, st, g, a, w, _, h, hs, ht, hQ => by
    simp only [evOps, Option.some.injEq, Prod.mk.injEq] at h
    obtain ⟨rfl, rfl⟩ := h
    simp only [List.length_nil, List.range'_zero, wpOpsIn]
    exact hQ a w ⟨g, Fr.refl .., hs, ht, rfl⟩
  | o :: os, k, tm, st, g, a, w, hk, h, hs, ht, hQ => by
    have h0 : ops[k]? = some o := by simpa using (hk 0).symm
    have hk' : ∀ j, os[j]? = ops[k + 1 + j]? := fun j => by have := hk (j + 1); simpa [Nat.add_assoc, Nat.add_comm 1 j] using this
    simp only [List.length_cons, List.range'_succ, wpOpsIn, h0]
    simp only [evOps, wantR, bindR] at h
    split at h
    · rename_i hw
      rw [if_pos (wanted_ok hw ht)]
      split at h
      · rename_i p st1 he
        refine evOp_ok hok.ok hok.yl hok.prim hok.callHas hok.primHas hok.plain he hs ht fun v w1 g1 hf1 hs1 hp1 => ?_
        refine ops_ok hok os (k + 1) _ st1 g1 _ w1 hk' h hs1 (put_ok (Reps.mono hf1.le _ _ ht) hp1 _) fun a' w' hA => ?_
        obtain ⟨g', h2, h3, h4, h5⟩ := hA
        exact hQ a' w' ⟨g', hf1.trans hs hs1 h2, h3, h4, by rw [h5, put_defers]⟩
      · cases h
    · rename_i hw
      rw [wanted_ok hw ht, if_neg (by simp)]
      refine ⟨fun _ _ => trivial, ?_⟩
      refine ops_ok hok os (k + 1) _ st g _ w hk' h hs (put_ok ht (Rep.ofFlat rfl) _) fun a' w' hA => ?_
      obtain ⟨g', h2, h3, h4, h5⟩ := hA
      exact hQ a' w' ⟨g', h2, h3, h4, by rw [h5, put_defers]⟩
    · cases h
theorem region_ok (hok : Ok C call B) {f : FuncId} {ops : Array Oper} {id : Nat} {r : Option Nat} {n : Nat} {Q : Exit → Act → World → Prop} (h : evOps C call f wr ops.toList ops.toList tm st = some (tm', st')) (hs : SR B g st w) (ht : Reps g tm a.tmps.toList)
    (hQ : ∀ a' w', After B wr g st w tm' st' a.defers a' w' → Q .normal a' w') : (Code.region id ops false).wpIn (Fw r) n C.P Q a w := by
  refine wpIn_region ?_
  rw [List.range_eq_range', ← Array.length_toList]
  exact ops_ok hok ops.toList 0 tm st g a w (by simp) h hs ht hQ
end region

/-! Every order lists what it can. -/
section orders
def up (L : Nat → Bool) (i : Nat) : Nat → Bool := fun j => if j = i then true else L j
theorem up_self (L : Nat → Bool) (i : Nat) : up L i i = true := by simp [up]
theorem up_ne {L : Nat → Bool} {i j : Nat} (h : j ≠ i) : up L i j = L j := by simp [up, h]
/-- What each operation waits for, whatever the mode, is listed ahead of it. -/
def Direct (ops : Array Oper) (L : Nat → Bool) (i : Nat) : Prop := ∀ o, ops[i]? = some o → ∀ e ∈ o.after.toList, plainEdge e = true → L e.on = true
inductive Good (ops : Array Oper) : (Nat → Bool) → List Nat → Prop
  | nil {L : Nat → Bool} (h : ∀ i, i < ops.size → L i = true) : Good ops L []
  | cons {L : Nat → Bool} {i : Nat} {l : List Nat} (hi : i < ops.size) (hL : L i = false) (hd : Direct ops L i) (h : Good ops (up L i) l) : Good ops L (i :: l)
theorem plain_binds {e : Edge} (md : Region.Mode) (h : plainEdge e = true) : Region.binds md e = true := by
  unfold plainEdge at h
  unfold Region.binds
  split at h <;> simp_all
theorem chk_ready {md : Region.Mode} {ops : Array Oper} {listed : Array Bool} (hsz : listed.size = ops.size) : ∀ (l seen : List Nat), chkOrder md ops seen l = true → (∀ i ∈ seen, i < ops.size ∧ listed.getD i true = true) →
    (∀ i, i < ops.size → listed.getD i true = true) ∨ ∃ i ∈ (List.range ops.size).filter (fun i => !listed.getD i true && ((ops[i]?).map (·.after.all fun e => !Region.binds md e || listed.getD e.on false)).getD false), True
  | [], seen, h, hs => by
    simp only [chkOrder, List.all_eq_true, List.mem_range] at h
    exact .inl fun i hi => (hs i (by simpa using h i hi)).2
  | i :: l, seen, h, hs => by
    simp only [chkOrder, Bool.and_eq_true] at h
    obtain ⟨h1, h2⟩ := h
    split at h1
    · rename_i o ho
      by_cases hi : listed.getD i true = true
      · exact chk_ready hsz l (i :: seen) h2 fun j hj => by
          rcases List.mem_cons.1 hj with rfl | hj
          · exact ⟨(Array.getElem?_eq_some_iff.1 ho).1, hi⟩
          · exact hs j hj
      · right
        have hlt : i < ops.size := (Array.getElem?_eq_some_iff.1 ho).1
        refine ⟨i, List.mem_filter.2 ⟨List.mem_range.2 hlt, ?_⟩, trivial⟩
        rw [ho]
        simp only [Option.map_some, Option.getD_some, Bool.and_eq_true, Bool.not_eq_true']
        refine ⟨by simpa using hi, ?_⟩
        rw [← Array.all_toList, List.all_eq_true]
        rw [List.all_eq_true] at h1
        intro e he
        have := h1 e he
        simp only [Bool.or_eq_true] at this ⊢
        rcases this with h3 | h3
        · exact .inl h3
        · right
          obtain ⟨h4, h5⟩ := hs e.on (by simpa using h3)
          rw [Array.getD_eq_getD_getElem?, Array.getElem?_eq_getElem (by omega)] at h5 ⊢
          exact h5
    · cases h1
/-- How many are not listed yet. -/
def left (O : List Nat) (L : Nat → Bool) : Nat := O.countP fun j => !L j
theorem left_out {i : Nat} {L : Nat → Bool} : ∀ {O : List Nat}, i ∉ O → left O (up L i) = left O L
  | [], _ => rfl
  | x :: O, h => by
    have h1 : x ≠ i := fun e => h (by simp [e])
    have h2 := left_out (L := L) (fun e : i ∈ O => h (by simp [e]))
    unfold left at h2 ⊢
    rw [List.countP_cons, List.countP_cons, h2, up_ne h1]
theorem left_up {i : Nat} {L : Nat → Bool} (hL : L i = false) : ∀ {O : List Nat}, O.Nodup → i ∈ O → left O (up L i) + 1 = left O L
  | x :: O, hn, hi => by
    rw [List.nodup_cons] at hn
    by_cases hx : x = i
    · subst hx
      have h2 := left_out (L := L) hn.1
      unfold left at h2 ⊢
      rw [List.countP_cons, List.countP_cons, h2, up_self, hL]
      simp
    · have h2 := left_up hL hn.2 (by rcases List.mem_cons.1 hi with e | e; exact absurd e.symm hx; exact e)
      unfold left at h2 ⊢
      rw [List.countP_cons, List.countP_cons, up_ne hx]
      omega
def seen (listed : Array Bool) : Nat → Bool := fun j => listed.getD j true
theorem seen_set (listed : Array Bool) {i : Nat} (hi : i < listed.size) : seen (listed.setIfInBounds i true) = up (seen listed) i := by
  funext j
  unfold seen up
  simp only [Array.getD_eq_getD_getElem?]
  by_cases hj : j = i
  · subst hj
    rw [if_pos rfl, Array.getElem?_setIfInBounds_self_of_lt hi]
    rfl
  · rw [if_neg hj, Array.getElem?_setIfInBounds_ne (fun e => hj e.symm)]
theorem go_good {md : Region.Mode} {ops : Array Oper} {l0 : List Nat} (hck : chkOrder md ops [] l0 = true) : ∀ (fuel t : Nat) (listed : Array Bool) (acc : List Nat), listed.size = ops.size → left (List.range ops.size) (seen listed) = fuel →
    ∃ l, Region.linearise.go md ops fuel t listed acc = acc.reverse ++ l ∧ Good ops (seen listed) l
  | 0, t, listed, acc, hsz, hl => by
    refine ⟨[], by simp [Region.linearise.go], .nil fun i hi => ?_⟩
    unfold left at hl
    rw [List.countP_eq_zero] at hl
    simpa using hl i (List.mem_range.2 hi)
  | fuel + 1, t, listed, acc, hsz, hl => by
    unfold Region.linearise.go
    simp only
    generalize hrs : (List.range ops.size).filter (fun i => !listed.getD i true && ((ops[i]?).map (·.after.all fun e => !Region.binds md e || listed.getD e.on false)).getD false) = rs
    cases hr : rs[t % rs.length]? with
    | none =>
      simp only
      refine ⟨[], by simp, .nil fun i hi => ?_⟩
      rcases chk_ready hsz l0 [] hck (fun _ h => by cases h) with h | ⟨j, hj, _⟩
      · exact h i hi
      · exfalso
        rw [hrs] at hj
        have hpos : 0 < rs.length := List.length_pos_of_mem hj
        rw [List.getElem?_eq_none_iff] at hr
        have := Nat.mod_lt t hpos
        omega
    | some i =>
      simp only
      have hi : i ∈ rs := List.mem_of_getElem? hr
      rw [← hrs, List.mem_filter, List.mem_range, Bool.and_eq_true] at hi
      obtain ⟨hin, h1, h2⟩ := hi
      have hLi : seen listed i = false := by simpa [seen] using h1
      obtain ⟨l, h3, h4⟩ := go_good hck fuel (t / rs.length) (listed.setIfInBounds i true) (i :: acc) (by simpa using hsz) (by
        rw [seen_set listed (by omega)]
        have := left_up hLi List.nodup_range (List.mem_range.2 hin)
        omega)
      refine ⟨i :: l, by rw [h3]; simp, .cons hin hLi (fun o ho e he hp => ?_) (by rw [← seen_set listed (by omega)]; exact h4)⟩
      rw [ho, Option.map_some, Option.getD_some, ← Array.all_toList, List.all_eq_true] at h2
      have := h2 e he
      rw [plain_binds md hp, Bool.not_true, Bool.false_or] at this
      unfold seen
      rw [Array.getD_eq_getD_getElem?] at this ⊢
      cases hx : listed[e.on]? with
      | none => rw [hx] at this; cases this
      | some b => rw [hx] at this; exact this
theorem left_none (n : Nat) : left (List.range n) (seen (Array.replicate n false)) = n := by
  unfold left
  have : ∀ i ∈ List.range n, (!seen (Array.replicate n false) i) = true := fun i hi => by
    have := List.mem_range.1 hi
    simp [seen, Array.getD_eq_getD_getElem?, this]
  rw [List.countP_eq_length.2 this, List.length_range]
theorem linearise_good {md : Region.Mode} {ops : Array Oper} {l0 : List Nat} (hck : chkOrder md ops [] l0 = true) (t : Nat) : Good ops (seen (Array.replicate ops.size false)) (Region.linearise md ops t) := by
  obtain ⟨l, h1, h2⟩ := go_good hck ops.size t (Array.replicate ops.size false) [] (by simp) (left_none _)
  unfold Region.linearise
  rw [h1]
  exact h2
theorem schedule_good {ops : Array Oper} (h : ordersOk ops = true) (mixed : Bool) (t : Nat) : Good ops (seen (Array.replicate ops.size false)) (Region.schedule mixed ops t) := by
  simp only [ordersOk, Bool.and_eq_true] at h
  obtain ⟨⟨h1, h2⟩, h3⟩ := h
  unfold Region.schedule
  split
  · exact linearise_good h1 t
  · split
    · exact linearise_good h2 _
    · exact linearise_good h3 _
end orders
end Go.Proofs.YthngeddaeoeimaaDoorVE
