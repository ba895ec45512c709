import Derived.Test.YtlkaoiceehlkmaaVeA
import Derived.Below
import Derived.Deep.AppendSrc
import Derived.Deep.Draws
namespace Go.Proofs.YtlkaoiceehlkmaaVE
open Go Go.RowKit
set_option linter.unusedVariables false
set_option linter.unusedSimpArgs false

/-- Whose a cell is: nobody's that is known, unchanging, a location's, a token's spare room. -/
inductive Owner where
  | other
  | im (v : Value)
  | loc (l : Nat)
  | spare (t : Nat)

structure Gh where
  own : Nat → Nat → Owner
  base : Nat → Nat × Nat
  ext : Nat → Nat
  reg : Nat → Nat × Nat × Nat
  nl : Nat
  nt : Nat
  /-- The records of loops over functions, where they are known. -/
  obj : Nat → Option Go.Loop

def Im (g : Gh) (b o : Nat) (vals : List Value) : Prop := ∀ j v, vals[j]? = some v → g.own b (o + j) = .im v

def notTok : Flag → Prop
  | .tok _ => False
  | _ => True

def FlagOk (g : Gh) (f : Flag) (b o sz n cap : Nat) : Prop := match f with
  | .sh => True
  | .nil => False
  | .full => cap = n
  | .tok t => t < g.nt ∧ 0 < n ∧ g.reg t = (b, o + n * sz, o + cap * sz)

mutual
def Rep (g : Gh) : PV → Value → Prop
  | .any, _ => True
  | .v x, v => v = x ∧ flat x = true
  | .row xs f, v => (xs = [] ∧ v = .slice none 0 0 ∧ notTok f) ∨ ∃ b o sz cap vals, v = .slice (some ⟨b, o, none⟩) xs.length cap ∧ (∀ c ∈ xs, c.length = sz) ∧ Im g b o vals ∧ Repss g xs vals ∧ xs.length ≤ cap ∧ FlagOk g f b o sz xs.length cap
  | .ref l sz off len, v => ∃ cap, v = .slice (some ⟨(g.base l).1, (g.base l).2 + off, none⟩) len cap ∧ l < g.nl ∧ len ≤ cap ∧ off + cap * sz ≤ g.ext l
  | .ptr l off, v => v = .pointer (some ⟨(g.base l).1, (g.base l).2 + off, none⟩) ∧ l < g.nl
  | .eptr cs, v => ∃ b o vals, v = .pointer (some ⟨b, o, none⟩) ∧ Im g b o vals ∧ Reps g cs vals
  | .agg cs, v => ∃ vs, v = .agg vs.toArray ∧ Reps g cs vs
  | .fn f a b, v => ∃ va vb, v = .func f va.toArray vb.toArray ∧ Reps g a va ∧ Reps g b vb
  | .iface t p, v => ∃ u, v = .iface t u ∧ Rep g p u
  | .tuple ps, v => ∃ vs, v = .tuple vs.toArray ∧ Reps g ps vs
  | .yld f tm ps asg bd, v => ∃ l r vals, v = .func (.yield l) #[] #[] ∧ g.obj l = some r ∧ (r.state = .ready ∧ r.pending = none ∧ r.params = ps ∧ r.assign = asg ∧ r.body = bd ∧ r.tmps.toList = vals) ∧ Reps g tm vals
def Reps (g : Gh) : List PV → List Value → Prop
  | [], vs => vs = []
  | p :: ps, vs => ∃ v vs', vs = v :: vs' ∧ Rep g p v ∧ Reps g ps vs'
def Repss (g : Gh) : List (List PV) → List Value → Prop
  | [], vs => vs = []
  | c :: cs, vs => ∃ v1 v2, vs = v1 ++ v2 ∧ Reps g c v1 ∧ Repss g cs v2
end

section lists
variable {g : Gh}
theorem Reps.length : ∀ {ps : List PV} {vs : List Value}, Reps g ps vs → vs.length = ps.length
  | [], vs, h => by simp only [Reps] at h; subst h; rfl
  | p :: ps, vs, h => by
    simp only [Reps] at h
    obtain ⟨v, vs', rfl, _, h⟩ := h
    simp [Reps.length h]
theorem Reps.get : ∀ {ps : List PV} {vs : List Value}, Reps g ps vs → ∀ {i : Nat} {p : PV} {v : Value}, ps[i]? = some p → vs[i]? = some v → Rep g p v
  | [], vs, h, i, p, v, hp, hv => by simp at hp
  | q :: ps, vs, h, i, p, v, hp, hv => by
    simp only [Reps] at h
    obtain ⟨u, vs', rfl, h1, h2⟩ := h
    cases i with
    | zero => simp at hp hv; subst hp; subst hv; exact h1
    | succ i => simp at hp hv; exact h2.get hp hv
theorem Reps.mk : ∀ {ps : List PV} {vs : List Value}, vs.length = ps.length → (∀ (i : Nat) (p : PV) (v : Value), ps[i]? = some p → vs[i]? = some v → Rep g p v) → Reps g ps vs
  | [], vs, hl, h => by simp only [Reps]; exact List.eq_nil_of_length_eq_zero (by simpa using hl)
  | p :: ps, [], hl, h => by simp at hl
  | p :: ps, v :: vs, hl, h => by
    simp only [Reps]
    exact ⟨v, vs, rfl, h 0 p v rfl rfl, Reps.mk (by simpa using hl) fun i q u hq hu => h (i + 1) q u (by simpa using hq) (by simpa using hu)⟩
theorem Reps.append : ∀ {ps qs : List PV} {vs us : List Value}, Reps g ps vs → Reps g qs us → Reps g (ps ++ qs) (vs ++ us)
  | [], qs, vs, us, h, h' => by simp only [Reps] at h; subst h; exact h'
  | p :: ps, qs, vs, us, h, h' => by
    simp only [Reps] at h
    obtain ⟨v, vs', rfl, h1, h2⟩ := h
    simp only [List.cons_append, Reps]
    exact ⟨v, vs' ++ us, rfl, h1, h2.append h'⟩
theorem Reps.split : ∀ {ps qs : List PV} {vs : List Value}, Reps g (ps ++ qs) vs → ∃ v1 v2, vs = v1 ++ v2 ∧ Reps g ps v1 ∧ Reps g qs v2
  | [], qs, vs, h => ⟨[], vs, rfl, by simp [Reps], h⟩
  | p :: ps, qs, vs, h => by
    simp only [List.cons_append, Reps] at h
    obtain ⟨v, vs', rfl, h1, h2⟩ := h
    obtain ⟨v1, v2, rfl, h3, h4⟩ := Reps.split h2
    exact ⟨v :: v1, v2, rfl, by simp only [Reps]; exact ⟨v, v1, rfl, h1, h3⟩, h4⟩
theorem Reps.take {ps : List PV} {vs : List Value} (h : Reps g ps vs) (n : Nat) : Reps g (ps.take n) (vs.take n) :=
  Reps.mk (by simp [h.length]) fun i p v hp hv => by
    rw [List.getElem?_take] at hp hv
    split at hp
    · rename_i hi; rw [if_pos hi] at hv; exact h.get hp hv
    · cases hp
theorem Reps.drop {ps : List PV} {vs : List Value} (h : Reps g ps vs) (n : Nat) : Reps g (ps.drop n) (vs.drop n) :=
  Reps.mk (by simp [h.length]) fun i p v hp hv => by
    rw [List.getElem?_drop] at hp hv
    exact h.get hp hv
theorem Reps.one {p : PV} {v : Value} (h : Rep g p v) : Reps g [p] [v] := by simp only [Reps]; exact ⟨v, [], rfl, h, rfl⟩
theorem Repss_iff : ∀ {xs : List (List PV)} {vs : List Value}, Repss g xs vs ↔ Reps g xs.flatten vs
  | [], vs => by simp [Repss, Reps]
  | c :: cs, vs => by
    simp only [Repss, List.flatten_cons]
    constructor
    · rintro ⟨v1, v2, rfl, h1, h2⟩; exact h1.append (Repss_iff.1 h2)
    · intro h; obtain ⟨v1, v2, rfl, h1, h2⟩ := h.split; exact ⟨v1, v2, rfl, h1, Repss_iff.2 h2⟩
theorem Reps.set {ps : List PV} {vs : List Value} (h : Reps g ps vs) {i : Nat} {p : PV} {v : Value} (hp : Rep g p v) : Reps g (ps.set i p) (vs.set i v) :=
  Reps.mk (by simp [h.length]) fun j q u hq hu => by
    rw [List.getElem?_set] at hq hu
    split at hq
    · rename_i hij
      rw [if_pos hij] at hu
      split at hq
      · rename_i hl
        rw [if_pos (by rw [h.length]; exact hl)] at hu
        simp at hq hu; subst hq; subst hu; exact hp
      · cases hq
    · rename_i hij
      rw [if_neg hij] at hu
      exact h.get hq hu
end lists

/-- The ghost may grow. -/
structure Le (g g' : Gh) : Prop where
  im : ∀ b o v, g.own b o = .im v → g'.own b o = .im v
  nl : g.nl ≤ g'.nl
  nt : g.nt ≤ g'.nt
  base : ∀ l, l < g.nl → g'.base l = g.base l
  ext : ∀ l, l < g.nl → g'.ext l = g.ext l
  reg : ∀ t, t < g.nt → g'.reg t = g.reg t
  obj : ∀ l r, g.obj l = some r → g'.obj l = some r
theorem Le.refl (g : Gh) : Le g g := ⟨fun _ _ _ h => h, Nat.le_refl _, Nat.le_refl _, fun _ _ => rfl, fun _ _ => rfl, fun _ _ => rfl, fun _ _ h => h⟩
theorem Le.trans {a b c : Gh} (h : Le a b) (k : Le b c) : Le a c :=
  ⟨fun x o v hx => k.im _ _ _ (h.im _ _ _ hx), Nat.le_trans h.nl k.nl, Nat.le_trans h.nt k.nt,
   fun l hl => (k.base l (Nat.lt_of_lt_of_le hl h.nl)).trans (h.base l hl), fun l hl => (k.ext l (Nat.lt_of_lt_of_le hl h.nl)).trans (h.ext l hl), fun t ht => (k.reg t (Nat.lt_of_lt_of_le ht h.nt)).trans (h.reg t ht), fun l r hr => k.obj l r (h.obj l r hr)⟩
theorem Im.mono {g g' : Gh} (hl : Le g g') {b o : Nat} {vals : List Value} (h : Im g b o vals) : Im g' b o vals := fun j v hv => hl.im _ _ _ (h j v hv)
theorem FlagOk.mono {g g' : Gh} (hl : Le g g') {f : Flag} {b o sz n cap : Nat} (h : FlagOk g f b o sz n cap) : FlagOk g' f b o sz n cap := by
  cases f with
  | tok t => exact ⟨Nat.lt_of_lt_of_le h.1 hl.nt, h.2.1, (hl.reg t h.1).trans h.2.2⟩
  | sh => trivial
  | nil => exact h
  | full => exact h
mutual
theorem Rep.mono {g g' : Gh} (hl : Le g g') : ∀ (p : PV) (v : Value), Rep g p v → Rep g' p v
  | .any, _, _ => by simp only [Rep]
  | .v x, v, h => by simp only [Rep] at h ⊢; exact h
  | .row xs f, v, h => by
    simp only [Rep] at h ⊢
    rcases h with h | ⟨b, o, sz, cap, vals, h1, h2, h3, h4, h5, h6⟩
    · exact .inl h
    · exact .inr ⟨b, o, sz, cap, vals, h1, h2, h3.mono hl, Repss.mono hl xs vals h4, h5, h6.mono hl⟩
  | .ref l sz off len, v, h => by
    simp only [Rep] at h ⊢
    obtain ⟨cap, h1, h2, h3, h4⟩ := h
    exact ⟨cap, by rw [hl.base l h2]; exact h1, Nat.lt_of_lt_of_le h2 hl.nl, h3, by rw [hl.ext l h2]; exact h4⟩
  | .ptr l off, v, h => by
    simp only [Rep] at h ⊢
    exact ⟨by rw [hl.base l h.2]; exact h.1, Nat.lt_of_lt_of_le h.2 hl.nl⟩
  | .eptr cs, v, h => by
    simp only [Rep] at h ⊢
    obtain ⟨b, o, vals, h1, h2, h3⟩ := h
    exact ⟨b, o, vals, h1, h2.mono hl, Reps.mono hl cs vals h3⟩
  | .agg cs, v, h => by
    simp only [Rep] at h ⊢
    obtain ⟨vs, h1, h2⟩ := h
    exact ⟨vs, h1, Reps.mono hl cs vs h2⟩
  | .fn f a b, v, h => by
    simp only [Rep] at h ⊢
    obtain ⟨va, vb, h1, h2, h3⟩ := h
    exact ⟨va, vb, h1, Reps.mono hl a va h2, Reps.mono hl b vb h3⟩
  | .iface t p, v, h => by
    simp only [Rep] at h ⊢
    obtain ⟨u, h1, h2⟩ := h
    exact ⟨u, h1, Rep.mono hl p u h2⟩
  | .tuple ps, v, h => by
    simp only [Rep] at h ⊢
    obtain ⟨vs, h1, h2⟩ := h
    exact ⟨vs, h1, Reps.mono hl ps vs h2⟩
  | .yld f tm ps asg bd, v, h => by
    simp only [Rep] at h ⊢
    obtain ⟨l, r, vals, h1, h2, h3, h4⟩ := h
    exact ⟨l, r, vals, h1, hl.obj l r h2, h3, Reps.mono hl tm vals h4⟩
theorem Reps.mono {g g' : Gh} (hl : Le g g') : ∀ (ps : List PV) (vs : List Value), Reps g ps vs → Reps g' ps vs
  | [], vs, h => by simp only [Reps] at h ⊢; exact h
  | p :: ps, vs, h => by
    simp only [Reps] at h ⊢
    obtain ⟨v, vs', h1, h2, h3⟩ := h
    exact ⟨v, vs', h1, Rep.mono hl p v h2, Reps.mono hl ps vs' h3⟩
theorem Repss.mono {g g' : Gh} (hl : Le g g') : ∀ (cs : List (List PV)) (vs : List Value), Repss g cs vs → Repss g' cs vs
  | [], vs, h => by simp only [Repss] at h ⊢; exact h
  | c :: cs, vs, h => by
    simp only [Repss] at h ⊢
    obtain ⟨v1, v2, h1, h2, h3⟩ := h
    exact ⟨v1, v2, h1, Reps.mono hl c v1 h2, Repss.mono hl cs v2 h3⟩
end

/-- The ghost cut down: what speaks of no later location and of no later token stays represented. -/
structure Cut (g g' : Gh) (n t : Nat) : Prop where
  im : ∀ b o v, g.own b o = .im v → g'.own b o = .im v
  nl : n ≤ g'.nl
  nt : t ≤ g'.nt
  base : ∀ l, l < n → g'.base l = g.base l
  ext : ∀ l, l < n → g'.ext l = g.ext l
  reg : ∀ u, u < t → g'.reg u = g.reg u
mutual
theorem Rep.cut {g g' : Gh} {n t : Nat} (hl : Cut g g' n t) : ∀ (p : PV) (v : Value), safe n t p = true → Rep g p v → Rep g' p v
  | .any, _, _, _ => by simp only [Rep]
  | .v x, v, _, h => by simp only [Rep] at h ⊢; exact h
  | .row xs f, v, hs, h => by
    simp only [Rep] at h ⊢
    simp only [safe, Bool.and_eq_true] at hs
    rcases h with h | ⟨b, o, sz, cap, vals, h1, h2, h3, h4, h5, h6⟩
    · exact .inl h
    · refine .inr ⟨b, o, sz, cap, vals, h1, h2, fun j v hv => hl.im _ _ _ (h3 j v hv), Repss.cut hl xs vals hs.2 h4, h5, ?_⟩
      cases f with
      | tok u =>
        have hu := hs.1
        simp only [decide_eq_true_eq] at hu
        exact ⟨Nat.lt_of_lt_of_le hu hl.nt, h6.2.1, (hl.reg u hu).trans h6.2.2⟩
      | sh => trivial
      | nil => exact h6
      | full => exact h6
  | .ref l sz off len, v, hs, h => by
    simp only [Rep] at h ⊢
    simp only [safe, decide_eq_true_eq] at hs
    obtain ⟨cap, h1, h2, h3, h4⟩ := h
    exact ⟨cap, by rw [hl.base l hs]; exact h1, Nat.lt_of_lt_of_le hs hl.nl, h3, by rw [hl.ext l hs]; exact h4⟩
  | .ptr l off, v, hs, h => by
    simp only [Rep] at h ⊢
    simp only [safe, decide_eq_true_eq] at hs
    exact ⟨by rw [hl.base l hs]; exact h.1, Nat.lt_of_lt_of_le hs hl.nl⟩
  | .eptr cs, v, hs, h => by
    simp only [Rep] at h ⊢
    simp only [safe] at hs
    obtain ⟨b, o, vals, h1, h2, h3⟩ := h
    exact ⟨b, o, vals, h1, fun j v hv => hl.im _ _ _ (h2 j v hv), Reps.cut hl cs vals hs h3⟩
  | .agg cs, v, hs, h => by
    simp only [Rep] at h ⊢
    simp only [safe] at hs
    obtain ⟨vs, h1, h2⟩ := h
    exact ⟨vs, h1, Reps.cut hl cs vs hs h2⟩
  | .fn f a b, v, hs, h => by
    simp only [Rep] at h ⊢
    simp only [safe, Bool.and_eq_true] at hs
    obtain ⟨va, vb, h1, h2, h3⟩ := h
    exact ⟨va, vb, h1, Reps.cut hl a va hs.1 h2, Reps.cut hl b vb hs.2 h3⟩
  | .iface t p, v, hs, h => by
    simp only [Rep] at h ⊢
    simp only [safe] at hs
    obtain ⟨u, h1, h2⟩ := h
    exact ⟨u, h1, Rep.cut hl p u hs h2⟩
  | .tuple ps, v, hs, h => by
    simp only [Rep] at h ⊢
    simp only [safe] at hs
    obtain ⟨vs, h1, h2⟩ := h
    exact ⟨vs, h1, Reps.cut hl ps vs hs h2⟩
  | .yld f tm ps asg bd, v, hs, h => by simp only [safe] at hs; cases hs
theorem Reps.cut {g g' : Gh} {n t : Nat} (hl : Cut g g' n t) : ∀ (ps : List PV) (vs : List Value), safes n t ps = true → Reps g ps vs → Reps g' ps vs
  | [], vs, _, h => by simp only [Reps] at h ⊢; exact h
  | p :: ps, vs, hs, h => by
    simp only [Reps] at h ⊢
    simp only [safes, Bool.and_eq_true] at hs
    obtain ⟨v, vs', h1, h2, h3⟩ := h
    exact ⟨v, vs', h1, Rep.cut hl p v hs.1 h2, Reps.cut hl ps vs' hs.2 h3⟩
theorem Repss.cut {g g' : Gh} {n t : Nat} (hl : Cut g g' n t) : ∀ (cs : List (List PV)) (vs : List Value), safess n t cs = true → Repss g cs vs → Repss g' cs vs
  | [], vs, _, h => by simp only [Repss] at h ⊢; exact h
  | c :: cs, vs, hs, h => by
    simp only [Repss] at h ⊢
    simp only [safess, Bool.and_eq_true] at hs
    obtain ⟨v1, v2, h1, h2, h3⟩ := h
    exact ⟨v1, v2, h1, Reps.cut hl c v1 hs.1 h2, Repss.cut hl cs v2 hs.2 h3⟩
end

/-! Single values. -/
theorem Rep.ofFlat {g : Gh} {x : Value} (h : flat x = true) : Rep g (.v x) x := by rw [Rep]; exact ⟨rfl, h⟩
theorem Rep.ofC (g : Gh) (x : Value) : Rep g (ofC x) x := by
  unfold YtlkaoiceehlkmaaVE.ofC
  split
  · rw [Rep]; exact .inl ⟨rfl, rfl, trivial⟩
  · split
    · rename_i h; exact Rep.ofFlat h
    · rw [Rep]; trivial
mutual
theorem Rep.toV {g : Gh} : ∀ (p : PV) (v x : Value), Rep g p v → toV p = some x → v = x
  | .v y, v, x, h, hx => by simp only [Rep] at h; simp only [YtlkaoiceehlkmaaVE.toV, Option.some.injEq] at hx; rw [h.1, hx]
  | .agg cs, v, x, h, hx => by
    simp only [Rep] at h
    obtain ⟨vs, rfl, h2⟩ := h
    simp only [YtlkaoiceehlkmaaVE.toV, Option.map_eq_some_iff] at hx
    obtain ⟨us, h3, rfl⟩ := hx
    rw [Reps.toVs cs vs us h2 h3]
  | .any, v, x, h, hx => by simp [YtlkaoiceehlkmaaVE.toV] at hx
  | .row .., v, x, h, hx => by simp [YtlkaoiceehlkmaaVE.toV] at hx
  | .ref .., v, x, h, hx => by simp [YtlkaoiceehlkmaaVE.toV] at hx
  | .ptr .., v, x, h, hx => by simp [YtlkaoiceehlkmaaVE.toV] at hx
  | .eptr .., v, x, h, hx => by simp [YtlkaoiceehlkmaaVE.toV] at hx
  | .fn .., v, x, h, hx => by simp [YtlkaoiceehlkmaaVE.toV] at hx
  | .iface .., v, x, h, hx => by simp [YtlkaoiceehlkmaaVE.toV] at hx
  | .tuple .., v, x, h, hx => by simp [YtlkaoiceehlkmaaVE.toV] at hx
  | .yld .., v, x, h, hx => by simp [YtlkaoiceehlkmaaVE.toV] at hx
theorem Reps.toVs {g : Gh} : ∀ (ps : List PV) (vs xs : List Value), Reps g ps vs → toVs ps = some xs → vs = xs
  | [], vs, xs, h, hx => by simp only [Reps] at h; simp only [YtlkaoiceehlkmaaVE.toVs, Option.some.injEq] at hx; rw [h, hx]
  | p :: ps, vs, xs, h, hx => by
    simp only [Reps] at h
    obtain ⟨v, vs', rfl, h1, h2⟩ := h
    simp only [YtlkaoiceehlkmaaVE.toVs] at hx
    cases hp : YtlkaoiceehlkmaaVE.toV p with
    | none => simp [hp] at hx
    | some y =>
      cases hps : YtlkaoiceehlkmaaVE.toVs ps with
      | none => simp [hp, hps] at hx
      | some ys =>
        simp only [hp, hps, Option.some.injEq] at hx
        subst hx
        rw [Rep.toV p v y h1 hp, Reps.toVs ps vs' ys h2 hps]
end
theorem Reps.flats {g : Gh} : ∀ (vs : List Value), vs.all flat = true → Reps g (vs.map .v) vs
  | [], _ => by simp [Reps]
  | v :: vs, h => by
    simp only [List.all_cons, Bool.and_eq_true] at h
    simp only [List.map_cons, Reps]
    exact ⟨v, vs, rfl, Rep.ofFlat h.1, Reps.flats vs h.2⟩
theorem Rep.ofV {g : Gh} {v : Value} {p : PV} (h : ofV v = some p) : Rep g p v := by
  unfold YtlkaoiceehlkmaaVE.ofV at h
  split at h
  · rename_i vs
    split at h
    · rename_i hf
      simp only [Option.some.injEq] at h
      subst h
      simp only [Rep]
      exact ⟨vs.toList, by simp, Reps.flats _ hf⟩
    · cases h
  · split at h
    · rename_i hf
      simp only [Option.some.injEq] at h
      subst h
      exact Rep.ofFlat hf
    · cases h
theorem runP_run {P : Program} {α : Type} : ∀ {s : Sem α} {a : α}, runP P s = some a → ∀ w, s.run P w = .ok a w
  | .pure b, a, h, w => by simp only [runP, Option.some.injEq] at h; subst h; rfl
  | .program k, a, h, w => by simp only [runP] at h; exact runP_run (s := k P) h w
  | .mark m k, a, h, w => by simp only [runP] at h; exact runP_run (s := k) h w
  | .load .., a, h, w => by simp [runP] at h
  | .store .., a, h, w => by simp [runP] at h
  | .new .., a, h, w => by simp [runP] at h
  | .shape .., a, h, w => by simp [runP] at h
  | .freeze .., a, h, w => by simp [runP] at h
  | .frozen .., a, h, w => by simp [runP] at h
  | .getObj .., a, h, w => by simp [runP] at h
  | .setObj .., a, h, w => by simp [runP] at h
  | .choose .., a, h, w => by simp [runP] at h
  | .sys .., a, h, w => by simp [runP] at h
  | .halt .., a, h, w => by simp [runP] at h
theorem Rep.strip {g : Gh} {p : PV} {v : Value} (h : Rep g p v) : Rep g p.strip v := by
  cases p with
  | row xs f =>
    simp only [PV.strip]
    simp only [Rep] at h ⊢
    rcases h with h | ⟨b, o, sz, cap, vals, h1, h2, h3, h4, h5, h6⟩
    · exact .inl ⟨h.1, h.2.1, trivial⟩
    · exact .inr ⟨b, o, sz, cap, vals, h1, h2, h3, h4, h5, trivial⟩
  | _ => exact h
theorem Reps.map {g : Gh} {f : PV → PV} (hf : ∀ p v, Rep g p v → Rep g (f p) v) : ∀ {ps : List PV} {vs : List Value}, Reps g ps vs → Reps g (ps.map f) vs
  | [], vs, h => h
  | p :: ps, vs, h => by
    simp only [Reps] at h
    obtain ⟨v, vs', rfl, h1, h2⟩ := h
    simp only [List.map_cons, Reps]
    exact ⟨v, vs', rfl, hf p v h1, h2.map hf⟩
theorem Rep.strip1 {g : Gh} {p : PV} {v : Value} (h : Rep g p v) : Rep g p.strip1 v := by
  cases p with
  | agg cs =>
    simp only [PV.strip1]
    simp only [Rep] at h ⊢
    obtain ⟨vs, h1, h2⟩ := h
    exact ⟨vs, h1, h2.map fun _ _ h => h.strip⟩
  | _ => exact h.strip
theorem Rep.strip2 {g : Gh} {p : PV} {v : Value} (h : Rep g p v) : Rep g p.strip2 v := by
  cases p with
  | tuple cs =>
    simp only [PV.strip2]
    simp only [Rep] at h ⊢
    obtain ⟨vs, h1, h2⟩ := h
    exact ⟨vs, h1, h2.map fun _ _ h => h.strip1⟩
  | _ => exact h.strip1
theorem Rep.stripFrom {g : Gh} {n : Nat} {p : PV} {v : Value} (h : Rep g p v) : Rep g (stripFrom n p) v := by
  unfold YtlkaoiceehlkmaaVE.stripFrom
  split
  · split
    · exact h
    · exact h.strip
  · exact h
theorem Reps.stripRow {g : Gh} {xs : List (List PV)} {vs : List Value} (h : Reps g xs.flatten vs) : Reps g (stripRow xs).flatten vs := by
  unfold YtlkaoiceehlkmaaVE.stripRow
  rw [← List.map_flatten]
  exact h.map fun _ _ h => h.strip
/-- The cells of a value. -/
theorem Rep.cells {g : Gh} {p : PV} {v : Value} (h : Rep g p v) (hall : p.cells.all PV.one = true) : Reps g p.cells v.cells.toList := by
  cases p with
  | agg cs =>
    simp only [Rep] at h
    obtain ⟨vs, rfl, h2⟩ := h
    simpa [PV.cells, Value.cells] using h2
  | any => simp [PV.cells, PV.one] at hall
  | yld f tm ps a b => simp [PV.cells, PV.one] at hall
  | tuple cs => simp [PV.cells, PV.one] at hall
  | v x =>
    simp only [Rep] at h
    have hx : v.cells = #[v] := by rw [h.1]; cases x <;> simp_all [Value.cells, flat]
    simp only [PV.cells, hx]
    exact Reps.one (by simp only [Rep]; exact h)
  | row xs f =>
    have hx : v.cells = #[v] := by
      simp only [Rep] at h
      rcases h with ⟨_, rfl, _⟩ | ⟨b, o, sz, cap, vals, rfl, _⟩ <;> rfl
    simp only [PV.cells, hx]
    exact Reps.one h
  | ref l sz off len =>
    have hx : v.cells = #[v] := by
      simp only [Rep] at h
      obtain ⟨cap, rfl, _⟩ := h
      rfl
    simp only [PV.cells, hx]
    exact Reps.one h
  | ptr l off =>
    have hx : v.cells = #[v] := by
      simp only [Rep] at h
      obtain ⟨rfl, _⟩ := h
      rfl
    simp only [PV.cells, hx]
    exact Reps.one h
  | eptr cs =>
    have hx : v.cells = #[v] := by
      simp only [Rep] at h
      obtain ⟨b, o, vals, rfl, _⟩ := h
      rfl
    simp only [PV.cells, hx]
    exact Reps.one h
  | fn f a b =>
    have hx : v.cells = #[v] := by
      simp only [Rep] at h
      obtain ⟨va, vb, rfl, _⟩ := h
      rfl
    simp only [PV.cells, hx]
    exact Reps.one h
  | iface t p =>
    have hx : v.cells = #[v] := by
      simp only [Rep] at h
      obtain ⟨u, rfl, _⟩ := h
      rfl
    simp only [PV.cells, hx]
    exact Reps.one h
theorem Rep.oneCell {g : Gh} {p : PV} {v : Value} (h : Rep g p v) (hp : p.one = true) : v.oneCell' = true := by
  cases p with
  | v x =>
    simp only [Rep] at h
    obtain ⟨rfl, hf⟩ := h
    cases v <;> simp_all [Value.oneCell', PV.one, flat]
  | row xs f =>
    simp only [Rep] at h
    rcases h with ⟨_, rfl, _⟩ | ⟨b, o, sz, cap, vals, rfl, _⟩ <;> rfl
  | ref l sz off len => simp only [Rep] at h; obtain ⟨cap, rfl, _⟩ := h; rfl
  | ptr l off => simp only [Rep] at h; obtain ⟨rfl, _⟩ := h; rfl
  | eptr cs => simp only [Rep] at h; obtain ⟨b, o, vals, rfl, _⟩ := h; rfl
  | fn f a b => simp only [Rep] at h; obtain ⟨va, vb, rfl, _⟩ := h; rfl
  | iface t p => simp only [Rep] at h; obtain ⟨u, rfl, _⟩ := h; rfl
  | any => simp [PV.one] at hp
  | yld f tm ps a b => simp [PV.one] at hp
  | agg cs => simp [PV.one] at hp
  | tuple vs => simp [PV.one] at hp
theorem Reps.oneCell {g : Gh} : ∀ {ps : List PV} {vs : List Value}, Reps g ps vs → ps.all PV.one = true → ∀ u ∈ vs, u.oneCell' = true
  | [], vs, h, _ => by simp only [Reps] at h; subst h; intro u hu; cases hu
  | p :: ps, vs, h, ha => by
    simp only [Reps] at h
    obtain ⟨v, vs', rfl, h1, h2⟩ := h
    simp only [List.all_cons, Bool.and_eq_true] at ha
    intro u hu
    rcases List.mem_cons.1 hu with rfl | hu
    · exact h1.oneCell ha.1
    · exact h2.oneCell ha.2 u hu
/-- An operand. -/
theorem Rep.ev {g : Gh} {tm : List PV} {a : Act} (h : Reps g tm a.tmps.toList) (x : Operand) : Rep g (PV.ev tm x) (a.eval x) := by
  cases x with
  | tmp t =>
    simp only [PV.ev, Act.eval]
    rcases Nat.lt_or_ge t tm.length with ht | ht
    · have hl := h.length
      have h2 : tm[t]? = some (tm.getD t .any) := by simp [List.getD, ht]
      have h3 : a.tmps.toList[t]? = some (a.tmps.getD t undef) := by
        have : t < a.tmps.size := by rw [← Array.length_toList, hl]; exact ht
        simp [Array.getD, this]
      exact h.get h2 h3
    · simp [List.getD, List.getElem?_eq_none ht, Rep]
  | const x => exact Rep.ofC g x
  | global b => simp only [PV.ev, Rep]
  | func f => simp only [PV.ev, Act.eval, Rep]; exact ⟨[], [], rfl, rfl, rfl⟩
end Go.Proofs.YtlkaoiceehlkmaaVE

namespace Go.Proofs.YtlkaoiceehlkmaaVE
open Go Go.RowKit
set_option linter.unusedVariables false
set_option linter.unusedSimpArgs false

/-- The memory of some earlier moment: what lay there then stays as it stood. -/
structure Base where
  w : World
/-- How many blocks there were. -/
def Base.n (B : Base) : Nat := B.w.heap.size
instance : Coe Base Nat := ⟨Base.n⟩

/-- The state stands for a part of the world. -/
structure SR (B : Base) (g : Gh) (st : St) (w : World) : Prop where
  nl : g.nl = st.locs.length
  nt : g.nt = st.next
  old : Below B.n B.w w
  im : ∀ b o v, g.own b o = .im v → w.cell? ⟨b, o, none⟩ = some v
  mloc : ∀ b o l, g.own b o = .loc l → l < g.nl ∧ B ≤ b ∧ (w.cell? ⟨b, o, none⟩).isSome = true ∧ w.frozen? ⟨b, o, none⟩ = false
  mspare : ∀ b o t, g.own b o = .spare t → t < g.nt ∧ B ≤ b ∧ (w.cell? ⟨b, o, none⟩).isSome = true ∧ w.frozen? ⟨b, o, none⟩ = false
  loc : ∀ l cs, locAt st l = some cs → cs.length ≤ g.ext l ∧ (∀ j, j < g.ext l → g.own (g.base l).1 ((g.base l).2 + j) = .loc l) ∧
    ∃ vals, Reps g cs vals ∧ ∀ j v, vals[j]? = some v → w.cell? ⟨(g.base l).1, (g.base l).2 + j, none⟩ = some v
  tok : ∀ t, t ∈ st.live → t < g.nt ∧ ∀ o, (g.reg t).2.1 ≤ o → o < (g.reg t).2.2 → g.own (g.reg t).1 o = .spare t
  obj : ∀ l r, g.obj l = some r → B ≤ l ∧ w.heap[l]? = some (.loop r)

theorem SR.low {B : Base} {g : Gh} {st : St} {w : World} (h : SR B g st w) : B.n ≤ w.heap.size := h.old.size
theorem SR.size {B : Base} {g : Gh} {st : St} {w : World} (h : SR B g st w) {b o : Nat} (hb : g.own b o ≠ .other) : b < w.heap.size := by
  cases ho : g.own b o with
  | other => exact absurd ho hb
  | im v => exact World.block_lt_of_cell? w ⟨b, o, none⟩ (h.im b o v ho)
  | loc l =>
    obtain ⟨u, hu⟩ := Option.isSome_iff_exists.1 (h.mloc b o l ho).2.2.1
    exact World.block_lt_of_cell? w ⟨b, o, none⟩ hu
  | spare t =>
    obtain ⟨u, hu⟩ := Option.isSome_iff_exists.1 (h.mspare b o t ho).2.2.1
    exact World.block_lt_of_cell? w ⟨b, o, none⟩ hu
theorem locAt_lt {st : St} {l : Nat} {cs : List PV} (h : locAt st l = some cs) : l < st.locs.length := by
  unfold locAt at h
  rcases Nat.lt_or_ge l st.locs.length with hl | hl
  · exact hl
  · simp [List.getElem?_eq_none hl] at h

/-- What may not be touched. -/
def Fixed (wr : Wr) (st : St) : Owner → Prop
  | .other => True
  | .im _ => True
  | .loc l => wr.ok l = false ∨ locAt st l = none
  | .spare t => t ∉ st.live

/-- What only a loop over a function changes. -/
def still : Obj → Bool
  | .loop _ | .deferred _ => true
  | _ => false
theorem obj_alloc {w : World} {ob o : Obj} {k : Nat} (h : w.heap[k]? = some o) : (w.alloc ob).heap[k]? = some o := by
  have hk : k < w.heap.size := by
    rcases Nat.lt_or_ge k w.heap.size with h1 | h1
    · exact h1
    · rw [Array.getElem?_eq_none h1] at h; cases h
  rw [Below.heap_alloc w ob k hk]; exact h
theorem obj_setCells {w : World} {b k : Nat} {o : Obj} (h : w.heap[k]? = some o) (hs : still o = true) : ∀ (vs : List Value) (off : Nat), (vs = [] ∨ ∃ j, (w.cell? ⟨b, j, none⟩).isSome = true) → (w.setCells b off vs).heap[k]? = some o := by
  intro vs off hc
  rcases hc with rfl | ⟨j, hc⟩
  · exact h
  · have hne : k ≠ b := fun e => by
      subst e
      cases o with
      | loop r => simp [World.cell?, h] at hc
      | deferred ds => simp [World.cell?, h] at hc
      | _ => cases hs
    clear hc
    induction vs generalizing off w with
    | nil => exact h
    | cons v vs ih =>
      show ((w.setCell ⟨b, off, none⟩ v).setCells b (off + 1) vs).heap[k]? = some o
      exact ih (by rw [Below.heap_setCell w ⟨b, off, none⟩ v k hne]; exact h) (off + 1)
/-- From one moment to a later one. -/
structure Fr (B : Base) (wr : Wr) (g : Gh) (st : St) (w : World) (g' : Gh) (st' : St) (w' : World) : Prop where
  le : Le g g'
  below : Below B w w'
  len : st.locs.length ≤ st'.locs.length
  locs : ∀ l, l < st.locs.length → wr.ok l = false → locAt st' l = locAt st l
  dead : ∀ l, l < st.locs.length → locAt st l = none → locAt st' l = none
  live : ∀ t, t < st.next → t ∈ st'.live → t ∈ st.live
  keep : ∀ b o, b < w.heap.size → Fixed wr st (g.own b o) → g'.own b o = g.own b o ∧ w'.cell? ⟨b, o, none⟩ = w.cell? ⟨b, o, none⟩
  fz : ∀ b o, b < w.heap.size → w'.frozen? ⟨b, o, none⟩ = w.frozen? ⟨b, o, none⟩
  there : ∀ b o, (w.cell? ⟨b, o, none⟩).isSome = true → (w'.cell? ⟨b, o, none⟩).isSome = true
  ol : ∀ b o l, g'.own b o = .loc l → g.own b o = .loc l ∨ g.nl ≤ l
  obj : ∀ (k : Nat) (o : Obj), w.heap[k]? = some o → still o = true → w'.heap[k]? = some o
theorem Fr.refl (B : Base) (wr : Wr) (g : Gh) (st : St) (w : World) : Fr B wr g st w g st w :=
  ⟨Le.refl g, Below.refl B w, Nat.le_refl _, fun _ _ _ => rfl, fun _ _ h => h, fun _ _ h => h, fun _ _ _ _ => ⟨rfl, rfl⟩, fun _ _ _ => rfl, fun _ _ h => h, fun _ _ _ h => .inl h, fun _ _ h _ => h⟩
theorem Fr.trans {B : Base} {wr : Wr} {g g1 g2 : Gh} {st st1 st2 : St} {w w1 w2 : World} (hs : SR B g st w) (hs1 : SR B g1 st1 w1) (h : Fr B wr g st w g1 st1 w1) (k : Fr B wr g1 st1 w1 g2 st2 w2) : Fr B wr g st w g2 st2 w2 where
  obj := fun i o h1 h2 => k.obj i o (h.obj i o h1 h2) h2
  le := h.le.trans k.le
  below := h.below.trans k.below
  len := Nat.le_trans h.len k.len
  locs := fun l hl ho => (k.locs l (Nat.lt_of_lt_of_le hl h.len) ho).trans (h.locs l hl ho)
  dead := fun l hl hn => k.dead l (Nat.lt_of_lt_of_le hl h.len) (h.dead l hl hn)
  live := fun t ht hm => h.live t ht (k.live t (by have := h.le.nt; have := hs.nt; have := hs1.nt; omega) hm)
  keep := fun b o hb hf => by
    obtain ⟨h1, h2⟩ := h.keep b o hb hf
    have hf1 : Fixed wr st1 (g1.own b o) := by
      rw [h1]
      cases ho : g.own b o with
      | other => trivial
      | im v => trivial
      | loc l =>
        rw [ho] at hf
        have hl := (hs.mloc b o l ho).1
        rw [hs.nl] at hl
        exact hf.imp id (h.dead l hl)
      | spare t =>
        rw [ho] at hf
        have ht := (hs.mspare b o t ho).1
        rw [hs.nt] at ht
        exact fun hm => hf (h.live t ht hm)
    obtain ⟨h3, h4⟩ := k.keep b o (Nat.lt_of_lt_of_le hb h.below.size) hf1
    exact ⟨h3.trans h1, h4.trans h2⟩
  fz := fun b o hb => (k.fz b o (Nat.lt_of_lt_of_le hb h.below.size)).trans (h.fz b o hb)
  there := fun b o hx => k.there b o (h.there b o hx)
  ol := fun b o l hx => (k.ol b o l hx).elim (h.ol b o l) fun h2 => .inr (Nat.le_trans h.le.nl h2)

/-- A draw. -/
theorem SR.draws {B : Base} {g : Gh} {st : St} {w : World} (h : SR B g st w) (n : Nat) : SR B g st (w.drewN n) :=
  ⟨h.nl, h.nt, ⟨h.old.os, h.old.tape, h.old.output, h.old.size, h.old.block⟩, h.im, h.mloc, h.mspare, h.loc, h.tok, h.obj⟩
theorem Fr.draws (B : Base) (wr : Wr) (g : Gh) (st : St) (w : World) (n : Nat) : Fr B wr g st w g st (w.drewN n) :=
  ⟨Le.refl g, ⟨rfl, rfl, rfl, Nat.le_refl _, fun _ _ => rfl⟩, Nat.le_refl _, fun _ _ _ => rfl, fun _ _ h => h, fun _ _ h => h, fun _ _ _ _ => ⟨rfl, rfl⟩, fun _ _ _ => rfl, fun _ _ h => h, fun _ _ _ h => .inl h, fun _ _ h _ => h⟩

/-! A new block: whose its cells are. -/
def Gh.block (g : Gh) (b : Nat) (f : Nat → Owner) : Gh := { g with own := fun b' o => if b' = b then f o else g.own b' o }
theorem cell_alloc_old {w : World} {o : Obj} {b j : Nat} (h : b ≠ w.heap.size) : (w.alloc o).cell? ⟨b, j, none⟩ = w.cell? ⟨b, j, none⟩ := World.cell?_alloc_old w o _ h
theorem froz_alloc_old {w : World} {o : Obj} {b j : Nat} (h : b ≠ w.heap.size) : (w.alloc o).frozen? ⟨b, j, none⟩ = w.frozen? ⟨b, j, none⟩ := World.frozen?_alloc_old w o _ h

/-- A new location. -/
def Gh.newLoc (g : Gh) (b n : Nat) : Gh :=
  { g with own := fun b' o => if b' = b then (if o < n then .loc g.nl else .other) else g.own b' o,
           base := fun l => if l = g.nl then (b, 0) else g.base l, ext := fun l => if l = g.nl then n else g.ext l, nl := g.nl + 1 }
theorem there_alloc {w : World} {ob : Obj} {b o : Nat} (h : (w.cell? ⟨b, o, none⟩).isSome = true) : ((w.alloc ob).cell? ⟨b, o, none⟩).isSome = true := by
  obtain ⟨u, hu⟩ := Option.isSome_iff_exists.1 h
  have := World.block_lt_of_cell? w _ hu
  rw [cell_alloc_old (by simp at this; omega)]
  exact h
theorem locAt_newLoc_old {st : St} {cs : List PV} {l : Nat} (h : l < st.locs.length) : locAt (newLoc st cs) l = locAt st l := by
  unfold locAt newLoc
  rw [List.getElem?_append_left h]
theorem locAt_newLoc_new (st : St) (cs : List PV) : locAt (newLoc st cs) st.locs.length = some cs := by
  unfold locAt newLoc
  simp
theorem locAt_newLoc_some {st : St} {cs ds : List PV} {l : Nat} (h : locAt (newLoc st cs) l = some ds) : (l < st.locs.length ∧ locAt st l = some ds) ∨ (l = st.locs.length ∧ ds = cs) := by
  rcases Nat.lt_trichotomy l st.locs.length with hl | hl | hl
  · rw [locAt_newLoc_old hl] at h; exact .inl ⟨hl, h⟩
  · subst hl; rw [locAt_newLoc_new] at h; exact .inr ⟨rfl, by simpa using h.symm⟩
  · have := locAt_lt h
    unfold newLoc at this
    simp at this
    omega
theorem le_newLoc {B : Base} {g : Gh} {st : St} {w : World} (h : SR B g st w) (n : Nat) : Le g (g.newLoc w.heap.size n) where
  obj := fun _ _ h => h
  im := fun b o v hv => by
    have := h.size (b := b) (o := o) (by rw [hv]; exact fun e => by cases e)
    simp only [Gh.newLoc, if_neg (show ¬ b = w.heap.size by omega)]
    exact hv
  nl := by simp [Gh.newLoc]
  nt := Nat.le_refl _
  base := fun l hl => by simp only [Gh.newLoc, if_neg (show ¬ l = g.nl by omega)]
  ext := fun l hl => by simp only [Gh.newLoc, if_neg (show ¬ l = g.nl by omega)]
  reg := fun t _ => rfl
theorem SR.newLoc {B : Base} {g : Gh} {st : St} {w : World} (h : SR B g st w) {cs : List PV} {vals : List Value} (hr : Reps g cs vals) (arr : Array Value) (e : TypeId) (ha : vals.length ≤ arr.size) (hv : ∀ (j : Nat) (v : Value), vals[j]? = some v → arr[j]? = some v) :
    SR B (g.newLoc w.heap.size arr.size) (newLoc st cs) (w.alloc (.cells arr e)) := by
  have hle := le_newLoc h arr.size
  have hlow := h.low
  have hnl := h.nl
  have own' : ∀ b o, (g.newLoc w.heap.size arr.size).own b o = if b = w.heap.size then (if o < arr.size then .loc g.nl else .other) else g.own b o := fun _ _ => rfl
  have hnew : ∀ o, o < arr.size → ((w.alloc (.cells arr e)).cell? ⟨w.heap.size, o, none⟩).isSome = true := fun o ho => by
    rw [World.cell?_alloc_new, Array.getElem?_eq_getElem ho]; rfl
  refine ⟨by simp [Gh.newLoc, YtlkaoiceehlkmaaVE.newLoc, hnl], h.nt, h.old.alloc h.low _, ?_, ?_, ?_, ?_, ?_, fun l r hr => ⟨(h.obj l r hr).1, obj_alloc (h.obj l r hr).2⟩⟩
  · intro b o v ho
    rw [own'] at ho
    split at ho
    · split at ho <;> cases ho
    · rename_i hb; rw [cell_alloc_old hb]; exact h.im b o v ho
  · intro b o l ho
    rw [own'] at ho
    split at ho
    · rename_i hb
      subst hb
      split at ho
      · rename_i ho2
        cases ho
        exact ⟨by simp [Gh.newLoc], hlow, hnew o ho2, by simp⟩
      · cases ho
    · rename_i hb
      obtain ⟨h1, h2, h3, h4⟩ := h.mloc b o l ho
      refine ⟨by simp [Gh.newLoc]; omega, h2, by rw [cell_alloc_old hb]; exact h3, by rw [froz_alloc_old hb]; exact h4⟩
  · intro b o t ho
    rw [own'] at ho
    split at ho
    · split at ho <;> cases ho
    · rename_i hb
      obtain ⟨h1, h2, h3, h4⟩ := h.mspare b o t ho
      exact ⟨h1, h2, by rw [cell_alloc_old hb]; exact h3, by rw [froz_alloc_old hb]; exact h4⟩
  · intro l ds hl
    rcases locAt_newLoc_some hl with ⟨hlt, hl⟩ | ⟨rfl, rfl⟩
    · obtain ⟨h1, h2, us, h3, h4⟩ := h.loc l ds hl
      have hlt' : l < g.nl := by omega
      rw [hle.ext l hlt', hle.base l hlt']
      refine ⟨h1, fun j hj => ?_, us, Reps.mono hle _ _ h3, fun j v hj => ?_⟩
      · have := h2 j hj
        have hb := h.size (b := (g.base l).1) (o := (g.base l).2 + j) (by rw [this]; exact fun e => by cases e)
        rw [own', if_neg (by omega)]; exact this
      · have := h4 j v hj
        have hb := World.block_lt_of_cell? w _ this
        rw [cell_alloc_old (by simp at hb; omega)]; exact this
    · simp only [Gh.newLoc, ← hnl, if_true]
      refine ⟨by rw [← hr.length]; exact ha, fun j hj => by simp [hj], vals, Reps.mono hle _ _ hr, fun j v hj => ?_⟩
      simp only [Nat.zero_add, World.cell?_alloc_new]
      exact hv j v hj
  · intro t ht
    obtain ⟨h1, h2⟩ := h.tok t ht
    refine ⟨h1, fun o ho1 ho2 => ?_⟩
    have h3 : g.own (g.reg t).1 o = .spare t := h2 o ho1 ho2
    have hb := h.size (b := (g.reg t).1) (o := o) (by rw [h3]; exact fun e => by cases e)
    show (g.newLoc w.heap.size arr.size).own (g.reg t).1 o = _
    rw [own', if_neg (by omega)]
    exact h3
theorem Fr.newLoc {B : Base} {wr : Wr} {g : Gh} {st : St} {w : World} (h : SR B g st w) (cs : List PV) (n : Nat) (o : Obj) :
    Fr B wr g st w (g.newLoc w.heap.size n) (newLoc st cs) (w.alloc o) where
  obj := fun k o h _ => obj_alloc h
  le := le_newLoc h n
  below := (Below.refl B w).alloc h.low o
  len := by simp [YtlkaoiceehlkmaaVE.newLoc]
  locs := fun l hl _ => locAt_newLoc_old hl
  dead := fun l hl hn => (locAt_newLoc_old hl).trans hn
  live := fun _ _ h => h
  keep := fun b o hb _ => ⟨by simp only [Gh.newLoc, if_neg (show ¬ b = w.heap.size by omega)], cell_alloc_old (by omega)⟩
  fz := fun b o hb => froz_alloc_old (by omega)
  there := fun _ _ h => there_alloc h
  ol := fun b o l hx => by
    simp only [Gh.newLoc] at hx
    split at hx
    · split at hx
      · cases hx; exact .inr (Nat.le_refl _)
      · cases hx
    · exact .inl hx

/-- A new unchanging row. -/
def Gh.newRow (g : Gh) (b : Nat) (vals : List Value) : Gh :=
  { g with own := fun b' o => if b' = b then (match vals[o]? with | some v => .im v | none => .other) else g.own b' o }
theorem le_newRow {B : Base} {g : Gh} {st : St} {w : World} (h : SR B g st w) (vals : List Value) : Le g (g.newRow w.heap.size vals) where
  obj := fun _ _ h => h
  im := fun b o v hv => by
    have := h.size (b := b) (o := o) (by rw [hv]; exact fun e => by cases e)
    simp only [Gh.newRow, if_neg (show ¬ b = w.heap.size by omega)]
    exact hv
  nl := Nat.le_refl _
  nt := Nat.le_refl _
  base := fun l hl => rfl
  ext := fun l hl => rfl
  reg := fun t _ => rfl
theorem SR.newRow {B : Base} {g : Gh} {st : St} {w : World} (h : SR B g st w) (vals : List Value) (arr : Array Value) (e : TypeId) (hv : ∀ (j : Nat) (v : Value), vals[j]? = some v → arr[j]? = some v) :
    SR B (g.newRow w.heap.size vals) st (w.alloc (.cells arr e)) := by
  have hle := le_newRow h vals
  have hlow := h.low
  have own' : ∀ b o, (g.newRow w.heap.size vals).own b o = if b = w.heap.size then (match vals[o]? with | some v => .im v | none => .other) else g.own b o := fun _ _ => rfl
  refine ⟨h.nl, h.nt, h.old.alloc h.low _, ?_, ?_, ?_, ?_, ?_, fun l r hr => ⟨(h.obj l r hr).1, obj_alloc (h.obj l r hr).2⟩⟩
  · intro b o v ho
    rw [own'] at ho
    split at ho
    · rename_i hb
      subst hb
      split at ho
      · rename_i u hu
        cases ho
        rw [World.cell?_alloc_new]
        exact hv o _ hu
      · cases ho
    · rename_i hb; rw [cell_alloc_old hb]; exact h.im b o v ho
  · intro b o l ho
    rw [own'] at ho
    split at ho
    · split at ho <;> cases ho
    · rename_i hb
      obtain ⟨h1, h2, h3, h4⟩ := h.mloc b o l ho
      exact ⟨h1, h2, by rw [cell_alloc_old hb]; exact h3, by rw [froz_alloc_old hb]; exact h4⟩
  · intro b o t ho
    rw [own'] at ho
    split at ho
    · split at ho <;> cases ho
    · rename_i hb
      obtain ⟨h1, h2, h3, h4⟩ := h.mspare b o t ho
      exact ⟨h1, h2, by rw [cell_alloc_old hb]; exact h3, by rw [froz_alloc_old hb]; exact h4⟩
  · intro l ds hl
    obtain ⟨h1, h2, us, h3, h4⟩ := h.loc l ds hl
    refine ⟨h1, fun j hj => ?_, us, Reps.mono hle _ _ h3, fun j v hj => ?_⟩
    · have h5 : g.own (g.base l).1 ((g.base l).2 + j) = .loc l := h2 j hj
      have hb := h.size (b := (g.base l).1) (o := (g.base l).2 + j) (by rw [h5]; exact fun e => by cases e)
      show (g.newRow w.heap.size vals).own (g.base l).1 ((g.base l).2 + j) = _
      rw [own', if_neg (by omega)]; exact h5
    · have := h4 j v hj
      have hb := World.block_lt_of_cell? w _ this
      show (w.alloc _).cell? ⟨(g.base l).1, (g.base l).2 + j, none⟩ = some v
      rw [cell_alloc_old (by simp at hb; omega)]; exact this
  · intro t ht
    obtain ⟨h1, h2⟩ := h.tok t ht
    refine ⟨h1, fun o ho1 ho2 => ?_⟩
    have h3 : g.own (g.reg t).1 o = .spare t := h2 o ho1 ho2
    have hb := h.size (b := (g.reg t).1) (o := o) (by rw [h3]; exact fun e => by cases e)
    show (g.newRow w.heap.size vals).own (g.reg t).1 o = _
    rw [own', if_neg (by omega)]
    exact h3
theorem Fr.newRow {B : Base} {wr : Wr} {g : Gh} {st : St} {w : World} (h : SR B g st w) (vals : List Value) (o : Obj) :
    Fr B wr g st w (g.newRow w.heap.size vals) st (w.alloc o) where
  obj := fun k o h _ => obj_alloc h
  le := le_newRow h vals
  below := (Below.refl B w).alloc h.low o
  len := Nat.le_refl _
  locs := fun _ _ _ => rfl
  dead := fun _ _ h => h
  live := fun _ _ h => h
  keep := fun b o hb _ => ⟨by simp only [Gh.newRow, if_neg (show ¬ b = w.heap.size by omega)], cell_alloc_old (by omega)⟩
  fz := fun b o hb => froz_alloc_old (by omega)
  there := fun _ _ h => there_alloc h
  ol := fun b o l hx => by
    simp only [Gh.newRow] at hx
    split at hx
    · split at hx <;> cases hx
    · exact .inl hx
theorem im_newRow (g : Gh) (b : Nat) (vals : List Value) : Im (g.newRow b vals) b 0 vals := fun j v hv => by
  simp only [Gh.newRow, Nat.zero_add, if_true, hv]

/-- A new row with spare room, a new token's. -/
def Gh.newTok (g : Gh) (b : Nat) (vals : List Value) (n : Nat) : Gh :=
  { g with own := fun b' o => if b' = b then (match vals[o]? with | some v => .im v | none => if o < n then .spare g.nt else .other) else g.own b' o,
           reg := fun t => if t = g.nt then (b, vals.length, n) else g.reg t, nt := g.nt + 1 }
def tokSt (st : St) : St := { st with live := st.next :: st.live, next := st.next + 1 }
theorem le_newTok {B : Base} {g : Gh} {st : St} {w : World} (h : SR B g st w) (vals : List Value) (n : Nat) : Le g (g.newTok w.heap.size vals n) where
  obj := fun _ _ h => h
  im := fun b o v hv => by
    have := h.size (b := b) (o := o) (by rw [hv]; exact fun e => by cases e)
    simp only [Gh.newTok, if_neg (show ¬ b = w.heap.size by omega)]
    exact hv
  nl := Nat.le_refl _
  nt := by simp [Gh.newTok]
  base := fun l hl => rfl
  ext := fun l hl => rfl
  reg := fun t ht => by simp only [Gh.newTok, if_neg (show ¬ t = g.nt by omega)]
theorem SR.newTok {B : Base} {g : Gh} {st : St} {w : World} (h : SR B g st w) (vals : List Value) (arr : Array Value) (e : TypeId) (hv : ∀ (j : Nat) (v : Value), vals[j]? = some v → arr[j]? = some v) :
    SR B (g.newTok w.heap.size vals arr.size) (tokSt st) (w.alloc (.cells arr e)) := by
  have hle := le_newTok h vals arr.size
  have hlow := h.low
  have hnt := h.nt
  have own' : ∀ b o, (g.newTok w.heap.size vals arr.size).own b o = if b = w.heap.size then (match vals[o]? with | some v => .im v | none => if o < arr.size then .spare g.nt else .other) else g.own b o := fun _ _ => rfl
  refine ⟨h.nl, by simp [Gh.newTok, tokSt, hnt], h.old.alloc h.low _, ?_, ?_, ?_, ?_, ?_, fun l r hr => ⟨(h.obj l r hr).1, obj_alloc (h.obj l r hr).2⟩⟩
  · intro b o v ho
    rw [own'] at ho
    split at ho
    · rename_i hb
      subst hb
      split at ho
      · rename_i u hu
        cases ho
        rw [World.cell?_alloc_new]
        exact hv o _ hu
      · split at ho <;> cases ho
    · rename_i hb; rw [cell_alloc_old hb]; exact h.im b o v ho
  · intro b o l ho
    rw [own'] at ho
    split at ho
    · split at ho
      · cases ho
      · split at ho <;> cases ho
    · rename_i hb
      obtain ⟨h1, h2, h3, h4⟩ := h.mloc b o l ho
      exact ⟨h1, h2, by rw [cell_alloc_old hb]; exact h3, by rw [froz_alloc_old hb]; exact h4⟩
  · intro b o t ho
    rw [own'] at ho
    split at ho
    · rename_i hb
      subst hb
      split at ho
      · cases ho
      · split at ho
        · rename_i hlt
          cases ho
          exact ⟨by simp [Gh.newTok], hlow, by rw [World.cell?_alloc_new, Array.getElem?_eq_getElem hlt]; rfl, by simp⟩
        · cases ho
    · rename_i hb
      obtain ⟨h1, h2, h3, h4⟩ := h.mspare b o t ho
      exact ⟨by simp [Gh.newTok]; omega, h2, by rw [cell_alloc_old hb]; exact h3, by rw [froz_alloc_old hb]; exact h4⟩
  · intro l ds hl
    obtain ⟨h1, h2, us, h3, h4⟩ := h.loc l ds hl
    refine ⟨h1, fun j hj => ?_, us, Reps.mono hle _ _ h3, fun j v hj => ?_⟩
    · have h5 : g.own (g.base l).1 ((g.base l).2 + j) = .loc l := h2 j hj
      have hb := h.size (b := (g.base l).1) (o := (g.base l).2 + j) (by rw [h5]; exact fun e => by cases e)
      show (g.newTok w.heap.size vals arr.size).own (g.base l).1 ((g.base l).2 + j) = _
      rw [own', if_neg (by omega)]; exact h5
    · have := h4 j v hj
      have hb := World.block_lt_of_cell? w _ this
      show (w.alloc _).cell? ⟨(g.base l).1, (g.base l).2 + j, none⟩ = some v
      rw [cell_alloc_old (by simp at hb; omega)]; exact this
  · intro t ht
    simp only [tokSt, List.mem_cons] at ht
    by_cases htn : t = g.nt
    · subst htn
      refine ⟨by simp [Gh.newTok], fun o ho1 ho2 => ?_⟩
      simp only [Gh.newTok, if_true] at ho1 ho2 ⊢
      rw [List.getElem?_eq_none ho1]
      simp [ho2]
    · have ht' : t ∈ st.live := by
        rcases ht with rfl | ht
        · exact absurd hnt.symm htn
        · exact ht
      obtain ⟨h1, h2⟩ := h.tok t ht'
      rw [hle.reg t h1]
      refine ⟨by simp [Gh.newTok]; omega, fun o ho1 ho2 => ?_⟩
      have h3 : g.own (g.reg t).1 o = .spare t := h2 o ho1 ho2
      have hb := h.size (b := (g.reg t).1) (o := o) (by rw [h3]; exact fun e => by cases e)
      rw [own', if_neg (by omega)]
      exact h3
theorem Fr.newTok {B : Base} {wr : Wr} {g : Gh} {st : St} {w : World} (h : SR B g st w) (vals : List Value) (n : Nat) (o : Obj) :
    Fr B wr g st w (g.newTok w.heap.size vals n) (tokSt st) (w.alloc o) where
  obj := fun k o h _ => obj_alloc h
  le := le_newTok h vals n
  below := (Below.refl B w).alloc h.low o
  len := Nat.le_refl _
  locs := fun _ _ _ => rfl
  dead := fun _ _ h => h
  live := fun t ht hm => by
    simp only [tokSt, List.mem_cons] at hm
    rcases hm with rfl | hm
    · omega
    · exact hm
  keep := fun b o hb _ => ⟨by simp only [Gh.newTok, if_neg (show ¬ b = w.heap.size by omega)], cell_alloc_old (by omega)⟩
  fz := fun b o hb => froz_alloc_old (by omega)
  there := fun _ _ h => there_alloc h
  ol := fun b o l hx => by
    simp only [Gh.newTok] at hx
    split at hx
    · split at hx
      · cases hx
      · split at hx <;> cases hx
    · exact .inl hx
theorem im_newTok (g : Gh) (b : Nat) (vals : List Value) (n : Nat) : Im (g.newTok b vals n) b 0 vals := fun j v hv => by
  simp only [Gh.newTok, Nat.zero_add, if_true, hv]

/-! Cells that are written. -/
theorem Below.setCells {B : Nat} {a w : World} (h : Below B a w) {b o : Nat} (hb : B ≤ b) : ∀ (vs : List Value) (o : Nat) (w : World), Below B a w → Below B a (w.setCells b o vs)
  | [], _, _, h => h
  | v :: vs, o, w, h => by
    rw [World.setCells]
    exact Below.setCells (b := b) (o := o) h hb vs (o + 1) _ (h.setCell (p := ⟨b, o, none⟩) hb v)
theorem size_setCells (b : Nat) : ∀ (vs : List Value) (o : Nat) (w : World), (w.setCells b o vs).heap.size = w.heap.size
  | [], _, _ => rfl
  | v :: vs, o, w => by rw [World.setCells, size_setCells b vs, World.size_setCell]
/-- A location's cells are written anew from a place on. -/
theorem isSome_setCells (b : Nat) : ∀ (vs : List Value) (o : Nat) (w : World) (x : Addr), (w.cell? x).isSome = true → ((w.setCells b o vs).cell? x).isSome = true
  | [], o, w, x, h => h
  | v :: r, o, w, x, h => by
    rw [World.setCells]
    refine isSome_setCells b r (o + 1) _ x ?_
    obtain ⟨u, hu⟩ := Option.isSome_iff_exists.1 h
    by_cases e : (⟨b, o, none⟩ : Addr) = x
    · subst e; rw [World.cell?_setCell_same _ _ _ hu]; rfl
    · rw [World.cell?_setCell_other _ _ _ _ e]; exact h
theorem locAt_set_same {st : St} {l : Nat} {cs : List PV} (h : l < st.locs.length) : locAt { st with locs := st.locs.set l (some cs) } l = some cs := by
  unfold locAt
  simp [h]
theorem locAt_set_other {st : St} {l k : Nat} {c : Option (List PV)} (h : l ≠ k) : locAt { st with locs := st.locs.set l c } k = locAt st k := by
  unfold locAt
  simp [List.getElem?_set, h]
theorem SR.store {B : Base} {g : Gh} {st : St} {w : World} (h : SR B g st w) {l off : Nat} {cs ns : List PV} {vs : List Value} (hl : locAt st l = some cs) (hr : Reps g ns vs) (hn : off + ns.length ≤ cs.length) :
    SR B g { st with locs := st.locs.set l (some (setAt cs off ns)) } (w.setCells (g.base l).1 ((g.base l).2 + off) vs) := by
  obtain ⟨h1, h2, us, h3, h4⟩ := h.loc l cs hl
  have hlt := locAt_lt hl
  have hvl : vs.length = ns.length := hr.length
  have hul : us.length = cs.length := h3.length
  have hall : ∀ j, j < vs.length → (w.cell? ⟨(g.base l).1, (g.base l).2 + off + j, none⟩).isSome = true := fun j hj => by
    rw [Nat.add_assoc]
    exact (h.mloc _ _ l (h2 (off + j) (by omega))).2.2.1
  -- a cell that is another's isn't turned
  have out : ∀ b o, g.own b o ≠ .loc l → (w.setCells (g.base l).1 ((g.base l).2 + off) vs).cell? ⟨b, o, none⟩ = w.cell? ⟨b, o, none⟩ := fun b o ho => by
    refine World.cell?_setCells_out _ _ _ _ _ (fun hb _ => ?_)
    simp only at hb
    subst hb
    rcases Nat.lt_or_ge o ((g.base l).2 + off) with h5 | h5
    · exact .inl h5
    · rcases Nat.lt_or_ge o ((g.base l).2 + off + vs.length) with h6 | h6
      · have := h2 (o - (g.base l).2) (by omega)
        rw [show (g.base l).2 + (o - (g.base l).2) = o by omega] at this
        exact absurd this ho
      · exact .inr h6
  have hbel : Below B.n B.w (w.setCells (g.base l).1 ((g.base l).2 + off) vs) := by
    rcases Nat.eq_zero_or_pos vs.length with h0 | h0
    · have : vs = [] := List.eq_nil_of_length_eq_zero h0
      subst this
      exact h.old
    · have := (h.mloc _ _ l (h2 0 (by omega))).2.1
      exact Below.setCells (b := (g.base l).1) (o := 0) h.old this vs _ w h.old
  refine ⟨by simp [h.nl], h.nt, hbel, ?_, ?_, ?_, ?_, ?_, fun k r hr => ⟨(h.obj k r hr).1, obj_setCells (h.obj k r hr).2 rfl _ _ (by
    cases hvs : vs with
    | nil => exact .inl rfl
    | cons v vs' => exact .inr ⟨_, hall 0 (by rw [hvs]; simp)⟩)⟩⟩
  · intro b o v ho
    rw [out b o (by rw [ho]; exact fun e => by cases e)]
    exact h.im b o v ho
  · intro b o k ho
    obtain ⟨h5, h6, h7, h8⟩ := h.mloc b o k ho
    exact ⟨h5, h6, isSome_setCells _ _ _ _ _ h7, by rw [World.frozen?_setCells]; exact h8⟩
  · intro b o t ho
    obtain ⟨h5, h6, h7, h8⟩ := h.mspare b o t ho
    exact ⟨h5, h6, isSome_setCells _ _ _ _ _ h7, by rw [World.frozen?_setCells]; exact h8⟩
  · intro k ds hk
    by_cases hkl : l = k
    · subst hkl
      rw [locAt_set_same hlt] at hk
      simp only [Option.some.injEq] at hk
      subst hk
      have hlen : (setAt cs off ns).length = cs.length := by simp [setAt]; omega
      refine ⟨by rw [hlen]; exact h1, h2, us.take off ++ vs ++ us.drop (off + vs.length), ?_, ?_⟩
      · unfold setAt
        rw [← hvl]
        exact ((h3.take off).append hr).append (h3.drop _)
      · intro j v hj
        have htl : (us.take off).length = off := by rw [List.length_take]; omega
        rcases Nat.lt_or_ge j off with hj1 | hj1
        · rw [List.append_assoc, List.getElem?_append_left (by omega), List.getElem?_take, if_pos hj1] at hj
          rw [World.cell?_setCells_out _ _ _ _ _ (fun _ _ => .inl (by simp; omega))]
          exact h4 j v hj
        · rcases Nat.lt_or_ge j (off + vs.length) with hj2 | hj2
          · rw [List.append_assoc, List.getElem?_append_right (by omega), List.getElem?_append_left (by omega), htl] at hj
            obtain ⟨hj3, hj4⟩ := List.getElem?_eq_some_iff.1 hj
            have := World.cell?_setCells_in (g.base l).1 vs ((g.base l).2 + off) w hall (j - off) hj3
            rw [show (g.base l).2 + off + (j - off) = (g.base l).2 + j by omega] at this
            rw [this, hj4]
          · rw [List.getElem?_append_right (by simp; omega), List.getElem?_drop] at hj
            simp only [List.length_append, htl] at hj
            rw [World.cell?_setCells_out _ _ _ _ _ (fun _ _ => .inr (by simp; omega))]
            exact h4 j v (by rw [← hj]; congr 1; omega)
    · rw [locAt_set_other hkl] at hk
      obtain ⟨h5, h6, us', h7, h8⟩ := h.loc k ds hk
      refine ⟨h5, h6, us', h7, fun j v hj => ?_⟩
      have hj2 : j < ds.length := by rw [← h7.length]; exact (List.getElem?_eq_some_iff.1 hj).1
      rw [out _ _ (by rw [h6 j (by omega)]; intro e; injection e with e; exact hkl e.symm)]
      exact h8 j v hj
  · exact h.tok
theorem Fr.store {B : Base} {wr : Wr} {g : Gh} {st : St} {w : World} (h : SR B g st w) {l off : Nat} {cs ns : List PV} {vs : List Value} (hl : locAt st l = some cs) (hvl : vs.length = ns.length) (hn : off + ns.length ≤ cs.length) (hw : wr.ok l = true) :
    Fr B wr g st w g { st with locs := st.locs.set l (some (setAt cs off ns)) } (w.setCells (g.base l).1 ((g.base l).2 + off) vs) where
  obj := fun k o h1 h2 => obj_setCells h1 h2 _ _ (by
    cases hvs : vs with
    | nil => exact .inl rfl
    | cons v vs' =>
      obtain ⟨_, h4, _⟩ := h.loc l cs hl
      refine .inr ⟨(g.base l).2 + off, (h.mloc _ _ l (h4 off ?_)).2.2.1⟩
      have := (h.loc l cs hl).1
      rw [hvs] at hvl
      simp at hvl
      omega)
  le := Le.refl g
  below := by
    obtain ⟨h1, h2, _⟩ := h.loc l cs hl
    rcases Nat.eq_zero_or_pos vs.length with h0 | h0
    · have : vs = [] := List.eq_nil_of_length_eq_zero h0
      subst this
      exact Below.refl B w
    · have := (h.mloc _ _ l (h2 0 (by omega))).2.1
      exact Below.setCells (b := (g.base l).1) (o := 0) (Below.refl B w) this vs _ w (Below.refl B w)
  len := by simp
  locs := fun k hk hok => locAt_set_other (fun e => by subst e; rw [hw] at hok; cases hok)
  dead := fun k hk hn => by
    by_cases e : l = k
    · subst e; rw [hl] at hn; cases hn
    · rw [locAt_set_other e]; exact hn
  live := fun _ _ h => h
  keep := fun b o hb hf => by
    obtain ⟨h1, h2, us, h3, h4⟩ := h.loc l cs hl
    refine ⟨rfl, World.cell?_setCells_out _ _ _ _ _ (fun hb _ => ?_)⟩
    simp only at hb
    subst hb
    rcases Nat.lt_or_ge o ((g.base l).2 + off) with h5 | h5
    · exact .inl h5
    · rcases Nat.lt_or_ge o ((g.base l).2 + off + vs.length) with h6 | h6
      · have := h2 (o - (g.base l).2) (by omega)
        rw [show (g.base l).2 + (o - (g.base l).2) = o by omega] at this
        rw [this] at hf
        rcases hf with hf | hf
        · rw [hw] at hf; cases hf
        · rw [hl] at hf; cases hf
      · exact .inr h6
  fz := fun b o hb => World.frozen?_setCells _ _ _ _ _
  there := fun b o h => isSome_setCells _ _ _ _ _ h
  ol := fun _ _ _ h => .inl h
end Go.Proofs.YtlkaoiceehlkmaaVE

namespace Go.Proofs.YtlkaoiceehlkmaaVE
open Go Go.RowKit
set_option linter.unusedVariables false
set_option linter.unusedSimpArgs false

/-! The spare room of a token is used. -/
def Gh.useTok (g : Gh) (t b e f : Nat) (vs : List Value) : Gh :=
  { g with own := fun b' o => if b' = b ∧ e ≤ o ∧ o < e + vs.length then (match vs[o - e]? with | some v => .im v | none => .other) else
             match g.own b' o with | .spare u => if u = t then .spare g.nt else .spare u | x => x,
           reg := fun u => if u = g.nt then (b, e + vs.length, f) else g.reg u, nt := g.nt + 1 }
def useSt (st : St) (t : Nat) : St := { st with live := st.next :: st.live.filter (fun u => u != t), next := st.next + 1 }
section useTok
variable {B : Base} {g : Gh} {st : St} {w : World} {t b e f : Nat} {vs : List Value}
theorem useTok_own (b' o : Nat) : (g.useTok t b e f vs).own b' o = if b' = b ∧ e ≤ o ∧ o < e + vs.length then (match vs[o - e]? with | some v => .im v | none => .other) else
             match g.own b' o with | .spare u => if u = t then .spare g.nt else .spare u | x => x := rfl
theorem le_useTok (h : SR B g st w) (ht : t ∈ st.live) (hr : g.reg t = (b, e, f)) (hf : e + vs.length ≤ f) : Le g (g.useTok t b e f vs) where
  im := fun b' o v hv => by
    have hs := (h.tok t ht).2
    rw [hr] at hs
    rw [useTok_own, if_neg, hv]
    rintro ⟨rfl, h1, h2⟩
    have := hs o h1 (by simp only at *; omega)
    simp only at this
    rw [hv] at this
    cases this
  nl := Nat.le_refl _
  nt := by simp [Gh.useTok]
  base := fun _ _ => rfl
  ext := fun _ _ => rfl
  reg := fun u hu => by simp only [Gh.useTok, if_neg (show ¬ u = g.nt by omega)]
  obj := fun _ _ h => h
theorem SR.useTok (h : SR B g st w) (ht : t ∈ st.live) (hr : g.reg t = (b, e, f)) (hf : e + vs.length ≤ f) : SR B (g.useTok t b e f vs) (useSt st t) (w.setCells b e vs) := by
  have hle := le_useTok h ht hr hf
  have hs0 := (h.tok t ht).2
  rw [hr] at hs0
  simp only at hs0
  have hs : ∀ o, e ≤ o → o < e + vs.length → g.own b o = .spare t := fun o h1 h2 => hs0 o h1 (by omega)
  have out : ∀ b' o, ¬ (b' = b ∧ e ≤ o ∧ o < e + vs.length) → (w.setCells b e vs).cell? ⟨b', o, none⟩ = w.cell? ⟨b', o, none⟩ := fun b' o ho => by
    refine World.cell?_setCells_out _ _ _ _ _ (fun hb _ => ?_)
    simp only at hb ⊢
    omega
  have hall : ∀ j, j < vs.length → (w.cell? ⟨b, e + j, none⟩).isSome = true := fun j hj => (h.mspare _ _ t (hs (e + j) (by omega) (by omega))).2.2.1
  have hbel : Below B.n B.w (w.setCells b e vs) := by
    rcases Nat.eq_zero_or_pos vs.length with h0 | h0
    · have : vs = [] := List.eq_nil_of_length_eq_zero h0
      subst this
      exact h.old
    · have := (h.mspare _ _ t (hs e (Nat.le_refl _) (by omega))).2.1
      exact Below.setCells (b := b) (o := 0) h.old this vs _ w h.old
  refine ⟨h.nl, by simp [Gh.useTok, useSt, h.nt], hbel, ?_, ?_, ?_, ?_, ?_, fun k r hr => ⟨(h.obj k r hr).1, obj_setCells (h.obj k r hr).2 rfl _ _ (by
    cases hvs : vs with
    | nil => exact .inl rfl
    | cons v vs' => exact .inr ⟨_, hall 0 (by rw [hvs]; simp)⟩)⟩⟩
  · intro b' o v ho
    rw [useTok_own] at ho
    split at ho
    · rename_i hin
      obtain ⟨rfl, h1, h2⟩ := hin
      split at ho
      · rename_i hu
        cases ho
        have := World.cell?_setCells_in b' vs e w hall (o - e) (by omega)
        rw [show e + (o - e) = o by omega] at this
        rw [this, ← hu]
        exact (List.getElem?_eq_getElem (by omega)).symm
      · cases ho
    · rename_i hin
      rw [out b' o hin]
      split at ho
      · split at ho <;> cases ho
      · exact h.im b' o v ho
  · intro b' o l ho
    rw [useTok_own] at ho
    split at ho
    · split at ho <;> cases ho
    · rename_i hin
      split at ho
      · split at ho <;> cases ho
      · obtain ⟨h1, h2, h3, h4⟩ := h.mloc b' o l ho
        exact ⟨h1, h2, by rw [out b' o hin]; exact h3, by rw [World.frozen?_setCells]; exact h4⟩
  · intro b' o u ho
    rw [useTok_own] at ho
    split at ho
    · split at ho <;> cases ho
    · rename_i hin
      split at ho
      · rename_i k hk
        obtain ⟨h1, h2, h3, h4⟩ := h.mspare b' o k hk
        refine ⟨?_, h2, by rw [out b' o hin]; exact h3, by rw [World.frozen?_setCells]; exact h4⟩
        split at ho
        · cases ho; simp [Gh.useTok]
        · cases ho; simp [Gh.useTok]; omega
      · rename_i hx
        exact absurd ho (hx u)
  · intro l ds hl
    obtain ⟨h1, h2, us, h3, h4⟩ := h.loc l ds hl
    have hnin : ∀ j, j < g.ext l → ¬ ((g.base l).1 = b ∧ e ≤ (g.base l).2 + j ∧ (g.base l).2 + j < e + vs.length) := fun j hj hin => by
      have h5 := h2 j hj
      rw [hin.1, hs _ hin.2.1 hin.2.2] at h5
      cases h5
    refine ⟨h1, fun j hj => ?_, us, Reps.mono hle _ _ h3, fun j v hj => ?_⟩
    · show (g.useTok t b e f vs).own (g.base l).1 ((g.base l).2 + j) = _
      rw [useTok_own, if_neg (hnin j hj), h2 j hj]
    · have hj2 : j < ds.length := by rw [← h3.length]; exact (List.getElem?_eq_some_iff.1 hj).1
      show (w.setCells b e vs).cell? ⟨(g.base l).1, (g.base l).2 + j, none⟩ = _
      rw [out _ _ (hnin j (by omega))]
      exact h4 j v hj
  · intro u hu
    simp only [useSt, List.mem_cons, List.mem_filter, bne_iff_ne, ne_eq] at hu
    by_cases hun : u = g.nt
    · subst hun
      refine ⟨by simp [Gh.useTok], fun o h1 h2 => ?_⟩
      simp only [Gh.useTok, if_true] at h1 h2
      show (g.useTok t b e f vs).own ((g.useTok t b e f vs).reg g.nt).1 o = _
      rw [useTok_own]
      simp only [Gh.useTok, if_true]
      rw [if_neg (by omega), hs0 o (by omega) h2]
      simp
    · have hu' : u ∈ st.live ∧ ¬ u = t := by
        rcases hu with rfl | hu
        · exact absurd h.nt.symm hun
        · exact hu
      obtain ⟨h1, h2⟩ := h.tok u hu'.1
      rw [hle.reg u h1]
      refine ⟨by simp [Gh.useTok]; omega, fun o h3 h4 => ?_⟩
      have h5 := h2 o h3 h4
      rw [useTok_own, if_neg]
      · rw [h5]; simp [hu'.2]
      · rintro ⟨h6, h7, h8⟩
        rw [h6, hs o h7 h8] at h5
        injection h5 with h5
        exact hu'.2 h5.symm
theorem Fr.useTok {wr : Wr} (h : SR B g st w) (ht : t ∈ st.live) (hr : g.reg t = (b, e, f)) (hf : e + vs.length ≤ f) : Fr B wr g st w (g.useTok t b e f vs) (useSt st t) (w.setCells b e vs) where
  le := le_useTok h ht hr hf
  below := by
    have hs0 := (h.tok t ht).2
    rw [hr] at hs0
    simp only at hs0
    rcases Nat.eq_zero_or_pos vs.length with h0 | h0
    · have : vs = [] := List.eq_nil_of_length_eq_zero h0
      subst this
      exact Below.refl B w
    · have := (h.mspare _ _ t (hs0 e (Nat.le_refl _) (by omega))).2.1
      exact Below.setCells (b := b) (o := 0) (Below.refl B w) this vs _ w (Below.refl B w)
  len := Nat.le_refl _
  locs := fun _ _ _ => rfl
  dead := fun _ _ h => h
  live := fun u hu hm => by
    simp only [useSt, List.mem_cons, List.mem_filter] at hm
    rcases hm with rfl | hm
    · omega
    · exact hm.1
  keep := fun b' o hb hx => by
    have hs0 := (h.tok t ht).2
    rw [hr] at hs0
    simp only at hs0
    have hnin : ¬ (b' = b ∧ e ≤ o ∧ o < e + vs.length) := by
      rintro ⟨rfl, h1, h2⟩
      rw [hs0 o h1 (by omega)] at hx
      exact hx ht
    refine ⟨?_, World.cell?_setCells_out _ _ _ _ _ (fun hb _ => by simp only at hb ⊢; omega)⟩
    rw [useTok_own, if_neg hnin]
    split
    · rename_i u hu
      rw [hu] at hx
      rw [if_neg (fun (e : u = t) => hx (by rw [e]; exact ht)), hu]
    · rfl
  obj := fun k o h1 h2 => obj_setCells h1 h2 _ _ (by
    cases hvs : vs with
    | nil => exact .inl rfl
    | cons v vs' =>
      have hs0 := (h.tok t ht).2
      rw [hr] at hs0
      simp only at hs0
      rw [hvs, List.length_cons] at hf
      exact .inr ⟨_, (h.mspare _ _ t (hs0 e (Nat.le_refl _) (by omega))).2.2.1⟩)
  fz := fun b o hb => World.frozen?_setCells _ _ _ _ _
  there := fun b o h => isSome_setCells _ _ _ _ _ h
  ol := fun b' o l hx => by
    rw [useTok_own] at hx
    split at hx
    · split at hx <;> cases hx
    · split at hx
      · split at hx <;> cases hx
      · exact .inl hx
theorem im_useTok (g : Gh) (t b e f : Nat) (vs : List Value) : Im (g.useTok t b e f vs) b e vs := fun j v hv => by
  have hj : j < vs.length := (List.getElem?_eq_some_iff.1 hv).1
  rw [useTok_own, if_pos ⟨rfl, by omega, by omega⟩, show e + j - e = j by omega, hv]
end useTok

/-! A location is given up. -/
def killSt (st : St) (l : Nat) : St := { st with locs := st.locs.set l none }
theorem locAt_kill_same (st : St) (l : Nat) : locAt (killSt st l) l = none := by
  unfold locAt killSt
  rcases Nat.lt_or_ge l st.locs.length with h | h
  · simp [h]
  · rw [List.getElem?_eq_none (by simpa using h)]; rfl
theorem locAt_kill_other {st : St} {l k : Nat} (h : l ≠ k) : locAt (killSt st l) k = locAt st k := locAt_set_other h
theorem SR.kill {B : Base} {g : Gh} {st : St} {w : World} (h : SR B g st w) (l : Nat) : SR B g (killSt st l) w :=
  ⟨by simp [killSt, h.nl], h.nt, h.old, h.im, h.mloc, h.mspare, fun k ds hk => by
    by_cases e : l = k
    · subst e; rw [locAt_kill_same] at hk; cases hk
    · rw [locAt_kill_other e] at hk; exact h.loc k ds hk, h.tok, h.obj⟩
theorem Fr.kill {B : Base} {wr : Wr} {g : Gh} {st : St} {w : World} {l : Nat} (hw : wr.ok l = true) : Fr B wr g st w g (killSt st l) w where
  le := Le.refl g
  below := Below.refl B w
  len := by simp [killSt]
  locs := fun k hk hok => locAt_kill_other (fun e => by subst e; rw [hw] at hok; cases hok)
  dead := fun k hk hn => by
    by_cases e : l = k
    · subst e; exact locAt_kill_same st l
    · rw [locAt_kill_other e]; exact hn
  live := fun _ _ h => h
  keep := fun _ _ _ _ => ⟨rfl, rfl⟩
  obj := fun _ _ h _ => h
  fz := fun _ _ _ => rfl
  there := fun _ _ h => h
  ol := fun _ _ _ h => .inl h
/-- A location goes over into a new one, from a place on, and is written behind so many cells. -/
def Gh.moveLoc (g : Gh) (l off : Nat) : Gh :=
  { g with own := fun b o => match g.own b o with | .loc k => if k = l then .loc g.nl else .loc k | x => x,
           base := fun k => if k = g.nl then ((g.base l).1, (g.base l).2 + off) else g.base k, ext := fun k => if k = g.nl then g.ext l - off else g.ext k, nl := g.nl + 1 }
section move
variable {B : Base} {g : Gh} {st : St} {w : World} {l off n : Nat} {cs ns : List PV} {vs : List Value}
theorem le_moveLoc (h : SR B g st w) (l off : Nat) : Le g (g.moveLoc l off) where
  im := fun b' o v hv => by
    show (match g.own b' o with | .loc k => if k = l then Owner.loc g.nl else Owner.loc k | x => x) = _
    rw [hv]
  nl := by simp [Gh.moveLoc]
  nt := Nat.le_refl _
  base := fun k hk => by simp only [Gh.moveLoc, if_neg (show ¬ k = g.nl by omega)]
  ext := fun k hk => by simp only [Gh.moveLoc, if_neg (show ¬ k = g.nl by omega)]
  reg := fun _ _ => rfl
  obj := fun _ _ h => h
theorem SR.moveLoc (h : SR B g st w) (hl : locAt st l = some cs) (hn : off + n ≤ cs.length) (hr : Reps g ns vs) (hx : off + n + vs.length ≤ g.ext l) :
    SR B (g.moveLoc l off) (YtlkaoiceehlkmaaVE.newLoc (killSt st l) ((cs.drop off).take n ++ ns)) (w.setCells (g.base l).1 ((g.base l).2 + off + n) vs) := by
  have hle := le_moveLoc h l off
  obtain ⟨h1, h2, us, h3, h4⟩ := h.loc l cs hl
  have hlt := locAt_lt hl
  have hnl := h.nl
  have hul : us.length = cs.length := h3.length
  have hvl : vs.length = ns.length := hr.length
  have own' : ∀ b o, (g.moveLoc l off).own b o = match g.own b o with | .loc k => if k = l then .loc g.nl else .loc k | x => x := fun _ _ => rfl
  have klen : (killSt st l).locs.length = g.nl := by simp [killSt, hnl]
  have out : ∀ b o, g.own b o ≠ .loc l → (w.setCells (g.base l).1 ((g.base l).2 + off + n) vs).cell? ⟨b, o, none⟩ = w.cell? ⟨b, o, none⟩ := fun b o ho => by
    refine World.cell?_setCells_out _ _ _ _ _ (fun hb _ => ?_)
    simp only at hb
    subst hb
    simp only
    rcases Nat.lt_or_ge o ((g.base l).2 + off + n) with h5 | h5
    · exact .inl h5
    · rcases Nat.lt_or_ge o ((g.base l).2 + off + n + vs.length) with h6 | h6
      · have := h2 (o - (g.base l).2) (by omega)
        rw [show (g.base l).2 + (o - (g.base l).2) = o by omega] at this
        exact absurd this ho
      · exact .inr h6
  have hall : ∀ j, j < vs.length → (w.cell? ⟨(g.base l).1, (g.base l).2 + off + n + j, none⟩).isSome = true := fun j hj => by
    have := (h.mloc _ _ l (h2 (off + n + j) (by omega))).2.2.1
    rwa [show (g.base l).2 + (off + n + j) = (g.base l).2 + off + n + j by omega] at this
  have hbel : Below B.n B.w (w.setCells (g.base l).1 ((g.base l).2 + off + n) vs) := by
    rcases Nat.eq_zero_or_pos vs.length with h0 | h0
    · have : vs = [] := List.eq_nil_of_length_eq_zero h0
      subst this
      exact h.old
    · have := (h.mloc _ _ l (h2 0 (by omega))).2.1
      exact Below.setCells (b := (g.base l).1) (o := 0) h.old this vs _ w h.old
  refine ⟨by simp [Gh.moveLoc, YtlkaoiceehlkmaaVE.newLoc, klen], h.nt, hbel, ?_, ?_, ?_, ?_, ?_, fun k r hr => ⟨(h.obj k r hr).1, obj_setCells (h.obj k r hr).2 rfl _ _ (by
    cases hvs : vs with
    | nil => exact .inl rfl
    | cons v vs' => exact .inr ⟨_, hall 0 (by rw [hvs]; simp)⟩)⟩⟩
  · intro b o v ho
    rw [own'] at ho
    split at ho
    · split at ho <;> cases ho
    · rw [out b o (by rw [ho]; exact fun e => by cases e)]
      exact h.im b o v ho
  · intro b o k ho
    rw [own'] at ho
    split at ho
    · rename_i k' hk'
      obtain ⟨h5, h6, h7, h8⟩ := h.mloc b o k' hk'
      refine ⟨?_, h6, isSome_setCells _ _ _ _ _ h7, by rw [World.frozen?_setCells]; exact h8⟩
      split at ho
      · cases ho; simp [Gh.moveLoc]
      · cases ho; simp [Gh.moveLoc]; omega
    · rename_i hx
      exact absurd ho (hx k)
  · intro b o t ho
    rw [own'] at ho
    split at ho
    · split at ho <;> cases ho
    · obtain ⟨h5, h6, h7, h8⟩ := h.mspare b o t ho
      exact ⟨h5, h6, isSome_setCells _ _ _ _ _ h7, by rw [World.frozen?_setCells]; exact h8⟩
  · intro k ds hk
    rcases locAt_newLoc_some hk with ⟨hkl, hk⟩ | ⟨rfl, rfl⟩
    · rw [klen] at hkl
      have hne : l ≠ k := fun e => by subst e; rw [locAt_kill_same] at hk; cases hk
      rw [locAt_kill_other hne] at hk
      obtain ⟨h5, h6, us', h7, h8⟩ := h.loc k ds hk
      rw [hle.ext k hkl, hle.base k hkl]
      refine ⟨h5, fun j hj => by rw [own', h6 j hj]; simp [Ne.symm hne], us', Reps.mono hle _ _ h7, fun j v hj => ?_⟩
      have hj2 : j < ds.length := by rw [← h7.length]; exact (List.getElem?_eq_some_iff.1 hj).1
      rw [out _ _ (by rw [h6 j (by omega)]; intro e; injection e with e; exact hne e.symm)]
      exact h8 j v hj
    · rw [klen]
      simp only [Gh.moveLoc, if_true]
      have hlen : ((cs.drop off).take n ++ ns).length = n + vs.length := by rw [List.length_append, List.length_take, List.length_drop]; omega
      refine ⟨by rw [hlen]; omega, fun j hj => ?_, (us.drop off).take n ++ vs, ?_, fun j v hj => ?_⟩
      · have h5 := h2 (off + j) (by omega)
        rw [Nat.add_assoc, h5]
        simp
      · exact Reps.mono hle _ _ (((h3.drop off).take n).append hr)
      · have htl : ((us.drop off).take n).length = n := by rw [List.length_take, List.length_drop]; omega
        rcases Nat.lt_or_ge j n with hj1 | hj1
        · rw [List.getElem?_append_left (by omega), List.getElem?_take, if_pos hj1, List.getElem?_drop] at hj
          rw [World.cell?_setCells_out _ _ _ _ _ (fun _ _ => .inl (by simp; omega))]
          have := h4 (off + j) v hj
          rwa [show (g.base l).2 + (off + j) = (g.base l).2 + off + j by omega] at this
        · rw [List.getElem?_append_right (by omega), htl] at hj
          obtain ⟨hj3, hj4⟩ := List.getElem?_eq_some_iff.1 hj
          have := World.cell?_setCells_in (g.base l).1 vs ((g.base l).2 + off + n) w hall (j - n) hj3
          rw [show (g.base l).2 + off + n + (j - n) = (g.base l).2 + off + j by omega] at this
          rw [this, hj4]
  · intro t ht
    obtain ⟨h5, h6⟩ := h.tok t ht
    refine ⟨h5, fun o h7 h8 => ?_⟩
    have h9 : g.own (g.reg t).1 o = .spare t := h6 o h7 h8
    show (g.moveLoc l off).own (g.reg t).1 o = _
    rw [own', h9]
theorem Fr.moveLoc {wr : Wr} (h : SR B g st w) (hl : locAt st l = some cs) (hx : off + n + vs.length ≤ g.ext l) (hw : wr.ok l = true) (ds : List PV) :
    Fr B wr g st w (g.moveLoc l off) (YtlkaoiceehlkmaaVE.newLoc (killSt st l) ds) (w.setCells (g.base l).1 ((g.base l).2 + off + n) vs) where
  le := le_moveLoc h l off
  below := by
    obtain ⟨h1, h2, _⟩ := h.loc l cs hl
    rcases Nat.eq_zero_or_pos vs.length with h0 | h0
    · have : vs = [] := List.eq_nil_of_length_eq_zero h0
      subst this
      exact Below.refl B w
    · have := (h.mloc _ _ l (h2 0 (by omega))).2.1
      exact Below.setCells (b := (g.base l).1) (o := 0) (Below.refl B w) this vs _ w (Below.refl B w)
  len := by simp [YtlkaoiceehlkmaaVE.newLoc, killSt]
  locs := fun k hk hok => by
    have hne : l ≠ k := fun e => by subst e; rw [hw] at hok; cases hok
    rw [locAt_newLoc_old (by simp [killSt]; exact hk), locAt_kill_other hne]
  dead := fun k hk hn => by
    rw [locAt_newLoc_old (by simp [killSt]; exact hk)]
    by_cases e : l = k
    · subst e; exact locAt_kill_same st l
    · rw [locAt_kill_other e]; exact hn
  live := fun _ _ h => h
  keep := fun b o hb hf => by
    obtain ⟨h1, h2, us, h3, h4⟩ := h.loc l cs hl
    have hno : g.own b o ≠ .loc l := fun e => by
      rw [e] at hf
      rcases hf with hf | hf
      · rw [hw] at hf; cases hf
      · rw [hl] at hf; cases hf
    refine ⟨?_, World.cell?_setCells_out _ _ _ _ _ (fun hb _ => ?_)⟩
    · show (match g.own b o with | .loc k => if k = l then Owner.loc g.nl else Owner.loc k | x => x) = _
      split
      · rename_i k hk
        rw [if_neg (fun e => hno (by rw [hk, e])), hk]
      · rfl
    · simp only at hb
      subst hb
      simp only
      rcases Nat.lt_or_ge o ((g.base l).2 + off + n) with h5 | h5
      · exact .inl h5
      · rcases Nat.lt_or_ge o ((g.base l).2 + off + n + vs.length) with h6 | h6
        · have := h2 (o - (g.base l).2) (by omega)
          rw [show (g.base l).2 + (o - (g.base l).2) = o by omega] at this
          exact absurd this hno
        · exact .inr h6
  obj := fun k o h1' h2' => obj_setCells h1' h2' _ _ (by
    cases hvs : vs with
    | nil => exact .inl rfl
    | cons v vs' =>
      obtain ⟨h1, h2, _⟩ := h.loc l cs hl
      rw [hvs, List.length_cons] at hx
      exact .inr ⟨(g.base l).2 + (off + n), (h.mloc _ _ l (h2 (off + n) (by omega))).2.2.1⟩)
  fz := fun b o hb => World.frozen?_setCells _ _ _ _ _
  there := fun b o h => isSome_setCells _ _ _ _ _ h
  ol := fun b o k hx => by
    have hx' : (match g.own b o with | .loc k => if k = l then Owner.loc g.nl else Owner.loc k | x => x) = .loc k := hx
    split at hx'
    · rename_i k' hk'
      split at hx'
      · cases hx'; exact .inr (Nat.le_refl _)
      · cases hx'; exact .inl hk'
    · exact .inl hx'
end move
end Go.Proofs.YtlkaoiceehlkmaaVE

namespace Go.Proofs.YtlkaoiceehlkmaaVE
open Go Go.RowKit
set_option linter.unusedVariables false
set_option linter.unusedSimpArgs false

section types
variable {P : Program} {w : World}
theorem tySize_info {t : TypeId} {n : Nat} (h : tySize P t = some n) : ∃ i, P.info? t = some i ∧ i.size = n := by
  unfold tySize at h
  simpa using h
theorem run_size {t : TypeId} {n : Nat} (h : tySize P t = some n) : (sizeOf t).run P w = .ok n w := by
  obtain ⟨i, hi, rfl⟩ := tySize_info h
  simp [sizeOf, typeInfo, hi]
theorem run_agg {t : TypeId} {b : Bool} (h : tyAgg P t = some b) : (isAgg t).run P w = .ok b w := by
  unfold tyAgg at h
  cases hu : P.underlying t with
  | none => simp [hu] at h
  | some d =>
    simp only [hu, Option.map_some, Option.some.injEq] at h
    unfold isAgg
    simp only [Sem.run_bind, run_underlying hu, Result.andThen_ok]
    cases d <;> simp_all
theorem tyElem_under {t e : TypeId} (h : tyElem P t = some e) : P.underlying t = some (.slice e) := by
  unfold tyElem at h
  split at h
  · rename_i e' hu; simp only [Option.some.injEq] at h; subst h; exact hu
  · cases h
theorem zero_run {t : TypeId} {cs : List PV} (h : zeroCells P t = some cs) : ∃ i z, P.info? t = some i ∧ i.zero = some z ∧ cs = z.cells.toList.map ofC := by
  unfold zeroCells at h
  simp only [Option.map_eq_some_iff, Option.bind_eq_some_iff] at h
  obtain ⟨z, ⟨i, hi, hz⟩, rfl⟩ := h
  exact ⟨i, z, hi, hz, rfl⟩
theorem Reps.zero (g : Gh) : ∀ l : List Value, Reps g (l.map ofC) l
  | [] => rfl
  | v :: l => by simp only [List.map_cons, Reps]; exact ⟨v, l, rfl, Rep.ofC g v, Reps.zero g l⟩
end types

section cells
variable {P : Program} {B : Base} {g : Gh} {st : St} {w : World}
/-- Cells behind a pointer. -/
theorem rd_ok (hs : SR B g st w) {n : Nat} {p : PV} {cs : List PV} (h : rdCells st n p = some cs) {v : Value} (hr : Rep g p v) :
    ∃ b o vals, v = .pointer (some ⟨b, o, none⟩) ∧ vals.length = n ∧ cs.length = n ∧ Reps g cs vals ∧ ∀ j u, vals[j]? = some u → w.cell? ⟨b, o + j, none⟩ = some u := by
  unfold rdCells at h
  split at h
  · rename_i l off
    split at h
    · rename_i ds hl
      split at h
      · rename_i hn
        simp only [Option.some.injEq] at h
        subst h
        simp only [Rep] at hr
        obtain ⟨h1, h2, us, h3, h4⟩ := hs.loc l ds hl
        refine ⟨_, _, (us.drop off).take n, hr.1, by simp [h3.length]; omega, by simp; omega, (h3.drop off).take n, fun j u hj => ?_⟩
        rw [List.getElem?_take] at hj
        split at hj
        · rw [List.getElem?_drop] at hj
          have := h4 (off + j) u hj
          rwa [← Nat.add_assoc] at this
        · cases hj
      · cases h
    · cases h
  · rename_i ds
    split at h
    · rename_i hn
      simp only [Option.some.injEq] at h
      subst h
      simp only [Rep] at hr
      obtain ⟨b, o, vals, rfl, h2, h3⟩ := hr
      refine ⟨b, o, vals.take n, rfl, by simp [h3.length]; omega, by simp; omega, h3.take n, fun j u hj => ?_⟩
      rw [List.getElem?_take] at hj
      split at hj
      · exact hs.im _ _ _ (h2 j u hj)
      · cases hj
    · cases h
  · cases h
theorem load_cells {b o : Nat} {vals : List Value} (h : ∀ j u, vals[j]? = some u → w.cell? ⟨b, o + j, none⟩ = some u) : (loadCells ⟨b, o, none⟩ vals.length).run P w = .ok vals.toArray w :=
  run_loadCells_list w _ vals fun j v hv => by rw [Addr.add_lit]; exact h j v hv
theorem load_ok (hs : SR B g st w) {t : TypeId} {a p : PV} {av : Value} (h : evLoad P t a st = some p) (hr : Rep g a av) :
    ∃ v, (Instr.loadAt t av).run P w = .ok v w ∧ Rep g p v := by
  unfold evLoad at h
  split at h
  · rename_i n b hn hb
    split at h
    · rename_i cs hcs
      obtain ⟨bl, o, vals, rfl, hl, hl2, h3, h4⟩ := rd_ok hs hcs hr
      have hld := load_cells (P := P) h4
      rw [hl] at hld
      split at h
      · rename_i hbt
        subst hbt
        simp only [Option.some.injEq] at h
        subst h
        refine ⟨.agg vals.toArray, ?_, by simp only [Rep]; exact ⟨vals, rfl, h3⟩⟩
        simp [Instr.loadAt, Instr.sureAddr, loadVar, run_agg hb, run_size hn, hld]
      · rename_i hbf
        split at h
        · rename_i hn1
          subst hn1
          have hbf' : b = false := by simpa using hbf
          subst hbf'
          cases cs with
          | nil => simp at h
          | cons c cs =>
            simp only [List.head?_cons, Option.some.injEq] at h
            subst h
            simp only [Reps] at h3
            obtain ⟨u, us, rfl, h5, h6⟩ := h3
            refine ⟨u, ?_, h5⟩
            have := h4 0 u rfl
            simp only [Nat.add_zero] at this
            simp [Instr.loadAt, Instr.sureAddr, loadVar, run_agg hb, this]
        · cases h
    · cases h
  · cases h
theorem store_ok (hs : SR B g st w) {wr : Wr} {t : TypeId} {a x : PV} {av xv : Value} {st' : St} (h : evStore P wr t a x st = some st') (hr : Rep g a av) (hx : Rep g x xv) :
    ∃ w', (Instr.storeAt t av xv).run P w = .ok () w' ∧ Fr B wr g st w g st' w' ∧ SR B g st' w' := by
  unfold evStore at h
  split at h
  · rename_i n l off hn
    split at h
    · rename_i cs hl
      split at h
      · rename_i hc
        obtain ⟨h1, h2, h3, h4⟩ := hc
        simp only [Option.some.injEq] at h
        subst h
        simp only [Rep] at hr
        obtain ⟨rfl, hlt⟩ := hr
        have hcells := hx.cells h4
        have hvl := hcells.length
        obtain ⟨k1, k2, us, k3, k4⟩ := hs.loc l cs hl
        have hrun := run_storeCells_cells (P := P) (g.base l).1 ((g.base l).2 + off) xv.cells.toList 0 w
          (fun j hj => by
            have := (hs.mloc _ _ l (k2 (off + j) (by omega))).2.2.1
            rwa [show (g.base l).2 + (off + j) = (g.base l).2 + off + 0 + j by omega] at this)
          (fun j hj => by
            have := (hs.mloc _ _ l (k2 (off + j) (by omega))).2.2.2
            rwa [show (g.base l).2 + (off + j) = (g.base l).2 + off + 0 + j by omega] at this)
          (hcells.oneCell h4)
        refine ⟨_, ?_, Fr.store hs hl hvl (by omega) h1, SR.store hs hl hcells (by omega)⟩
        have hsz : xv.cells.size = n := by rw [← Array.length_toList, hvl, h2]
        simp only [Nat.add_zero] at hrun
        simp [Instr.storeAt, Instr.sureAddr, storeVar, run_size hn, hsz, hrun]
      · cases h
    · cases h
  · cases h
theorem run_newRow (e : TypeId) (arr : Array Value) : (newRow e arr).run P w = .ok ⟨w.heap.size, 0, none⟩ (w.alloc (.cells arr e)) := by
  simp [newRow, newObj, Sem.run]
theorem Rep.newLoc {h : SR B g st w} (n : Nat) : Rep (g.newLoc w.heap.size n) (.ptr st.locs.length 0) (.pointer (some ⟨w.heap.size, 0, none⟩)) := by
  rw [Rep, ← h.nl]
  simp [Gh.newLoc]
theorem alloc_ok (hs : SR B g st w) (wr : Wr) {t : TypeId} {p : PV} {st' : St} (h : evAlloc P t st = some (p, st')) :
    ∃ v w' g', (Instr.alloc t true (.tuple #[])).run P w = .ok v w' ∧ Fr B wr g st w g' st' w' ∧ SR B g' st' w' ∧ Rep g' p v := by
  unfold evAlloc at h
  split at h
  · rename_i cs hz
    obtain ⟨i, z, hi, hzz, rfl⟩ := zero_run hz
    split at h
    · simp only [Option.some.injEq, Prod.mk.injEq] at h
      obtain ⟨rfl, rfl⟩ := h
      refine ⟨_, _, _, ?_, Fr.newLoc hs _ z.cells.size _, SR.newLoc hs (Reps.zero g z.cells.toList) z.cells t (by simp) (fun j v hj => by simpa using hj), Rep.newLoc (h := hs) _⟩
      simp [Instr.alloc, zeroValue, typeInfo, hi, hzz, newVar, run_newRow]
    · cases h
  · cases h
theorem box_ok (hs : SR B g st w) (wr : Wr) {t : TypeId} {x p : PV} {xv : Value} {st' : St} (h : evBox x st = some (p, st')) (hx : Rep g x xv) :
    ∃ v w' g', (Instr.box t xv).run P w = .ok v w' ∧ Fr B wr g st w g' st' w' ∧ SR B g' st' w' ∧ Rep g' p v := by
  unfold evBox at h
  split at h
  · rename_i hall
    simp only [Option.some.injEq, Prod.mk.injEq] at h
    obtain ⟨rfl, rfl⟩ := h
    refine ⟨_, _, _, ?_, Fr.newLoc hs _ xv.cells.size _, SR.newLoc hs (hx.cells hall) xv.cells t (by simp) (fun j v hj => by simpa using hj), Rep.newLoc (h := hs) _⟩
    simp [Instr.box, newVar, run_newRow]
  · cases h
end cells

/-! What is filled in. -/
theorem foldl_set (off : Nat) : ∀ (l : List Value) (k : Nat) (cs : Array Value), off + k + l.length ≤ cs.size →
    ((l.zipIdx k).foldl (fun (cs : Array Value) (x : Value × Nat) => cs.setIfInBounds (off + x.2) x.1) cs).toList = cs.toList.take (off + k) ++ l ++ cs.toList.drop (off + k + l.length)
  | [], k, cs, h => by simp
  | v :: l, k, cs, h => by
    simp only [List.length_cons] at h
    rw [List.zipIdx_cons, List.foldl_cons, foldl_set off l (k + 1) _ (by simp; omega)]
    simp only [Array.toList_setIfInBounds, List.length_cons]
    have h1 : (cs.toList.set (off + k) v).take (off + (k + 1)) = cs.toList.take (off + k) ++ [v] := by
      rw [← Nat.add_assoc, List.take_add_one, List.getElem?_set_self (by simp; omega), List.take_set_of_le (Nat.le_refl _)]
      rfl
    have h2 : (cs.toList.set (off + k) v).drop (off + (k + 1) + l.length) = cs.toList.drop (off + k + (l.length + 1)) := by
      rw [List.drop_set_of_lt (by omega)]
      congr 1
      omega
    rw [h1, h2]
    simp
theorem fill_ok {g : Gh} {place : Nat → Option (Nat × Nat)} : ∀ {ps : List (Nat × PV)} {vs : List (Nat × Value)} {cells out : List PV} {arr : Array Value},
    fillP place cells ps = some out → Reps g cells arr.toList → ps.length = vs.length → (∀ (j : Nat) (p : Nat × PV) (v : Nat × Value), ps[j]? = some p → vs[j]? = some v → p.1 = v.1 ∧ Rep g p.2 v.2) →
    ∃ arr', Instr.fill place arr vs = some arr' ∧ Reps g out arr'.toList
  | [], [], cells, out, arr, h, hr, _, _ => by
    simp only [fillP, Option.some.injEq] at h
    subst h
    exact ⟨arr, rfl, hr⟩
  | [], _ :: _, _, _, _, _, _, hl, _ => by simp at hl
  | _ :: _, [], _, _, _, _, _, hl, _ => by simp at hl
  | (i, p) :: ps, (i', v) :: vs, cells, out, arr, h, hr, hl, hp => by
    obtain ⟨hi, hv⟩ := hp 0 (i, p) (i', v) rfl rfl
    simp only at hi hv
    subst hi
    simp only [fillP] at h
    split at h
    · cases h
    · rename_i off size hpl
      split at h
      · rename_i hc
        obtain ⟨h1, h2, h3⟩ := hc
        have hcells := hv.cells h3
        have hlen := hcells.length
        have hsz : v.cells.size = size := by rw [← Array.length_toList, hlen, h1]
        have harr : arr.size = cells.length := by rw [← Array.length_toList, hr.length]
        have hset : (v.cells.zipIdx.foldl (fun (cs : Array Value) (x : Value × Nat) => cs.setIfInBounds (off + x.2) x.1) arr).toList = arr.toList.take off ++ v.cells.toList ++ arr.toList.drop (off + v.cells.size) := by
          have := foldl_set off v.cells.toList 0 arr (by simp; omega)
          rw [← Array.foldl_toList, Array.toList_zipIdx]
          simpa using this
        obtain ⟨arr', h5, h6⟩ := fill_ok (arr := v.cells.zipIdx.foldl (fun (cs : Array Value) (x : Value × Nat) => cs.setIfInBounds (off + x.2) x.1) arr) h
          (by rw [hset]; unfold setAt; rw [h1, ← hsz]; exact ((hr.take off).append hcells).append (hr.drop _)) (by simpa using hl)
          (fun j q u hq hu => hp (j + 1) q u (by simpa using hq) (by simpa using hu))
        refine ⟨arr', ?_, h6⟩
        simp only [Instr.fill, hpl]
        rw [if_neg (by simp [hsz]; omega)]
        exact h5
      · cases h
theorem build_ok {P : Program} {g : Gh} {t : TypeId} {ps : List (Nat × PV)} {vs : Array (Nat × Value)} {p : PV} (h : evBuild P t ps = some p) (hl : ps.length = vs.size) (hp : ∀ (j : Nat) (p : Nat × PV) (v : Nat × Value), ps[j]? = some p → vs[j]? = some v → p.1 = v.1 ∧ Rep g p.2 v.2) (w : World) :
    ∃ v, (Instr.build t vs).run P w = .ok v w ∧ Rep g p v := by
  unfold evBuild at h
  split at h
  · rename_i z fs hz hu
    obtain ⟨i, zv, hi, hzv, rfl⟩ := zero_run hz
    split at h
    · rename_i places hpl
      simp only [Option.map_eq_some_iff] at h
      obtain ⟨out, hf, rfl⟩ := h
      obtain ⟨arr', h1, h2⟩ := fill_ok (vs := vs.toList) hf (Reps.zero g zv.cells.toList) (by simpa using hl) (fun j p v h1 h2 => hp j p v h1 (by simpa using h2))
      refine ⟨.agg arr', run_build w t vs arr' ?_, by rw [Rep]; exact ⟨arr'.toList, by simp, h2⟩⟩
      unfold Program.built
      simp only [hi, hu, hzv, hpl]
      simpa using h1
    · cases h
  · rename_i z len e hz hu
    obtain ⟨i, zv, hi, hzv, rfl⟩ := zero_run hz
    split at h
    · rename_i n hn
      obtain ⟨ie, hie, rfl⟩ := tySize_info hn
      simp only [Option.map_eq_some_iff] at h
      obtain ⟨out, hf, rfl⟩ := h
      obtain ⟨arr', h1, h2⟩ := fill_ok (vs := vs.toList) hf (Reps.zero g zv.cells.toList) (by simpa using hl) (fun j p v h1 h2 => hp j p v h1 (by simpa using h2))
      refine ⟨.agg arr', run_build w t vs arr' ?_, by rw [Rep]; exact ⟨arr'.toList, by simp, h2⟩⟩
      unfold Program.built
      simp only [hi, hu, hzv, hie]
      exact h1
    · cases h
  · cases h
end Go.Proofs.YtlkaoiceehlkmaaVE
