import Derived.Test.YthngeddaeoeimaaDoorVeA
import Derived.Below
import Derived.Deep.AppendSrc
import Derived.Deep.Draws
namespace Go.Proofs.YthngeddaeoeimaaDoorVE
open Go Go.RowKit
set_option linter.unusedVariables false
set_option linter.unusedSimpArgs false

/-- Whose a cell is: nobody's that is known, unchanging, a location's, a token's spare room. -/
inductive Owner where
  | other
  | im (v : Value)
  | loc (l : Nat)
  | spare (t : Nat)

structure Gh where
  own : Nat → Nat → Owner
  base : Nat → Nat × Nat
  ext : Nat → Nat
  reg : Nat → Nat × Nat × Nat
  nl : Nat
  nt : Nat
  /-- The records of loops over functions, where they are known. -/
  obj : Nat → Option Go.Loop

def Im (g : Gh) (b o : Nat) (vals : List Value) : Prop := ∀ j v, vals[j]? = some v → g.own b (o + j) = .im v

def notTok : Flag → Prop
  | .tok _ => False
  | _ => True

def FlagOk (g : Gh) (f : Flag) (b o sz n cap : Nat) : Prop := match f with
  | .sh => True
  | .nil => False
  | .full => cap = n
  | .tok t => t < g.nt ∧ 0 < n ∧ g.reg t = (b, o + n * sz, o + cap * sz)

mutual
def Rep (g : Gh) : PV → Value → Prop
  | .any, _ => True
  | .v x, v => v = x ∧ flat x = true
  | .row xs f, v => (xs = [] ∧ v = .slice none 0 0 ∧ notTok f) ∨ ∃ b o sz cap vals, v = .slice (some ⟨b, o, none⟩) xs.length cap ∧ (∀ c ∈ xs, c.length = sz) ∧ Im g b o vals ∧ Repss g xs vals ∧ xs.length ≤ cap ∧ FlagOk g f b o sz xs.length cap
  | .ref l sz off len, v => ∃ cap, v = .slice (some ⟨(g.base l).1, (g.base l).2 + off, none⟩) len cap ∧ l < g.nl ∧ len ≤ cap ∧ off + cap * sz ≤ g.ext l
  | .ptr l off, v => v = .pointer (some ⟨(g.base l).1, (g.base l).2 + off, none⟩) ∧ l < g.nl
  | .eptr cs, v => ∃ b o vals, v = .pointer (some ⟨b, o, none⟩) ∧ Im g b o vals ∧ Reps g cs vals
  | .agg cs, v => ∃ vs, v = .agg vs.toArray ∧ Reps g cs vs
  | .fn f a b, v => ∃ va vb, v = .func f va.toArray vb.toArray ∧ Reps g a va ∧ Reps g b vb
  | .iface t p, v => ∃ u, v = .iface t u ∧ Rep g p u
  | .tuple ps, v => ∃ vs, v = .tuple vs.toArray ∧ Reps g ps vs
  | .yld f tm ps asg bd, v => ∃ l r vals, v = .func (.yield l) #[] #[] ∧ g.obj l = some r ∧ (r.state = .ready ∧ r.pending = none ∧ r.params = ps ∧ r.assign = asg ∧ r.body = bd ∧ r.tmps.toList = vals) ∧ Reps g tm vals
def Reps (g : Gh) : List PV → List Value → Prop
  | [], vs => vs = []
  | p :: ps, vs => ∃ v vs', vs = v :: vs' ∧ Rep g p v ∧ Reps g ps vs'
def Repss (g : Gh) : List (List PV) → List Value → Prop
  | [], vs => vs = []
  | c :: cs, vs => ∃ v1 v2, vs = v1 ++ v2 ∧ Reps g c v1 ∧ Repss g cs v2
end

section lists
variable {g : Gh}
theorem Reps.length : ∀ {ps : List PV} {vs : List Value}, Reps g ps vs → vs.length = ps.length
  | [], vs, h => by simp only [Reps] at h; subst h; rfl
  | p :: ps, vs, h => by
    simp only [Reps] at h
    obtain ⟨v, vs', rfl, _, h⟩ := h
    simp [Reps.length h]
theorem Reps.get : ∀ {ps : List PV} {vs : List Value}, Reps g ps vs → ∀ {i : Nat} {p : PV} {v : Value}, ps[i]? = some p → vs[i]? = some v → Rep g p v
  | [], vs, h, i, p, v, hp, hv => by simp at hp
  | q :: ps, vs, h, i, p, v, hp, hv => by
    simp only [Reps] at h
    obtain ⟨u, vs', rfl, h1, h2⟩ := h
    cases i with
    | zero => simp at hp hv; subst hp; subst hv; exact h1
    | succ i => simp at hp hv; exact h2.get hp hv
theorem Reps.mk : ∀ {ps : List PV} {vs : List Value}, vs.length = ps.length → (∀ (i : Nat) (p : PV) (v : Value), ps[i]? = some p → vs[i]? = some v → Rep g p v) → Reps g ps vs
  | [], vs, hl, h => by simp only [Reps]; exact List.eq_nil_of_length_eq_zero (by simpa using hl)
  | p :: ps, [], hl, h => by simp at hl
  | p :: ps, v :: vs, hl, h => by
    simp only [Reps]
    exact ⟨v, vs, rfl, h 0 p v rfl rfl, Reps.mk (by simpa using hl) fun i q u hq hu => h (i + 1) q u (by simpa using hq) (by simpa using hu)⟩
theorem Reps.append : ∀ {ps qs : List PV} {vs us : List Value}, Reps g ps vs → Reps g qs us → Reps g (ps ++ qs) (vs ++ us)
  | [], qs, vs, us, h, h' => by simp only [Reps] at h; subst h; exact h'
  | p :: ps, qs, vs, us, h, h' => by
    simp only [Reps] at h
    obtain ⟨v, vs', rfl, h1, h2⟩ := h
    simp only [List.cons_append, Reps]
    exact ⟨v, vs' ++ us, rfl, h1, h2.append h'⟩
theorem Reps.split : ∀ {ps qs : List PV} {vs : List Value}, Reps g (ps ++ qs) vs → ∃ v1 v2, vs = v1 ++ v2 ∧ Reps g ps v1 ∧ Reps g qs v2
  | [], qs, vs, h => ⟨[], vs, rfl, by simp [Reps], h⟩
  | p :: ps, qs, vs, h => by
    simp only [List.cons_append, Reps] at h
    obtain ⟨v, vs', rfl, h1, h2⟩ := h
    obtain ⟨v1, v2, rfl, h3, h4⟩ := Reps.split h2
    exact ⟨v :: v1, v2, rfl, by simp only [Reps]; exact ⟨v, v1, rfl, h1, h3⟩, h4⟩
theorem Reps.take {ps : List PV} {vs : List Value} (h : Reps g ps vs) (n : Nat) : Reps g (ps.take n) (vs.take n) :=
  Reps.mk (by simp [h.length]) fun i p v hp hv => by
    rw [List.getElem?_take] at hp hv
    split at hp
    · rename_i hi; rw [if_pos hi] at hv; exact h.get hp hv
    · cases hp
theorem Reps.drop {ps : List PV} {vs : List Value} (h : Reps g ps vs) (n : Nat) : Reps g (ps.drop n) (vs.drop n) :=
  Reps.mk (by simp [h.length]) fun i p v hp hv => by
    rw [List.getElem?_drop] at hp hv
    exact h.get hp hv
theorem Reps.one {p : PV} {v : Value} (h : Rep g p v) : Reps g [p] [v] := by simp only [Reps]; exact ⟨v, [], rfl, h, rfl⟩
theorem Repss_iff : ∀ {xs : List (List PV)} {vs : List Value}, Repss g xs vs ↔ Reps g xs.flatten vs
  | [], vs => by simp [Repss, Reps]
  | c :: cs, vs => by
    simp only [Repss, List.flatten_cons]
    constructor
    · rintro ⟨v1, v2, rfl, h1, h2⟩; exact h1.append (Repss_iff.1 h2)
    · intro h; obtain ⟨v1, v2, rfl, h1, h2⟩ := h.split; exact ⟨v1, v2, rfl, h1, Repss_iff.2 h2⟩
theorem Reps.set {ps : List PV} {vs : List Value} (h : Reps g ps vs) {i : Nat} {p : PV} {v : Value} (hp : Rep g p v) : Reps g (ps.set i p) (vs.set i v) :=
  Reps.mk (by simp [h.length]) fun j q u hq hu => by
    rw [List.getElem?_set] at hq hu
    split at hq
    · rename_i hij
      rw [if_pos hij] at hu
      split at hq
      · rename_i hl
        rw [if_pos (by rw [h.length]; exact hl)] at hu
        simp at hq hu; subst hq; subst hu; exact hp
      · cases hq
    · rename_i hij
      rw [if_neg hij] at hu
      exact h.get hq hu
end lists

/-- The ghost may grow. -/
structure Le (g g' : Gh) : Prop where
  im : ∀ b o v, g.own b o = .im v → g'.own b o = .im v
  nl : g.nl ≤ g'.nl
  nt : g.nt ≤ g'.nt
  base : ∀ l, l < g.nl → g'.base l = g.base l
  ext : ∀ l, l < g.nl → g'.ext l = g.ext l
  reg : ∀ t, t < g.nt → g'.reg t = g.reg t
  obj : ∀ l r, g.obj l = some r → g'.obj l = some r
theorem Le.refl (g : Gh) : Le g g := ⟨fun _ _ _ h => h, Nat.le_refl _, Nat.le_refl _, fun _ _ => rfl, fun _ _ => rfl, fun _ _ => rfl, fun _ _ h => h⟩
theorem Le.trans {a b c : Gh} (h : Le a b) (k : Le b c) : Le a c :=
  ⟨fun x o v hx => k.im _ _ _ (h.im _ _ _ hx), Nat.le_trans h.nl k.nl, Nat.le_trans h.nt k.nt,
   fun l hl => (k.base l (Nat.lt_of_lt_of_le hl h.nl)).trans (h.base l hl), fun l hl => (k.ext l (Nat.lt_of_lt_of_le hl h.nl)).trans (h.ext l hl), fun t ht => (k.reg t (Nat.lt_of_lt_of_le ht h.nt)).trans (h.reg t ht), fun l r hr => k.obj l r (h.obj l r hr)⟩
theorem Im.mono {g g' : Gh} (hl : Le g g') {b o : Nat} {vals : List Value} (h : Im g b o vals) : Im g' b o vals := fun j v hv => hl.im _ _ _ (h j v hv)
theorem FlagOk.mono {g g' : Gh} (hl : Le g g') {f : Flag} {b o sz n cap : Nat} (h : FlagOk g f b o sz n cap) : FlagOk g' f b o sz n cap := by
  cases f with
  | tok t => exact ⟨Nat.lt_of_lt_of_le h.1 hl.nt, h.2.1, (hl.reg t h.1).trans h.2.2⟩
  | sh => trivial
  | nil => exact h
  | full => exact h
mutual
theorem Rep.mono {g g' : Gh} (hl : Le g g') : ∀ (p : PV) (v : Value), Rep g p v → Rep g' p v
  | .any, _, _ => by simp only [Rep]
  | .v x, v, h => by simp only [Rep] at h ⊢; exact h
  | .row xs f, v, h => by
    simp only [Rep] at h ⊢
    rcases h with h | ⟨b, o, sz, cap, vals, h1, h2, h3, h4, h5, h6⟩
    · exact .inl h
    · exact .inr ⟨b, o, sz, cap, vals, h1, h2, h3.mono hl, Repss.mono hl xs vals h4, h5, h6.mono hl⟩
  | .ref l sz off len, v, h => by
    simp only [Rep] at h ⊢
    obtain ⟨cap, h1, h2, h3, h4⟩ := h
    exact ⟨cap, by rw [hl.base l h2]; exact h1, Nat.lt_of_lt_of_le h2 hl.nl, h3, by rw [hl.ext l h2]; exact h4⟩
  | .ptr l off, v, h => by
    simp only [Rep] at h ⊢
    exact ⟨by rw [hl.base l h.2]; exact h.1, Nat.lt_of_lt_of_le h.2 hl.nl⟩
  | .eptr cs, v, h => by
    simp only [Rep] at h ⊢
    obtain ⟨b, o, vals, h1, h2, h3⟩ := h
    exact ⟨b, o, vals, h1, h2.mono hl, Reps.mono hl cs vals h3⟩
  | .agg cs, v, h => by
    simp only [Rep] at h ⊢
    obtain ⟨vs, h1, h2⟩ := h
    exact ⟨vs, h1, Reps.mono hl cs vs h2⟩
  | .fn f a b, v, h => by
    simp only [Rep] at h ⊢
    obtain ⟨va, vb, h1, h2, h3⟩ := h
    exact ⟨va, vb, h1, Reps.mono hl a va h2, Reps.mono hl b vb h3⟩
  | .iface t p, v, h => by
    simp only [Rep] at h ⊢
    obtain ⟨u, h1, h2⟩ := h
    exact ⟨u, h1, Rep.mono hl p u h2⟩
  | .tuple ps, v, h => by
    simp only [Rep] at h ⊢
    obtain ⟨vs, h1, h2⟩ := h
    exact ⟨vs, h1, Reps.mono hl ps vs h2⟩
  | .yld f tm ps asg bd, v, h => by
    simp only [Rep] at h ⊢
    obtain ⟨l, r, vals, h1, h2, h3, h4⟩ := h
    exact ⟨l, r, vals, h1, hl.obj l r h2, h3, Reps.mono hl tm vals h4⟩
theorem Reps.mono {g g' : Gh} (hl : Le g g') : ∀ (ps : List PV) (vs : List Value), Reps g ps vs → Reps g' ps vs
  | [], vs, h => by simp only [Reps] at h ⊢; exact h
  | p :: ps, vs, h => by
    simp only [Reps] at h ⊢
    obtain ⟨v, vs', h1, h2, h3⟩ := h
    exact ⟨v, vs', h1, Rep.mono hl p v h2, Reps.mono hl ps vs' h3⟩
theorem Repss.mono {g g' : Gh} (hl : Le g g') : ∀ (cs : List (List PV)) (vs : List Value), Repss g cs vs → Repss g' cs vs
  | [], vs, h => by simp only [Repss] at h ⊢; exact h
  | c :: cs, vs, h => by
    simp only [Repss] at h ⊢
    obtain ⟨v1, v2, h1, h2, h3⟩ := h
    exact ⟨v1, v2, h1, Reps.mono hl c v1 h2, Repss.mono hl cs v2 h3⟩
end

/-- The ghost cut down: what speaks of no later location and of no later token stays represented. -/
structure Cut (g g' : Gh) (n t : Nat) : Prop where
  im : ∀ b o v, g.own b o = .im v → g'.own b o = .im v
  nl : n ≤ g'.nl
  nt : t ≤ g'.nt
  base : ∀ l, l < n → g'.base l = g.base l
  ext : ∀ l, l < n → g'.ext l = g.ext l
  reg : ∀ u, u < t → g'.reg u = g.reg u
mutual
theorem Rep.cut {g g' : Gh} {n t : Nat} (hl : Cut g g' n t) : ∀ (p : PV) (v : Value), safe n t p = true → Rep g p v → Rep g' p v
  | .any, _, _, _ => by simp only [Rep]
  | .v x, v, _, h => by simp only [Rep] at h ⊢; exact h
  | .row xs f, v, hs, h => by
    simp only [Rep] at h ⊢
    simp only [safe, Bool.and_eq_true] at hs
    rcases h with h | ⟨b, o, sz, cap, vals, h1, h2, h3, h4, h5, h6⟩
    · exact .inl h
    · refine .inr ⟨b, o, sz, cap, vals, h1, h2, fun j v hv => hl.im _ _ _ (h3 j v hv), Repss.cut hl xs vals hs.2 h4, h5, ?_⟩
      cases f with
      | tok u =>
        have hu := hs.1
        simp only [decide_eq_true_eq] at hu
        exact ⟨Nat.lt_of_lt_of_le hu hl.nt, h6.2.1, (hl.reg u hu).trans h6.2.2⟩
      | sh => trivial
      | nil => exact h6
      | full => exact h6
  | .ref l sz off len, v, hs, h => by
    simp only [Rep] at h ⊢
    simp only [safe, decide_eq_true_eq] at hs
    obtain ⟨cap, h1, h2, h3, h4⟩ := h
    exact ⟨cap, by rw [hl.base l hs]; exact h1, Nat.lt_of_lt_of_le hs hl.nl, h3, by rw [hl.ext l hs]; exact h4⟩
  | .ptr l off, v, hs, h => by
    simp only [Rep] at h ⊢
    simp only [safe, decide_eq_true_eq] at hs
    exact ⟨by rw [hl.base l hs]; exact h.1, Nat.lt_of_lt_of_le hs hl.nl⟩
  | .eptr cs, v, hs, h => by
    simp only [Rep] at h ⊢
    simp only [safe] at hs
    obtain ⟨b, o, vals, h1, h2, h3⟩ := h
    exact ⟨b, o, vals, h1, fun j v hv => hl.im _ _ _ (h2 j v hv), Reps.cut hl cs vals hs h3⟩
  | .agg cs, v, hs, h => by
    simp only [Rep] at h ⊢
    simp only [safe] at hs
    obtain ⟨vs, h1, h2⟩ := h
    exact ⟨vs, h1, Reps.cut hl cs vs hs h2⟩
  | .fn f a b, v, hs, h => by
    simp only [Rep] at h ⊢
    simp only [safe, Bool.and_eq_true] at hs
    obtain ⟨va, vb, h1, h2, h3⟩ := h
    exact ⟨va, vb, h1, Reps.cut hl a va hs.1 h2, Reps.cut hl b vb hs.2 h3⟩
  | .iface t p, v, hs, h => by
    simp only [Rep] at h ⊢
    simp only [safe] at hs
    obtain ⟨u, h1, h2⟩ := h
    exact ⟨u, h1, Rep.cut hl p u hs h2⟩
  | .tuple ps, v, hs, h => by
    simp only [Rep] at h ⊢
    simp only [safe] at hs
    obtain ⟨vs, h1, h2⟩ := h
    exact ⟨vs, h1, Reps.cut hl ps vs hs h2⟩
  | .yld f tm ps asg bd, v, hs, h => by simp only [safe] at hs; cases hs
theorem Reps.cut {g g' : Gh} {n t : Nat} (hl : Cut g g' n t) : ∀ (ps : List PV) (vs : List Value), safes n t ps = true → Reps g ps vs → Reps g' ps vs
  | [], vs, _, h => by simp only [Reps] at h ⊢; exact h
  | p :: ps, vs, hs, h => by
    simp only [Reps] at h ⊢
    simp only [safes, Bool.and_eq_true] at hs
    obtain ⟨v, vs', h1, h2, h3⟩ := h
    exact ⟨v, vs', h1, Rep.cut hl p v hs.1 h2, Reps.cut hl ps vs' hs.2 h3⟩
theorem Repss.cut {g g' : Gh} {n t : Nat} (hl : Cut g g' n t) : ∀ (cs : List (List PV)) (vs : List Value), safess n t cs = true → Repss g cs vs → Repss g' cs vs
  | [], vs, _, h => by simp only [Repss] at h ⊢; exact h
  | c :: cs, vs, hs, h => by
    simp only [Repss] at h ⊢
    simp only [safess, Bool.and_eq_true] at hs
    obtain ⟨v1, v2, h1, h2, h3⟩ := h
    exact ⟨v1, v2, h1, Reps.cut hl c v1 hs.1 h2, Repss.cut hl cs v2 hs.2 h3⟩
end

/-! Single values. -/
theorem Rep.ofFlat {g : Gh} {x : Value} (h : flat x = true) : Rep g (.v x) x := by rw [Rep]; exact ⟨rfl, h⟩
theorem Rep.ofC (g : Gh) (x : Value) : Rep g (ofC x) x := by
  unfold YthngeddaeoeimaaDoorVE.ofC
  split
  · rw [Rep]; exact .inl ⟨rfl, rfl, trivial⟩
  · split
    · rename_i h; exact Rep.ofFlat h
    · rw [Rep]; trivial
mutual
theorem Rep.toV {g : Gh} : ∀ (p : PV) (v x : Value), Rep g p v → toV p = some x → v = x
  | .v y, v, x, h, hx => by simp only [Rep] at h; simp only [YthngeddaeoeimaaDoorVE.toV, Option.some.injEq] at hx; rw [h.1, hx]
  | .agg cs, v, x, h, hx => by
    simp only [Rep] at h
    obtain ⟨vs, rfl, h2⟩ := h
    simp only [YthngeddaeoeimaaDoorVE.toV, Option.map_eq_some_iff] at hx
    obtain ⟨us, h3, rfl⟩ := hx
    rw [Reps.toVs cs vs us h2 h3]
  | .any, v, x, h, hx => by simp [YthngeddaeoeimaaDoorVE.toV] at hx
  | .row .., v, x, h, hx => by simp [YthngeddaeoeimaaDoorVE.toV] at hx
  | .ref .., v, x, h, hx => by simp [YthngeddaeoeimaaDoorVE.toV] at hx
  | .ptr .., v, x, h, hx => by simp [YthngeddaeoeimaaDoorVE.toV] at hx
  | .eptr .., v, x, h, hx => by simp [YthngeddaeoeimaaDoorVE.toV] at hx
  | .fn .., v, x, h, hx => by simp [YthngeddaeoeimaaDoorVE.toV] at hx
  | .iface .., v, x, h, hx => by simp [YthngeddaeoeimaaDoorVE.toV] at hx
  | .tuple .., v, x, h, hx => by simp [YthngeddaeoeimaaDoorVE.toV] at hx
  | .yld .., v, x, h, hx => by simp [YthngeddaeoeimaaDoorVE.toV] at hx
theorem Reps.toVs {g : Gh} : ∀ (ps : List PV) (vs xs : List Value), Reps g ps vs → toVs ps = some xs → vs = xs
  | [], vs, xs, h, hx => by simp only [Reps] at h; simp only [YthngeddaeoeimaaDoorVE.toVs, Option.some.injEq] at hx; rw [h, hx]
  | p :: ps, vs, xs, h, hx => by
    simp only [Reps] at h
    obtain ⟨v, vs', rfl, h1, h2⟩ := h
    simp only [YthngeddaeoeimaaDoorVE.toVs] at hx
    cases hp : YthngeddaeoeimaaDoorVE.toV p with
    | none => simp [hp] at hx
    | some y =>
      cases hps : YthngeddaeoeimaaDoorVE.toVs ps with
      | none => simp [hp, hps] at hx
      | some ys =>
        simp only [hp, hps, Option.some.injEq] at hx
        subst hx
        rw [Rep.toV p v y h1 hp, Reps.toVs ps vs' ys h2 hps]
end
theorem Reps.flats {g : Gh} : ∀ (vs : List Value), vs.all flat = true → Reps g (vs.map .v) vs
  | [], _ => by simp [Reps]
  | v :: vs, h => by
    simp only [List.all_cons, Bool.and_eq_true] at h
    simp only [List.map_cons, Reps]
    exact ⟨v, vs, rfl, Rep.ofFlat h.1, Reps.flats vs h.2⟩
theorem Rep.ofV {g : Gh} {v : Value} {p : PV} (h : ofV v = some p) : Rep g p v := by
  unfold YthngeddaeoeimaaDoorVE.ofV at h
  split at h
  · rename_i vs
    split at h
    · rename_i hf
      simp only [Option.some.injEq] at h
      subst h
      simp only [Rep]
      exact ⟨vs.toList, by simp, Reps.flats _ hf⟩
    · cases h
  · split at h
    · rename_i hf
      simp only [Option.some.injEq] at h
      subst h
      exact Rep.ofFlat hf
    · cases h
theorem runP_run {P : Program} {α : Type} : ∀ {s : Sem α} {a : α}, runP P s = some a → ∀ w, s.run P w = .ok a w
  | .pure b, a, h, w => by simp only [runP, Option.some.injEq] at h; subst h; rfl
  | .program k, a, h, w => by simp only [runP] at h; exact runP_run (s := k P) h w
  | .mark m k, a, h, w => by simp only [runP] at h; exact runP_run (s := k) h w
  | .load .., a, h, w => by simp [runP] at h
  | .store .., a, h, w => by simp [runP] at h
  | .new .., a, h, w => by simp [runP] at h
  | .shape .., a, h, w => by simp [runP] at h
  | .freeze .., a, h, w => by simp [runP] at h
  | .frozen .., a, h, w => by simp [runP] at h
  | .getObj .., a, h, w => by simp [runP] at h
  | .setObj .., a, h, w => by simp [runP] at h
  | .choose .., a, h, w => by simp [runP] at h
  | .sys .., a, h, w => by simp [runP] at h
  | .halt .., a, h, w => by simp [runP] at h
theorem Rep.strip {g : Gh} {p : PV} {v : Value} (h : Rep g p v) : Rep g p.strip v := by
  cases p with
  | row xs f =>
    simp only [PV.strip]
    simp only [Rep] at h ⊢
    rcases h with h | ⟨b, o, sz, cap, vals, h1, h2, h3, h4, h5, h6⟩
    · exact .inl ⟨h.1, h.2.1, trivial⟩
    · exact .inr ⟨b, o, sz, cap, vals, h1, h2, h3, h4, h5, trivial⟩
  | _ => exact h
theorem Reps.map {g : Gh} {f : PV → PV} (hf : ∀ p v, Rep g p v → Rep g (f p) v) : ∀ {ps : List PV} {vs : List Value}, Reps g ps vs → Reps g (ps.map f) vs
  | [], vs, h => h
  | p :: ps, vs, h => by
    simp only [Reps] at h
    obtain ⟨v, vs', rfl, h1, h2⟩ := h
    simp only [List.map_cons, Reps]
    exact ⟨v, vs', rfl, hf p v h1, h2.map hf⟩
theorem Rep.strip1 {g : Gh} {p : PV} {v : Value} (h : Rep g p v) : Rep g p.strip1 v := by
  cases p with
  | agg cs =>
    simp only [PV.strip1]
    simp only [Rep] at h ⊢
    obtain ⟨vs, h1, h2⟩ := h
    exact ⟨vs, h1, h2.map fun _ _ h => h.strip⟩
  | _ => exact h.strip
theorem Rep.strip2 {g : Gh} {p : PV} {v : Value} (h : Rep g p v) : Rep g p.strip2 v := by
  cases p with
  | tuple cs =>
    simp only [PV.strip2]
    simp only [Rep] at h ⊢
    obtain ⟨vs, h1, h2⟩ := h
    exact ⟨vs, h1, h2.map fun _ _ h => h.strip1⟩
  | _ => exact h.strip1
theorem Rep.stripFrom {g : Gh} {n : Nat} {p : PV} {v : Value} (h : Rep g p v) : Rep g (stripFrom n p) v := by
  unfold YthngeddaeoeimaaDoorVE.stripFrom
  split
  · split
    · exact h
    · exact h.strip
  · exact h
theorem Reps.stripRow {g : Gh} {xs : List (List PV)} {vs : List Value} (h : Reps g xs.flatten vs) : Reps g (stripRow xs).flatten vs := by
  unfold YthngeddaeoeimaaDoorVE.stripRow
  rw [← List.map_flatten]
  exact h.map fun _ _ h => h.strip
/-- The cells of a value. -/
theorem Rep.cells {g : Gh} {p : PV} {v : Value} (h : Rep g p v) (hall : p.cells.all PV.one = true) : Reps g p.cells v.cells.toList := by
  cases p with
  | agg cs =>
    simp only [Rep] at h
    obtain ⟨vs, rfl, h2⟩ := h
    simpa [PV.cells, Value.cells] using h2
  | any => simp [PV.cells, PV.one] at hall
  | yld f tm ps a b => simp [PV.cells, PV.one] at hall
  | tuple cs => simp [PV.cells, PV.one] at hall
  | v x =>
    simp only [Rep] at h
    have hx : v.cells = #[v] := by rw [h.1]; cases x <;> simp_all [Value.cells, flat]
    simp only [PV.cells, hx]
    exact Reps.one (by simp only [Rep]; exact h)
  | row xs f =>
    have hx : v.cells = #[v] := by
      simp only [Rep] at h
      rcases h with ⟨_, rfl, _⟩ | ⟨b, o, sz, cap, vals, rfl, _⟩ <;> rfl
    simp only [PV.cells, hx]
    exact Reps.one h
  | ref l sz off len =>
    have hx : v.cells = #[v] := by
      simp only [Rep] at h
      obtain ⟨cap, rfl, _⟩ := h
      rfl
    simp only [PV.cells, hx]
    exact Reps.one h
  | ptr l off =>
    have hx : v.cells = #[v] := by
      simp only [Rep] at h
      obtain ⟨rfl, _⟩ := h
      rfl
    simp only [PV.cells, hx]
    exact Reps.one h
  | eptr cs =>
    have hx : v.cells = #[v] := by
      simp only [Rep] at h
      obtain ⟨b, o, vals, rfl, _⟩ := h
      rfl
    simp only [PV.cells, hx]
    exact Reps.one h
  | fn f a b =>
    have hx : v.cells = #[v] := by
      simp only [Rep] at h
      obtain ⟨va, vb, rfl, _⟩ := h
      rfl
    simp only [PV.cells, hx]
    exact Reps.one h
  | iface t p =>
    have hx : v.cells = #[v] := by
      simp only [Rep] at h
      obtain ⟨u, rfl, _⟩ := h
      rfl
    simp only [PV.cells, hx]
    exact Reps.one h
theorem Rep.oneCell {g : Gh} {p : PV} {v : Value} (h : Rep g p v) (hp : p.one = true) : v.oneCell' = true := by
  cases p with
  | v x =>
    simp only [Rep] at h
    obtain ⟨rfl, hf⟩ := h
    cases v <;> simp_all [Value.oneCell', PV.one, flat]
  | row xs f =>
    simp only [Rep] at h
    rcases h with ⟨_, rfl, _⟩ | ⟨b, o, sz, cap, vals, rfl, _⟩ <;> rfl
  | ref l sz off len => simp only [Rep] at h; obtain ⟨cap, rfl, _⟩ := h; rfl
  | ptr l off => simp only [Rep] at h; obtain ⟨rfl, _⟩ := h; rfl
  | eptr cs => simp only [Rep] at h; obtain ⟨b, o, vals, rfl, _⟩ := h; rfl
  | fn f a b => simp only [Rep] at h; obtain ⟨va, vb, rfl, _⟩ := h; rfl
  | iface t p => simp only [Rep] at h; obtain ⟨u, rfl, _⟩ := h; rfl
  | any => simp [PV.one] at hp
  | yld f tm ps a b => simp [PV.one] at hp
  | agg cs => simp [PV.one] at hp
  | tuple vs => simp [PV.one] at hp
theorem Reps.oneCell {g : Gh} : ∀ {ps : List PV} {vs : List Value}, Reps g ps vs → ps.all PV.one = true → ∀ u ∈ vs, u.oneCell' = true
  | [], vs, h, _ => by simp only [Reps] at h; subst h; intro u hu; cases hu
  | p :: ps, vs, h, ha => by
    simp only [Reps] at h
    obtain ⟨v, vs', rfl, h1, h2⟩ := h
    simp only [List.all_cons, Bool.and_eq_true] at ha
    intro u hu
    rcases List.mem_cons.1 hu with rfl | hu
    · exact h1.oneCell ha.1
    · exact h2.oneCell ha.2 u hu
/-- An operand. -/
theorem Rep.ev {g : Gh} {tm : List PV} {a : Act} (h : Reps g tm a.tmps.toList) (x : Operand) : Rep g (PV.ev tm x) (a.eval x) := by
  cases x with
  | tmp t =>
    simp only [PV.ev, Act.eval]
    rcases Nat.lt_or_ge t tm.length with ht | ht
    · have hl := h.length
      have h2 : tm[t]? = some (tm.getD t .any) := by simp [List.getD, ht]
      have h3 : a.tmps.toList[t]? = some (a.tmps.getD t undef) := by
        have : t < a.tmps.size := by rw [← Array.length_toList, hl]; exact ht
        simp [Array.getD, this]
      exact h.get h2 h3
    · simp [List.getD, List.getElem?_eq_none ht, Rep]
  | const x => exact Rep.ofC g x
  | global b => simp only [PV.ev, Rep]
  | func f => simp only [PV.ev, Act.eval, Rep]; exact ⟨[], [], rfl, rfl, rfl⟩
end Go.Proofs.YthngeddaeoeimaaDoorVE
