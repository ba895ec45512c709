import Derived.Test.YtlkaoiceehlkmaaTeA
import Derived.Test.YtlkaoiceehlkmaaVeO1
import Derived.KernelRfl
namespace Go.Proofs.YtlkaoiceehlkmaaTE
open Go Go.Proofs.YtlkaoiceehlkmaaVE
set_option linter.unusedVariables false
set_option linter.unusedSimpArgs false

/-! What typed values have to do with values without types. -/

/-- Which location is which; which token is which; what stays as it is. -/
structure Rn where
  lo : Nat → Option (Option Nat)
  to : Nat → Option Nat
  fz : Nat → Option (List PV)
  nl : Nat
  nt : Nat
  fo : Nat → Prop
  /-- Locations of others: they stay as they are. -/
  fr : Nat → Option (List PV)

def FlagR (r : Rn) : TF → Flag → Prop
  | .sh, _ => True
  | .own t, f => t < r.nt ∧ (f = .nil ∨ f = .full ∨ ∃ u, f = .tok u ∧ r.to t = some u)
def noTok : PV → Bool
  | .row _ (.tok _) => false
  | _ => true
/-- A constant. -/
def cstR (x : Value) (q : PV) : Prop := (flat x = true ∧ q = .v x) ∨ (x = .slice none 0 0 ∧ q = .row [] .nil)

inductive VRs (X : TX) (r : Rn) : List (TV X.A) → List PV → Prop
  | nil : VRs X r [] []
  | any {q ps qs} : VRs X r ps qs → VRs X r (.any :: ps) (q :: qs)
  | bool {b ps qs} : VRs X r ps qs → VRs X r (.bool b :: ps) (.v (.bool b) :: qs)
  | int {k n ps qs} : VRs X r ps qs → VRs X r (.int k n :: ps) (.v (.int k n) :: qs)
  | str {s ps qs} : VRs X r ps qs → VRs X r (.str s :: ps) (.v (.string ⟨s.toArray⟩) :: qs)
  | cst {x q ps qs} : cstR x q → VRs X r ps qs → VRs X r (.cst x :: ps) (q :: qs)
  | row {t l f xs f' n ps qs} : X.wd t = some n → l.length = xs.length → (∀ (i : Nat) (a : X.A t) (c : List PV), l[i]? = some a → xs[i]? = some c → VRs X r (X.lay t a) c) → (∀ c ∈ xs, c.all noTok = true) → FlagR r f f' →
      VRs X r ps qs → VRs X r (.row t l f :: ps) (.row xs f' :: qs)
  | refn {t l ps qs} : r.lo l = some none → VRs X r ps qs → VRs X r (.ref t l 0 0 :: ps) (.row [] .nil :: qs)
  | ref {t l l' off n len ps qs} : X.wd t = some n → r.lo l = some (some l') → VRs X r ps qs → VRs X r (.ref t l off len :: ps) (.ref l' n (off * n) len :: qs)
  | refe {t l l' off n ps qs} : X.wd t = some n → r.lo l = some (some l') → 0 < off → VRs X r ps qs → VRs X r (.ref t l off 0 :: ps) (.row [] .sh :: qs)
  | agg {cs cs' ps qs} : VRs X r cs cs' → VRs X r ps qs → VRs X r (.agg cs :: ps) (.agg cs' :: qs)
  | ptr {l l' off ps qs} : r.lo l = some (some l') → VRs X r ps qs → VRs X r (.ptr l off :: ps) (.ptr l' off :: qs)
  | aptr {t n l l' i off ps qs} : X.wd t = some n → r.lo l = some (some l') → VRs X r ps qs → VRs X r (.aptr t l i off :: ps) (.ptr l' (i * n + off) :: qs)
  | iptr {l l' off : Nat} {n : Nat} {k : IntKind} {i : Int} {ps : List (TV X.A)} {qs : List PV} : r.lo l = some (some l') → 0 ≤ i → i < n → VRs X r ps qs → VRs X r (.iptr l off n k i :: ps) (.ptr l' (off + i.toNat) :: qs)
  | eptr {cs c1 c2 ps qs} : VRs X r cs c1 → VRs X r ps qs → VRs X r (.eptr cs :: ps) (.eptr (c1 ++ c2) :: qs)
  | eptrF {cs c1 c2 k off ds ps qs} : r.fz k = some ds → off ≤ ds.length → ds.drop off = c1 ++ c2 → VRs X r cs c1 → VRs X r ps qs → VRs X r (.eptr cs :: ps) (.ptr k off :: qs)
  | optn {t ps qs} : VRs X r ps qs → VRs X r (.optp t none :: ps) (.v (.pointer none) :: qs)
  | opts {t a q n ps qs} : X.wd t = some n → VRs X r [.eptr (X.lay t a)] [q] → VRs X r ps qs → VRs X r (.optp t (some a) :: ps) (q :: qs)
  | nilt {ps qs} : VRs X r ps qs → VRs X r (.nili true :: ps) (.v .nilIface :: qs)
  | nilf {t p ps qs} : safe 0 0 p = true → VRs X r ps qs → VRs X r (.nili false :: ps) (.iface t p :: qs)
  | fn {g a a' b b' ps qs} : VRs X r a a' → VRs X r b b' → VRs X r ps qs → VRs X r (.fn g a b :: ps) (.fn (.func g) a' b' :: qs)
  | tuple {cs cs' ps qs} : VRs X r cs cs' → VRs X r ps qs → VRs X r (.tuple cs :: ps) (.tuple cs' :: qs)
  | yld {f tm tm' tps asg bd ps qs} : VRs X r tm tm' → VRs X r ps qs → VRs X r (.yld f tm tps asg bd :: ps) (.yld f tm' tps asg bd :: qs)
abbrev VR (X : TX) (r : Rn) (p : TV X.A) (q : PV) : Prop := VRs X r [p] [q]

section lists
variable {X : TX} {r : Rn}
theorem VRs.length {ps : List (TV X.A)} {qs : List PV} (h : VRs X r ps qs) : ps.length = qs.length := by
  induction h <;> simp_all
theorem VRs.cons_iff {p : TV X.A} {ps : List (TV X.A)} {qs : List PV} : VRs X r (p :: ps) qs ↔ ∃ q qs', qs = q :: qs' ∧ VR X r p q ∧ VRs X r ps qs' := by
  constructor
  · intro h
    cases h with
    | any h => exact ⟨_, _, rfl, .any .nil, h⟩
    | bool h => exact ⟨_, _, rfl, .bool .nil, h⟩
    | int h => exact ⟨_, _, rfl, .int .nil, h⟩
    | str h => exact ⟨_, _, rfl, .str .nil, h⟩
    | cst h1 h => exact ⟨_, _, rfl, .cst h1 .nil, h⟩
    | row h1 h2 h3 h4 h5 h => exact ⟨_, _, rfl, .row h1 h2 h3 h4 h5 .nil, h⟩
    | refn h1 h => exact ⟨_, _, rfl, .refn h1 .nil, h⟩
    | ref h1 h2 h => exact ⟨_, _, rfl, .ref h1 h2 .nil, h⟩
    | refe h1 h2 h3 h => exact ⟨_, _, rfl, .refe h1 h2 h3 .nil, h⟩
    | agg h1 h => exact ⟨_, _, rfl, .agg h1 .nil, h⟩
    | ptr h1 h => exact ⟨_, _, rfl, .ptr h1 .nil, h⟩
    | aptr h1 h2 h => exact ⟨_, _, rfl, .aptr h1 h2 .nil, h⟩
    | iptr h1 h2 h3 h => exact ⟨_, _, rfl, .iptr h1 h2 h3 .nil, h⟩
    | eptr h1 h => exact ⟨_, _, rfl, .eptr h1 .nil, h⟩
    | eptrF h1 h2 h3 h4 h => exact ⟨_, _, rfl, .eptrF h1 h2 h3 h4 .nil, h⟩
    | optn h => exact ⟨_, _, rfl, .optn .nil, h⟩
    | opts h1 h2 h => exact ⟨_, _, rfl, .opts h1 h2 .nil, h⟩
    | nilt h => exact ⟨_, _, rfl, .nilt .nil, h⟩
    | nilf h0 h => exact ⟨_, _, rfl, .nilf h0 .nil, h⟩
    | fn h1 h2 h => exact ⟨_, _, rfl, .fn h1 h2 .nil, h⟩
    | tuple h1 h => exact ⟨_, _, rfl, .tuple h1 .nil, h⟩
    | yld h1 h => exact ⟨_, _, rfl, .yld h1 .nil, h⟩
  · rintro ⟨q, qs', rfl, h1, h2⟩
    cases h1 with
    | any _ => exact .any h2
    | bool _ => exact .bool h2
    | int _ => exact .int h2
    | str _ => exact .str h2
    | cst k1 _ => exact .cst k1 h2
    | row k1 k2 k3 k4 k5 _ => exact .row k1 k2 k3 k4 k5 h2
    | refn k1 _ => exact .refn k1 h2
    | ref k1 k2 _ => exact .ref k1 k2 h2
    | refe k1 k2 k3 _ => exact .refe k1 k2 k3 h2
    | agg k1 _ => exact .agg k1 h2
    | ptr k1 _ => exact .ptr k1 h2
    | aptr k1 k2 _ => exact .aptr k1 k2 h2
    | iptr k1 k2 k3 _ => exact .iptr k1 k2 k3 h2
    | eptr k1 _ => exact .eptr k1 h2
    | eptrF k1 k2 k3 k4 _ => exact .eptrF k1 k2 k3 k4 h2
    | optn _ => exact .optn h2
    | opts k1 k2 _ => exact .opts k1 k2 h2
    | nilt _ => exact .nilt h2
    | nilf k _ => exact .nilf k h2
    | fn k1 k2 _ => exact .fn k1 k2 h2
    | tuple k1 _ => exact .tuple k1 h2
    | yld k1 _ => exact .yld k1 h2
theorem VRs.cons {p : TV X.A} {q : PV} {ps : List (TV X.A)} {qs : List PV} (h1 : VR X r p q) (h2 : VRs X r ps qs) : VRs X r (p :: ps) (q :: qs) := VRs.cons_iff.2 ⟨q, qs, rfl, h1, h2⟩
theorem VRs.nil_iff {qs : List PV} : VRs X r [] qs ↔ qs = [] := ⟨fun h => by cases h; rfl, fun h => by subst h; exact .nil⟩
theorem VRs.append : ∀ {ps ps' : List (TV X.A)} {qs qs' : List PV}, VRs X r ps qs → VRs X r ps' qs' → VRs X r (ps ++ ps') (qs ++ qs')
  | [], ps', qs, qs', h, h' => by rw [VRs.nil_iff] at h; subst h; exact h'
  | p :: ps, ps', qs, qs', h, h' => by
    obtain ⟨q, qs2, rfl, h1, h2⟩ := VRs.cons_iff.1 h
    exact VRs.cons h1 (VRs.append h2 h')
theorem VRs.split : ∀ {ps ps' : List (TV X.A)} {qs : List PV}, VRs X r (ps ++ ps') qs → ∃ q1 q2, qs = q1 ++ q2 ∧ VRs X r ps q1 ∧ VRs X r ps' q2
  | [], ps', qs, h => ⟨[], qs, rfl, .nil, h⟩
  | p :: ps, ps', qs, h => by
    obtain ⟨q, qs2, rfl, h1, h2⟩ := VRs.cons_iff.1 h
    obtain ⟨a, b, rfl, h3, h4⟩ := VRs.split h2
    exact ⟨q :: a, b, rfl, VRs.cons h1 h3, h4⟩
theorem VRs.get : ∀ {ps : List (TV X.A)} {qs : List PV}, VRs X r ps qs → ∀ {i : Nat} {p : TV X.A} {q : PV}, ps[i]? = some p → qs[i]? = some q → VR X r p q
  | [], qs, h, i, p, q, hp, hq => by simp at hp
  | p' :: ps, qs, h, i, p, q, hp, hq => by
    obtain ⟨q', qs2, rfl, h1, h2⟩ := VRs.cons_iff.1 h
    cases i with
    | zero => simp at hp hq; subst hp; subst hq; exact h1
    | succ i => simp at hp hq; exact VRs.get h2 hp hq
theorem VRs.mk' : ∀ {ps : List (TV X.A)} {qs : List PV}, ps.length = qs.length → (∀ (i : Nat) (p : TV X.A) (q : PV), ps[i]? = some p → qs[i]? = some q → VR X r p q) → VRs X r ps qs
  | [], qs, hl, h => by have : qs = [] := List.eq_nil_of_length_eq_zero hl.symm; subst this; exact .nil
  | p :: ps, [], hl, h => by simp at hl
  | p :: ps, q :: qs, hl, h => VRs.cons (h 0 p q rfl rfl) (VRs.mk' (by simpa using hl) fun i a b ha hb => h (i + 1) a b (by simpa using ha) (by simpa using hb))
theorem VRs.take {ps : List (TV X.A)} {qs : List PV} (h : VRs X r ps qs) (n : Nat) : VRs X r (ps.take n) (qs.take n) :=
  VRs.mk' (by simp [h.length]) fun i p q hp hq => by
    rw [List.getElem?_take] at hp hq
    split at hp
    · rename_i hi; rw [if_pos hi] at hq; exact h.get hp hq
    · cases hp
theorem VRs.drop {ps : List (TV X.A)} {qs : List PV} (h : VRs X r ps qs) (n : Nat) : VRs X r (ps.drop n) (qs.drop n) :=
  VRs.mk' (by simp [h.length]) fun i p q hp hq => by
    rw [List.getElem?_drop] at hp hq
    exact h.get hp hq
theorem VRs.set {ps : List (TV X.A)} {qs : List PV} (h : VRs X r ps qs) {i : Nat} {p : TV X.A} {q : PV} (hp : VR X r p q) : VRs X r (ps.set i p) (qs.set i q) :=
  VRs.mk' (by simp [h.length]) fun j a b ha hb => by
    rw [List.getElem?_set] at ha hb
    split at ha
    · rename_i hij
      rw [if_pos hij] at hb
      split at ha
      · rename_i hl
        rw [if_pos (by rw [← h.length]; exact hl)] at hb
        simp at ha hb; subst ha; subst hb; exact hp
      · cases ha
    · rename_i hij
      rw [if_neg hij] at hb
      exact h.get ha hb
theorem VRs.getD {ps : List (TV X.A)} {qs : List PV} (h : VRs X r ps qs) (i : Nat) : VR X r (ps.getD i .any) (qs.getD i .any) := by
  rcases Nat.lt_or_ge i ps.length with hi | hi
  · have h1 : ps[i]? = some ps[i] := by simp [hi]
    have h2 : qs[i]? = some (qs[i]'(by rw [← h.length]; exact hi)) := by simp [← h.length, hi]
    have := h.get h1 h2
    simpa [List.getD, h1, h2] using this
  · have h1 : ps[i]? = none := List.getElem?_eq_none hi
    have h2 : qs[i]? = none := List.getElem?_eq_none (by rw [← h.length]; exact hi)
    simp only [List.getD, h1, h2, Option.getD_none]
    exact .any .nil
theorem VRs.setC {cs ns : List (TV X.A)} {cs' ns' : List PV} (h : VRs X r cs cs') (hn : VRs X r ns ns') (off : Nat) : VRs X r (setC cs off ns) (setAt cs' off ns') := by
  unfold YtlkaoiceehlkmaaTE.setC setAt
  rw [hn.length]
  exact ((h.take off).append hn).append (h.drop _)
theorem VRs.replicate_any (n : Nat) (q : PV) : VRs X r (List.replicate n .any) (List.replicate n q) :=
  VRs.mk' (by simp) fun i a b ha hb => by
    rw [List.getElem?_replicate] at ha
    split at ha
    · simp only [Option.some.injEq] at ha; subst ha; exact .any .nil
    · cases ha
end lists

/-- The relation may grow. -/
structure Ext (r r' : Rn) : Prop where
  nl : r.nl ≤ r'.nl
  nt : r.nt ≤ r'.nt
  lo : ∀ l, l < r.nl → r'.lo l = r.lo l
  to : ∀ t, t < r.nt → r'.to t = r.to t
  fz : ∀ k cs, r.fz k = some cs → r'.fz k = some cs
  fo : r'.fo = r.fo
  fr : r'.fr = r.fr
theorem Ext.refl (r : Rn) : Ext r r := ⟨Nat.le_refl _, Nat.le_refl _, fun _ _ => rfl, fun _ _ => rfl, fun _ _ h => h, rfl, rfl⟩
theorem Ext.trans {a b c : Rn} (h : Ext a b) (k : Ext b c) : Ext a c :=
  ⟨Nat.le_trans h.nl k.nl, Nat.le_trans h.nt k.nt, fun l hl => (k.lo l (Nat.lt_of_lt_of_le hl h.nl)).trans (h.lo l hl), fun t ht => (k.to t (Nat.lt_of_lt_of_le ht h.nt)).trans (h.to t ht), fun i cs hi => k.fz i cs (h.fz i cs hi), k.fo.trans h.fo, k.fr.trans h.fr⟩
/-- Nothing is known of locations and tokens beyond those that are. -/
structure Wf (r : Rn) : Prop where
  lo : ∀ l x, r.lo l = some x → l < r.nl
  to : ∀ t u, r.to t = some u → t < r.nt
theorem FlagR.mono {r r' : Rn} (he : Ext r r') {f : TF} {f' : Flag} (h : FlagR r f f') : FlagR r' f f' := by
  cases f with
  | sh => trivial
  | own t =>
    refine ⟨Nat.lt_of_lt_of_le h.1 he.nt, h.2.imp id (Or.imp id ?_)⟩
    rintro ⟨u, h1, h2⟩
    exact ⟨u, h1, (he.to t h.1).trans h2⟩
theorem VRs.mono {X : TX} {r r' : Rn} (hw : Wf r) (he : Ext r r') {ps : List (TV X.A)} {qs : List PV} (h : VRs X r ps qs) : VRs X r' ps qs := by
  induction h with
  | nil => exact .nil
  | any _ ih => exact .any ih
  | bool _ ih => exact .bool ih
  | int _ ih => exact .int ih
  | str _ ih => exact .str ih
  | cst h _ ih => exact .cst h ih
  | row h1 h2 _ h4 h5 _ ih1 ih => exact .row h1 h2 ih1 h4 (h5.mono he) ih
  | refn h _ ih => exact .refn ((he.lo _ (hw.lo _ _ h)).trans h) ih
  | ref h1 h2 _ ih => exact .ref h1 ((he.lo _ (hw.lo _ _ h2)).trans h2) ih
  | refe h1 h2 h3 _ ih => exact .refe h1 ((he.lo _ (hw.lo _ _ h2)).trans h2) h3 ih
  | agg _ _ ih1 ih => exact .agg ih1 ih
  | ptr h _ ih => exact .ptr ((he.lo _ (hw.lo _ _ h)).trans h) ih
  | aptr h1 h2 _ ih => exact .aptr h1 ((he.lo _ (hw.lo _ _ h2)).trans h2) ih
  | iptr h1 h2 h3 _ ih => exact .iptr ((he.lo _ (hw.lo _ _ h1)).trans h1) h2 h3 ih
  | eptr _ _ ih1 ih => exact .eptr ih1 ih
  | eptrF h1 h2 h3 _ _ ih1 ih => exact .eptrF (he.fz _ _ h1) h2 h3 ih1 ih
  | optn _ ih => exact .optn ih
  | opts h1 _ _ ih1 ih => exact .opts h1 ih1 ih
  | nilt _ ih => exact .nilt ih
  | nilf h _ ih => exact .nilf h ih
  | fn _ _ _ ih1 ih2 ih => exact .fn ih1 ih2 ih
  | tuple _ _ ih1 ih => exact .tuple ih1 ih
  | yld _ _ ih1 ih => exact .yld ih1 ih

/-- What an element's cells are. -/
def plainC {A : TypeId → Type} (wd : TypeId → Option Nat) : TV A → Bool
  | .bool _ | .int .. | .str _ => true
  | .row t _ .sh => (wd t).isSome
  | _ => false
structure XOk (X : TX) : Prop where
  wd : ∀ t n, X.wd t = some n → tySize X.C.P t = some n ∧ 0 < n ∧ zOk X.C.P t n = true ∧ ∀ a, (X.lay t a).length = n ∧ (X.lay t a).all (plainC X.wd) = true
  dec : ∀ t n, X.wd t = some n → ∀ cs x, X.dec t cs = some x → ∀ r cs', VRs X r cs cs' → VRs X r (X.lay t x) cs'
  keep : ∀ f id, X.C.keep f id = []
  prim : ∀ g, isKeep X.C g = true → ∀ args, X.C.prim g args = none
section plain
variable {X : TX} {r R : Rn}
/-- Plain cells are related whatever the locations. -/
theorem VRs.plain (hX : XOk X) {ps : List (TV X.A)} {qs : List PV} (h : VRs X r ps qs) : ps.all (plainC X.wd) = true → VRs X R ps qs := by
  induction h with
  | nil => exact fun _ => .nil
  | bool _ ih => exact fun hp => .bool (ih (by simp_all))
  | int _ ih => exact fun hp => .int (ih (by simp_all))
  | str _ ih => exact fun hp => .str (ih (by simp_all))
  | @row t l f xs f' n ps qs h1 h2 h3 h4 h5 h ih1 ih =>
    intro hp
    rw [List.all_cons, Bool.and_eq_true] at hp
    cases f with
    | own u => simp [plainC] at hp
    | sh => exact .row h1 h2 (fun i a c ha hc => ih1 i a c ha hc ((hX.wd t n h1).2.2.2 a).2) h4 trivial (ih hp.2)
  | any _ _ => intro hp; simp [plainC] at hp
  | cst _ _ _ => intro hp; simp [plainC] at hp
  | refn _ _ _ => intro hp; simp [plainC] at hp
  | ref _ _ _ _ => intro hp; simp [plainC] at hp
  | refe _ _ _ _ _ => intro hp; simp [plainC] at hp
  | agg _ _ _ _ => intro hp; simp [plainC] at hp
  | ptr _ _ _ => intro hp; simp [plainC] at hp
  | aptr _ _ _ _ => intro hp; simp [plainC] at hp
  | iptr _ _ _ _ _ => intro hp; simp [plainC] at hp
  | eptr _ _ _ _ => intro hp; simp [plainC] at hp
  | eptrF _ _ _ _ _ _ _ => intro hp; simp [plainC] at hp
  | optn _ _ => intro hp; simp [plainC] at hp
  | opts _ _ _ _ _ => intro hp; simp [plainC] at hp
  | nilt _ _ => intro hp; simp [plainC] at hp
  | nilf _ _ _ => intro hp; simp [plainC] at hp
  | fn _ _ _ _ _ _ => intro hp; simp [plainC] at hp
  | tuple _ _ _ _ => intro hp; simp [plainC] at hp
  | yld _ _ _ _ => intro hp; simp [plainC] at hp
theorem VRs.lay (hX : XOk X) {t : TypeId} {n : Nat} (hn : X.wd t = some n) {a : X.A t} {qs : List PV} (h : VRs X r (X.lay t a) qs) : VRs X R (X.lay t a) qs := h.plain hX ((hX.wd t n hn).2.2.2 a).2
end plain
end Go.Proofs.YtlkaoiceehlkmaaTE

namespace Go.Proofs.YtlkaoiceehlkmaaTE
open Go Go.Proofs.YtlkaoiceehlkmaaVE
set_option linter.unusedVariables false
set_option linter.unusedSimpArgs false

/-! How the extraction and its way back go, case by case. -/
section eqs
variable {X : TX} {st : TS X.A} {n0 : Nat} {mu : Nat → Nat}
theorem ext1_any  (p : TV X.A) (a : XA) : ext1 X st n0 (.any) p a = (some ((), a)) := by kernel_rfl
theorem ext1_int (k : IntKind) (p : TV X.A) (a : XA) : ext1 X st n0 (.int k) p a = (match p with
    | .int j n => if k = j then some (n, a) else none
    | _ => none) := by kernel_rfl
theorem ext1_bool  (p : TV X.A) (a : XA) : ext1 X st n0 (.bool) p a = (match p with
    | .bool b => some (b, a)
    | _ => none) := by kernel_rfl
theorem ext1_str  (p : TV X.A) (a : XA) : ext1 X st n0 (.str) p a = (match p with
    | .str s => some (s, a)
    | _ => none) := by kernel_rfl
theorem ext1_row (t : TypeId) (own : Bool) (p : TV X.A) (a : XA) : ext1 X st n0 (.row t own) p a = (rowX X.wd st t own p a) := by kernel_rfl
theorem ext1_optp (t : TypeId) (p : TV X.A) (a : XA) : ext1 X st n0 (.optp t) p a = (optX X st n0 t p a) := by kernel_rfl
theorem ext1_eptr (t : TypeId) (p : TV X.A) (a : XA) : ext1 X st n0 (.eptr t) p a = (if (X.wd t).isNone then none else match p with
    | .eptr cs => match X.dec t cs with
      | some x => some (x, a)
      | none => none
    | _ => none) := by kernel_rfl
theorem ext1_ptr (j off : Nat) (p : TV X.A) (a : XA) : ext1 X st n0 (.ptr j off) p a = (match p with
    | .ptr l o => if o = off then (match bindL n0 j (some l) a with
      | some a' => some ((), a')
      | none => none) else none
    | _ => none) := by kernel_rfl
theorem ext1_ref (t : TypeId) (j : Nat) (p : TV X.A) (a : XA) : ext1 X st n0 (.ref t j) p a = (if (X.wd t).isNone then none else match p with
    | .ref u l off n => if u = t then (match bindL n0 j (some l) a with
      | some a' => some ((off, n), a')
      | none => none) else none
    | .cst (.slice none 0 0) => match bindL n0 j none a with
      | some a' => some ((0, 0), a')
      | none => none
    | _ => none) := by kernel_rfl
theorem ext1_agg (ds : List Ds) (p : TV X.A) (a : XA) : ext1 X st n0 (.agg ds) p a = (match p with
    | .agg cs => exts X st n0 ds cs a
    | _ => none) := by kernel_rfl
theorem ext1_sct (t : TypeId) (p : TV X.A) (a : XA) : ext1 X st n0 (.sct t) p a = (if (X.wd t).isNone then none else match p with
    | .agg cs => match X.dec t cs with
      | some x => some (x, a)
      | none => none
    | _ => none) := by kernel_rfl
theorem ext1_nilp  (p : TV X.A) (a : XA) : ext1 X st n0 (.nilp) p a = (match p with
    | .cst (.pointer none) => some ((), a)
    | _ => none) := by kernel_rfl
theorem ext1_nils  (p : TV X.A) (a : XA) : ext1 X st n0 (.nils) p a = (match p with
    | .cst (.slice none 0 0) => some ((), a)
    | _ => none) := by kernel_rfl
theorem ext1_nili  (p : TV X.A) (a : XA) : ext1 X st n0 (.nili) p a = (match p with
    | .nili b => some (b, a)
    | .cst .nilIface => some (true, a)
    | _ => none) := by kernel_rfl
theorem ext1_fn (g : FuncId) (x y : List Ds) (p : TV X.A) (a : XA) : ext1 X st n0 (.fn g x y) p a = (match p with
    | .fn h u v => if g = h then (match exts X st n0 x u a with
      | some (du, a1) => match exts X st n0 y v a1 with
        | some (dv, a2) => some ((du, dv), a2)
        | none => none
      | none => none) else none
    | _ => none) := by kernel_rfl
theorem exts_nil (cs : List (TV X.A)) (a : XA) : exts X st n0 [] cs a = (match cs with
    | [] => some ((), a)
    | _ => none) := by kernel_rfl
theorem exts_cons (d : Ds) (ds : List Ds) (cs : List (TV X.A)) (a : XA) : exts X st n0 (d :: ds) cs a = (match cs with
    | c :: cs => match ext1 X st n0 d c a with
      | some (x, a1) => match exts X st n0 ds cs a1 with
        | some (xs, a2) => some ((x, xs), a2)
        | none => none
      | none => none
    | _ => none) := by kernel_rfl
theorem inj1_any  (x : Ds.den X.A (.any)) (n : Nat) : inj1 X mu (.any) x n = ((.any, n)) := by kernel_rfl
theorem inj1_int (k : IntKind) (x : Ds.den X.A (.int k)) (n : Nat) : inj1 X mu (.int k) x n = ((.int k x, n)) := by kernel_rfl
theorem inj1_bool  (b : Ds.den X.A (.bool)) (n : Nat) : inj1 X mu (.bool) b n = ((.bool b, n)) := by kernel_rfl
theorem inj1_str  (s : Ds.den X.A (.str)) (n : Nat) : inj1 X mu (.str) s n = ((.str s, n)) := by kernel_rfl
theorem inj1_rowT (t : TypeId) (l : Ds.den X.A (.row t true)) (n : Nat) : inj1 X mu (.row t true) l n = (.row t l (.own n), n + 1) := by kernel_rfl
theorem inj1_rowF (t : TypeId) (l : Ds.den X.A (.row t false)) (n : Nat) : inj1 X mu (.row t false) l n = (.row t l .sh, n) := by kernel_rfl
theorem inj1_optp (t : TypeId) (o : Ds.den X.A (.optp t)) (n : Nat) : inj1 X mu (.optp t) o n = ((.optp t o, n)) := by kernel_rfl
theorem inj1_eptr (t : TypeId) (x : Ds.den X.A (.eptr t)) (n : Nat) : inj1 X mu (.eptr t) x n = ((.eptr (X.lay t x), n)) := by kernel_rfl
theorem inj1_ptr (j off : Nat) (x : Ds.den X.A (.ptr j off)) (n : Nat) : inj1 X mu (.ptr j off) x n = ((.ptr (mu j) off, n)) := by kernel_rfl
theorem inj1_ref (t : TypeId) (j : Nat) (x : Ds.den X.A (.ref t j)) (n : Nat) : inj1 X mu (.ref t j) x n = ((.ref t (mu j) (x : Nat × Nat).1 (x : Nat × Nat).2, n)) := by kernel_rfl
theorem inj1_agg (ds : List Ds) (x : Ds.den X.A (.agg ds)) (n : Nat) : inj1 X mu (.agg ds) x n = (match injs X mu ds x n with
    | (cs, m) => (.agg cs, m)) := by kernel_rfl
theorem inj1_sct (t : TypeId) (x : Ds.den X.A (.sct t)) (n : Nat) : inj1 X mu (.sct t) x n = ((.agg (X.lay t x), n)) := by kernel_rfl
theorem inj1_nilp  (x : Ds.den X.A (.nilp)) (n : Nat) : inj1 X mu (.nilp) x n = ((.cst (.pointer none), n)) := by kernel_rfl
theorem inj1_nils  (x : Ds.den X.A (.nils)) (n : Nat) : inj1 X mu (.nils) x n = ((.cst (.slice none 0 0), n)) := by kernel_rfl
theorem inj1_nili  (b : Ds.den X.A (.nili)) (n : Nat) : inj1 X mu (.nili) b n = ((.nili b, n)) := by kernel_rfl
theorem inj1_fn (g : FuncId) (a b : List Ds) (x : Ds.den X.A (.fn g a b)) (n : Nat) : inj1 X mu (.fn g a b) x n = (match injs X mu a (x : dens X.A a × dens X.A b).1 n with
    | (u, m) => match injs X mu b (x : dens X.A a × dens X.A b).2 m with
      | (v, m') => (.fn g u v, m')) := by kernel_rfl
theorem injs_nil (x : dens X.A []) (n : Nat) : injs X mu [] x n = ([], n) := by kernel_rfl
theorem injs_cons (d : Ds) (ds : List Ds) (x : dens X.A (d :: ds)) (n : Nat) : injs X mu (d :: ds) x n = (match inj1 X mu d (x : d.den X.A × dens X.A ds).1 n with
    | (c, m) => match injs X mu ds (x : d.den X.A × dens X.A ds).2 m with
      | (cs, m') => (c :: cs, m')) := by kernel_rfl
end eqs

/-- What lies at a location. -/
def LocR (X : TX) (r : Rn) : TL X.A → List PV → Prop
  | .cells cs, cs' => VRs X r cs cs'
  | .arr t l, cs' => ∃ (n : Nat) (xs : List (List PV)) (rest : List PV), X.wd t = some n ∧ cs' = xs.flatten ++ rest ∧ l.length = xs.length ∧ ∀ (i : Nat) (a : X.A t) (c : List PV), l[i]? = some a → xs[i]? = some c → VRs X r (X.lay t a) c
structure SRel (X : TX) (r : Rn) (s : TS X.A) (v : St) : Prop where
  wf : Wf r
  nl : r.nl = s.locs.length
  nt : r.nt = s.next
  loc : ∀ l c, tloc s l = some c → (∃ k cs', r.lo l = some (some k) ∧ locAt v k = some cs' ∧ LocR X r c cs') ∨ (r.lo l = some none ∧ ∃ t n, X.wd t = some n ∧ c = .arr t [])
  inj : ∀ a b k, (tloc s a).isSome = true → (tloc s b).isSome = true → r.lo a = some (some k) → r.lo b = some (some k) → a = b
  fz : ∀ k cs, r.fz k = some cs → locAt v k = some cs ∧ (∀ l, (tloc s l).isSome = true → r.lo l ≠ some (some k)) ∧ cs.all nof = true
  live : ∀ t u, t ∈ s.live → r.to t = some u → u ∈ v.live ∧ ¬ r.fo u
  tinj : ∀ a b u, a ∈ s.live → b ∈ s.live → r.to a = some u → r.to b = some u → a = b
  lt : ∀ t ∈ s.live, t < s.next
  fo : ∀ u, r.fo u → u ∈ v.live
  vlt : ∀ u ∈ v.live, u < v.next
  fr : ∀ k cs, r.fr k = some cs → (locAt v k = some cs ∨ locAt v k = some (cs.map YtlkaoiceehlkmaaVE.clean)) ∧ (∀ l, (tloc s l).isSome = true → r.lo l ≠ some (some k)) ∧ r.fz k = none
theorem SRel.rng {X : TX} {r : Rn} {s : TS X.A} {v : St} (h : SRel X r s v) {a k : Nat} (ha : (tloc s a).isSome = true) (hk : r.lo a = some (some k)) : k < v.locs.length := by
  obtain ⟨c, hc⟩ := Option.isSome_iff_exists.1 ha
  rcases h.loc a c hc with ⟨k', cs', h1, h2, _⟩ | ⟨h1, _⟩
  · rw [hk] at h1
    simp only [Option.some.injEq] at h1
    subst h1
    unfold locAt at h2
    rcases Nat.lt_or_ge k v.locs.length with hl | hl
    · exact hl
    · simp [List.getElem?_eq_none hl] at h2
  · rw [hk] at h1; cases h1
theorem SRel.tolt {X : TX} {r : Rn} {s : TS X.A} {v : St} (h : SRel X r s v) {t u : Nat} (ht : t ∈ s.live) (hu : r.to t = some u) : u < v.next := h.vlt u (h.live t u ht hu).1
theorem LocR.plainA {X : TX} {r R : Rn} (hX : XOk X) {t : TypeId} {l : List (X.A t)} {cs : List PV} (h : LocR X r (.arr t l) cs) : LocR X R (.arr t l) cs := by
  obtain ⟨n, xs, rest, h1, h2, h3, h4⟩ := h
  exact ⟨n, xs, rest, h1, h2, h3, fun i a c ha hc => (h4 i a c ha hc).lay hX h1⟩
theorem LocR.mono {X : TX} {r r' : Rn} (hw : Wf r) (he : Ext r r') {c : TL X.A} {cs : List PV} (h : LocR X r c cs) : LocR X r' c cs := by
  cases c with
  | cells ds => exact VRs.mono hw he h
  | arr t l =>
    obtain ⟨n, xs, rest, h1, h2, h3, h4⟩ := h
    exact ⟨n, xs, rest, h1, h2, h3, fun i a c ha hc => (h4 i a c ha hc).mono hw he⟩

/-! Out of values and back. -/
structure XLe (a b : XA) : Prop where
  bl : a.bl <+: b.bl
  bt : a.bt <+: b.bt
  fz : ∀ l ∈ a.fz, l ∈ b.fz
theorem XLe.refl (a : XA) : XLe a a := ⟨List.prefix_refl _, List.prefix_refl _, fun _ h => h⟩
theorem XLe.trans {a b c : XA} (h : XLe a b) (k : XLe b c) : XLe a c := ⟨h.bl.trans k.bl, h.bt.trans k.bt, fun l hl => k.fz l (h.fz l hl)⟩
structure Br (X : TX) (sv : St) (n0 T : Nat) (mu : Nat → Nat) (A : XA) (r R : Rn) : Prop where
  old : ∀ j x, j < n0 → r.lo j = some x → R.lo (mu j) = some x
  new : ∀ i l x, A.bl[i]? = some (some l) → r.lo l = some x → R.lo (mu (n0 + i)) = some x
  newn : ∀ i, A.bl[i]? = some none → R.lo (mu (n0 + i)) = some none
  tok : ∀ i, i < A.bt.length → T + i < R.nt
  to : ∀ i u w, A.bt[i]? = some (some u) → r.to u = some w → R.to (T + i) = some w
  fz : ∀ k cs, r.fz k = some cs → R.fz k = some cs
  frz : ∀ l ∈ A.fz, ∀ k cs', r.lo l = some (some k) → locAt sv k = some cs' → R.fz k = some cs'
theorem pre_get {α : Type} {a b : List α} (h : a <+: b) {i : Nat} {x : α} (hx : a[i]? = some x) : b[i]? = some x := by
  obtain ⟨c, rfl⟩ := h
  rw [List.getElem?_append_left (List.getElem?_eq_some_iff.1 hx).1]; exact hx
section ext
variable {X : TX} {st : TS X.A} {sv : St} {n0 T : Nat} {mu : Nat → Nat} {A : XA} {r R : Rn}
theorem bindL_ok (hb : Br X sv n0 T mu A r R) {j : Nat} {l : Option Nat} {a a' : XA} (h : bindL n0 j l a = some a') (hle : XLe a' A) :
    XLe a a' ∧ a'.bt = a.bt ∧ (∀ m x, l = some m → r.lo m = some x → R.lo (mu j) = some x) ∧ (l = none → R.lo (mu j) = some none) := by
  unfold bindL at h
  split at h
  · rename_i hj
    split at h
    · rename_i hl
      simp only [Option.some.injEq] at h
      subst h
      refine ⟨XLe.refl _, rfl, fun m x hm hx => ?_, fun hn => ?_⟩
      · rw [hl] at hm; simp only [Option.some.injEq] at hm; subst hm; exact hb.old j x hj hx
      · rw [hl] at hn; cases hn
    · cases h
  · rename_i hj
    split at h
    · rename_i hj2
      split at h
      · rename_i l
        split at h
        · rename_i hl
          simp only [Option.some.injEq] at h
          subst h
          refine ⟨XLe.refl _, rfl, fun m x hm hx => ?_, fun hn => by cases hn⟩
          simp only [Option.some.injEq] at hm
          subst hm
          have := hb.new (j - n0) l x (pre_get hle.bl hl) hx
          rwa [show n0 + (j - n0) = j by omega] at this
        · cases h
      · cases h
    · split at h
      · rename_i hj3
        split at h
        · rename_i l
          split at h
          · simp only [Option.some.injEq] at h
            subst h
            refine ⟨⟨List.prefix_append _ _, List.prefix_refl _, fun _ h => h⟩, rfl, fun m x hm hx => ?_, fun hn => by cases hn⟩
            simp only [Option.some.injEq] at hm
            subst hm
            have := hb.new a.bl.length l x (pre_get hle.bl (by simp)) hx
            rwa [← hj3] at this
          · cases h
        · simp only [Option.some.injEq] at h
          subst h
          refine ⟨⟨List.prefix_append _ _, List.prefix_refl _, fun _ h => h⟩, rfl, (fun m x hm => by cases hm), fun _ => ?_⟩
          have := hb.newn a.bl.length (pre_get hle.bl (by simp))
          rwa [← hj3] at this
      · cases h
theorem VR.nils {q : PV} (h : VR X r (.cst (.slice none 0 0)) q) : q = .row [] .nil := by
  cases h with
  | cst h _ =>
    rcases h with ⟨h, _⟩ | ⟨_, h⟩
    · cases h
    · exact h
theorem VR.flatc {x : Value} {q : PV} (hx : flat x = true) (h : VR X r (.cst x) q) : q = .v x := by
  cases h with
  | cst h _ =>
    rcases h with ⟨_, h⟩ | ⟨h, _⟩
    · exact h
    · subst h; cases hx
theorem wd_some {t : TypeId} (h : ¬ (X.wd t).isNone = true) : ∃ n, X.wd t = some n := by
  cases hx : X.wd t with
  | none => rw [hx] at h; exact absurd rfl h
  | some n => exact ⟨n, rfl⟩
theorem rowX_ok (hb : Br X sv n0 T mu A r R) (hX : XOk X) {t : TypeId} {own : Bool} {p : TV X.A} {a a' : XA} {l : List (X.A t)} {q : PV} (h : rowX X.wd st t own p a = some (l, a')) (hle : XLe a' A) (hv : VR X r p q) :
    XLe a a' ∧ (inj1 X mu (.row t own) l (T + a.bt.length)).2 = T + a'.bt.length ∧ VR X R (inj1 X mu (.row t own) l (T + a.bt.length)).1 q := by
  unfold rowX at h
  split at h
  · split at h
    · rename_i n hn
      simp only [Option.some.injEq, Prod.mk.injEq] at h
      obtain ⟨rfl, rfl⟩ := h
      have hq := VR.nils hv
      subst hq
      cases own with
      | false =>
        refine ⟨XLe.refl _, rfl, ?_⟩
        exact .row hn rfl (fun i a c ha => by simp at ha) (fun c hc => by cases hc) trivial .nil
      | true =>
        refine ⟨⟨List.prefix_refl _, List.prefix_append _ _, fun _ h => h⟩, by show T + a.bt.length + 1 = T + (a.bt ++ [none]).length; simp; omega, ?_⟩
        refine .row hn rfl (fun i a c ha => by simp at ha) (fun c hc => by cases hc) ⟨?_, .inl rfl⟩ .nil
        have := hle.bt.length_le
        simp at this
        exact hb.tok _ (by omega)
    · cases h
  · rename_i u lu f
    split at h
    · rename_i hu
      subst hu
      cases hv with
      | row h1 h2 h3 h4 h5 _ =>
        cases own with
        | false =>
          simp only [Bool.false_eq_true, if_false, Option.some.injEq, Prod.mk.injEq] at h
          obtain ⟨rfl, rfl⟩ := h
          exact ⟨XLe.refl _, rfl, .row h1 h2 (fun i a c ha hc => (h3 i a c ha hc).lay hX h1) h4 trivial .nil⟩
        | true =>
          simp only [if_true] at h
          split at h
          · rename_i a2 ho
            simp only [Option.some.injEq, Prod.mk.injEq] at h
            obtain ⟨rfl, rfl⟩ := h
            unfold ownX at ho
            split at ho
            · cases ho
            · rename_i v
              split at ho
              · rename_i hc
                simp only [Option.some.injEq] at ho
                subst ho
                have hlen := hle.bt.length_le
                simp at hlen
                refine ⟨⟨List.prefix_refl _, List.prefix_append _ _, fun _ h => h⟩, by show T + a.bt.length + 1 = T + (a.bt ++ [some v]).length; simp; omega, ?_⟩
                refine .row h1 h2 (fun i a c ha hc => (h3 i a c ha hc).lay hX h1) h4 ⟨hb.tok _ (by omega), ?_⟩ .nil
                refine h5.2.imp id (Or.imp id ?_)
                rintro ⟨w, e1, e2⟩
                exact ⟨w, e1, hb.to _ v w (pre_get hle.bt (by simp)) e2⟩
              · cases ho
          · cases h
    · cases h
  · cases h
theorem optX_ok (hs : SRel X r st sv) (hb : Br X sv n0 T mu A r R) (hX : XOk X) {t : TypeId} {p : TV X.A} {a a' : XA} {o : Option (X.A t)} {q : PV} (h : optX X st n0 t p a = some (o, a')) (hle : XLe a' A) (hv : VR X r p q) :
    XLe a a' ∧ a'.bt = a.bt ∧ VR X R (.optp t o) q := by
  unfold optX at h
  split at h
  · cases h
  · rename_i hn
    obtain ⟨n, hn⟩ := wd_some hn
    split at h
    · simp only [Option.some.injEq, Prod.mk.injEq] at h
      obtain ⟨rfl, rfl⟩ := h
      have := VR.flatc rfl hv
      subst this
      exact ⟨XLe.refl _, rfl, .optn .nil⟩
    · rename_i u o'
      split at h
      · rename_i hu
        subst hu
        simp only [Option.some.injEq, Prod.mk.injEq] at h
        obtain ⟨rfl, rfl⟩ := h
        refine ⟨XLe.refl _, rfl, ?_⟩
        cases hv with
        | optn _ => exact .optn .nil
        | opts h1 h2 _ =>
          refine .opts h1 ?_ .nil
          cases h2 with
          | eptr h3 _ => exact .eptr (h3.lay hX h1) .nil
          | eptrF h3 h4 h5 h6 _ => exact .eptrF (hb.fz _ _ h3) h4 h5 (h6.lay hX h1) .nil
      · cases h
    · rename_i cs
      split at h
      · rename_i x hd
        simp only [Option.some.injEq, Prod.mk.injEq] at h
        obtain ⟨rfl, rfl⟩ := h
        refine ⟨XLe.refl _, rfl, .opts hn ?_ .nil⟩
        cases hv with
        | eptr h3 _ => exact .eptr ((hX.dec t n hn _ _ hd _ _ h3).lay hX hn) .nil
        | eptrF h3 h4 h5 h6 _ => exact .eptrF (hb.fz _ _ h3) h4 h5 ((hX.dec t n hn _ _ hd _ _ h6).lay hX hn) .nil
      · cases h
    · rename_i l
      split at h
      · split at h
        · rename_i cs hl
          split at h
          · rename_i x hd
            simp only [Option.some.injEq, Prod.mk.injEq] at h
            obtain ⟨rfl, rfl⟩ := h
            refine ⟨⟨List.prefix_refl _, List.prefix_refl _, fun _ h => List.mem_cons_of_mem _ h⟩, rfl, .opts hn ?_ .nil⟩
            cases hv with
            | ptr h1 _ =>
              rcases hs.loc l _ hl with ⟨k, cs', h2, h3, h4⟩ | ⟨h2, t', n', _, h4⟩
              · rw [h1] at h2
                simp only [Option.some.injEq] at h2
                subst h2
                have hf := hb.frz l (hle.fz l (by simp)) _ cs' h1 h3
                exact .eptrF (c2 := []) hf (Nat.zero_le _) (by simp) ((hX.dec t n hn _ _ hd _ _ h4).lay hX hn) .nil
              · cases h4
          · cases h
        · cases h
      · cases h
    · cases h
theorem some_pair {α β : Type} {a a' : α} {b b' : β} (h : some (a, b) = some (a', b')) : a = a' ∧ b = b' := by cases h; exact ⟨rfl, rfl⟩
/-- What an extraction and its way back do. -/
def Ok1 (X : TX) (st : TS X.A) (n0 T : Nat) (mu : Nat → Nat) (A : XA) (r R : Rn) (d : Ds) : Prop := ∀ (p : TV X.A) (a : XA) (x : d.den X.A) (a' : XA) (q : PV), ext1 X st n0 d p a = some (x, a') → XLe a' A → VR X r p q →
    XLe a a' ∧ (inj1 X mu d x (T + a.bt.length)).2 = T + a'.bt.length ∧ VR X R (inj1 X mu d x (T + a.bt.length)).1 q
def Oks (X : TX) (st : TS X.A) (n0 T : Nat) (mu : Nat → Nat) (A : XA) (r R : Rn) (ds : List Ds) : Prop := ∀ (ps : List (TV X.A)) (a : XA) (x : dens X.A ds) (a' : XA) (qs : List PV), exts X st n0 ds ps a = some (x, a') → XLe a' A → VRs X r ps qs →
    XLe a a' ∧ (injs X mu ds x (T + a.bt.length)).2 = T + a'.bt.length ∧ VRs X R (injs X mu ds x (T + a.bt.length)).1 qs
theorem exts_of : ∀ (ds : List Ds), (∀ d ∈ ds, Ok1 X st n0 T mu A r R d) → Oks X st n0 T mu A r R ds
  | [], _, ps, a, x, a', qs, h, hle, hv => by
    rw [injs_nil]
    rw [exts_nil] at h
    split at h
    · simp only [Option.some.injEq, Prod.mk.injEq] at h
      obtain ⟨_, rfl⟩ := h
      rw [VRs.nil_iff] at hv
      subst hv
      exact ⟨XLe.refl _, rfl, .nil⟩
    · cases h
  | d :: ds, hd, ps, a, x, a', qs, h, hle, hv => by
    rw [injs_cons]
    rw [exts_cons] at h
    split at h
    · rename_i c cs
      split at h
      · rename_i y a1 h1
        split at h
        · rename_i ys a2 h2
          simp only [Option.some.injEq, Prod.mk.injEq] at h
          obtain ⟨rfl, rfl⟩ := h
          obtain ⟨q, qs2, rfl, e1, e2⟩ := VRs.cons_iff.1 hv
          obtain ⟨k1, k2, k3⟩ := exts_of ds (fun e he => hd e (List.mem_cons_of_mem _ he)) cs a1 ys _ _ h2 hle e2
          obtain ⟨j1, j2, j3⟩ := hd d (List.mem_cons_self ..) c a y a1 _ h1 (k1.trans hle) e1
          refine ⟨j1.trans k1, ?_, ?_⟩
          · simp only [j2]; exact k2
          · simp only [j2]; exact VRs.cons j3 k3
        · cases h
      · cases h
    · cases h
theorem ok1_any (hs : SRel X r st sv) (hb : Br X sv n0 T mu A r R) (hX : XOk X)  : Ok1 X st n0 T mu A r R (.any) := by
    intro p a x a' q h hle hv
    rw [inj1_any]
    rw [ext1_any] at h
    obtain ⟨_, rfl⟩ := some_pair h
    exact ⟨XLe.refl _, rfl, .any .nil⟩
theorem ok1_int (hs : SRel X r st sv) (hb : Br X sv n0 T mu A r R) (hX : XOk X) (k : IntKind) : Ok1 X st n0 T mu A r R (.int k) := by
    intro p a x a' q h hle hv
    rw [inj1_int]
    rw [ext1_int] at h
    split at h
    · rename_i j n
      split at h
      · rename_i hk
        subst hk
        obtain ⟨rfl, rfl⟩ := some_pair h
        cases hv with | int _ => exact ⟨XLe.refl _, rfl, .int .nil⟩
      · cases h
    · cases h
theorem ok1_bool (hs : SRel X r st sv) (hb : Br X sv n0 T mu A r R) (hX : XOk X)  : Ok1 X st n0 T mu A r R (.bool) := by
    intro p a x a' q h hle hv
    rw [inj1_bool]
    rw [ext1_bool] at h
    split at h
    · obtain ⟨rfl, rfl⟩ := some_pair h
      cases hv with | bool _ => exact ⟨XLe.refl _, rfl, .bool .nil⟩
    · cases h
theorem ok1_str (hs : SRel X r st sv) (hb : Br X sv n0 T mu A r R) (hX : XOk X)  : Ok1 X st n0 T mu A r R (.str) := by
    intro p a x a' q h hle hv
    rw [inj1_str]
    rw [ext1_str] at h
    split at h
    · obtain ⟨rfl, rfl⟩ := some_pair h
      cases hv with | str _ => exact ⟨XLe.refl _, rfl, .str .nil⟩
    · cases h
theorem ok1_row (hs : SRel X r st sv) (hb : Br X sv n0 T mu A r R) (hX : XOk X) (t : TypeId) (own : Bool) : Ok1 X st n0 T mu A r R (.row t own) := by
    intro p a x a' q h hle hv
    rw [ext1_row] at h
    exact rowX_ok hb hX h hle hv
theorem ok1_optp (hs : SRel X r st sv) (hb : Br X sv n0 T mu A r R) (hX : XOk X) (t : TypeId) : Ok1 X st n0 T mu A r R (.optp t) := by
    intro p a x a' q h hle hv
    rw [inj1_optp]
    rw [ext1_optp] at h
    obtain ⟨h1, h2, h3⟩ := optX_ok hs hb hX h hle hv
    exact ⟨h1, by simp only [h2], by exact h3⟩
theorem ok1_eptr (hs : SRel X r st sv) (hb : Br X sv n0 T mu A r R) (hX : XOk X) (t : TypeId) : Ok1 X st n0 T mu A r R (.eptr t) := by
    intro p a x a' q h hle hv
    rw [inj1_eptr]
    rw [ext1_eptr] at h
    split at h
    · cases h
    · rename_i hn
      obtain ⟨n, hn⟩ := wd_some hn
      split at h
      · split at h
        · rename_i y hd
          obtain ⟨rfl, rfl⟩ := some_pair h
          refine ⟨XLe.refl _, rfl, ?_⟩
          cases hv with
          | eptr h3 _ => exact .eptr ((hX.dec t n hn _ _ hd _ _ h3).lay hX hn) .nil
          | eptrF h3 h4 h5 h6 _ => exact .eptrF (hb.fz _ _ h3) h4 h5 ((hX.dec t n hn _ _ hd _ _ h6).lay hX hn) .nil
        · cases h
      · cases h
theorem ok1_ptr (hs : SRel X r st sv) (hb : Br X sv n0 T mu A r R) (hX : XOk X) (j off : Nat) : Ok1 X st n0 T mu A r R (.ptr j off) := by
    intro p a x a' q h hle hv
    rw [inj1_ptr]
    rw [ext1_ptr] at h
    split at h
    · rename_i l o
      split at h
      · rename_i ho
        subst ho
        split at h
        · rename_i a2 hbind
          obtain ⟨_, rfl⟩ := some_pair h
          obtain ⟨h1, h2, h3, h4⟩ := bindL_ok hb hbind hle
          refine ⟨h1, by simp only [h2], ?_⟩
          cases hv with
          | ptr h5 _ => exact .ptr (h3 l _ rfl h5) .nil
        · cases h
      · cases h
    · cases h
theorem ok1_ref (hs : SRel X r st sv) (hb : Br X sv n0 T mu A r R) (hX : XOk X) (t : TypeId) (j : Nat) : Ok1 X st n0 T mu A r R (.ref t j) := by
    intro p a x a' q h hle hv
    rw [inj1_ref]
    rw [ext1_ref] at h
    split at h
    · cases h
    · rename_i hn
      obtain ⟨n, hn⟩ := wd_some hn
      split at h
      · rename_i u l off m
        split at h
        · rename_i hu
          subst hu
          split at h
          · rename_i a2 hbind
            obtain ⟨rfl, rfl⟩ := some_pair h
            obtain ⟨h1, h2, h3, h4⟩ := bindL_ok hb hbind hle
            refine ⟨h1, by simp only [h2], ?_⟩
            cases hv with
            | refn h5 _ => exact .refn (h3 l _ rfl h5) .nil
            | ref h5 h6 _ => exact .ref h5 (h3 l _ rfl h6) .nil
            | refe h5 h6 h7 _ => exact .refe h5 (h3 l _ rfl h6) h7 .nil
          · cases h
        · cases h
      · split at h
        · rename_i a2 hbind
          obtain ⟨rfl, rfl⟩ := some_pair h
          obtain ⟨h1, h2, h3, h4⟩ := bindL_ok hb hbind hle
          refine ⟨h1, by simp only [h2], ?_⟩
          have := VR.nils hv
          subst this
          exact .refn (h4 rfl) .nil
        · cases h
      · cases h
theorem ok1_agg (hs : SRel X r st sv) (hb : Br X sv n0 T mu A r R) (hX : XOk X) (ds : List Ds) (ihs : Oks X st n0 T mu A r R ds) : Ok1 X st n0 T mu A r R (.agg ds) := by
    intro p a x a' q h hle hv
    rw [inj1_agg]
    rw [ext1_agg] at h
    cases p with
    | agg cs =>
      cases hv with
      | agg h1 _ =>
        obtain ⟨h2, h3, h4⟩ := ihs cs a x a' _ h hle h1
        exact ⟨h2, h3, .agg h4 .nil⟩
    | _ => cases h
theorem ok1_sct (hs : SRel X r st sv) (hb : Br X sv n0 T mu A r R) (hX : XOk X) (t : TypeId) : Ok1 X st n0 T mu A r R (.sct t) := by
    intro p a x a' q h hle hv
    rw [inj1_sct]
    rw [ext1_sct] at h
    split at h
    · cases h
    · rename_i hn
      obtain ⟨n, hn⟩ := wd_some hn
      split at h
      · split at h
        · rename_i y hd
          obtain ⟨rfl, rfl⟩ := some_pair h
          refine ⟨XLe.refl _, rfl, ?_⟩
          cases hv with
          | agg h3 _ => exact .agg ((hX.dec t n hn _ _ hd _ _ h3).lay hX hn) .nil
        · cases h
      · cases h
theorem ok1_nilp (hs : SRel X r st sv) (hb : Br X sv n0 T mu A r R) (hX : XOk X)  : Ok1 X st n0 T mu A r R (.nilp) := by
    intro p a x a' q h hle hv
    rw [inj1_nilp]
    rw [ext1_nilp] at h
    split at h
    · obtain ⟨_, rfl⟩ := some_pair h
      have := VR.flatc rfl hv
      subst this
      exact ⟨XLe.refl _, rfl, .cst (.inl ⟨rfl, rfl⟩) .nil⟩
    · cases h
theorem ok1_nils (hs : SRel X r st sv) (hb : Br X sv n0 T mu A r R) (hX : XOk X)  : Ok1 X st n0 T mu A r R (.nils) := by
    intro p a x a' q h hle hv
    rw [inj1_nils]
    rw [ext1_nils] at h
    split at h
    · obtain ⟨_, rfl⟩ := some_pair h
      have := VR.nils hv
      subst this
      exact ⟨XLe.refl _, rfl, .cst (.inr ⟨rfl, rfl⟩) .nil⟩
    · cases h
theorem ok1_nili (hs : SRel X r st sv) (hb : Br X sv n0 T mu A r R) (hX : XOk X)  : Ok1 X st n0 T mu A r R (.nili) := by
    intro p a x a' q h hle hv
    rw [inj1_nili]
    rw [ext1_nili] at h
    split at h
    · obtain ⟨rfl, rfl⟩ := some_pair h
      refine ⟨XLe.refl _, rfl, ?_⟩
      cases hv with
      | nilt _ => exact .nilt .nil
      | nilf k _ => exact .nilf k .nil
    · obtain ⟨rfl, rfl⟩ := some_pair h
      have := VR.flatc rfl hv
      subst this
      exact ⟨XLe.refl _, rfl, .nilt .nil⟩
    · cases h
theorem ok1_fn (hs : SRel X r st sv) (hb : Br X sv n0 T mu A r R) (hX : XOk X) (g : FuncId) (u v : List Ds) (ihu : Oks X st n0 T mu A r R u) (ihv : Oks X st n0 T mu A r R v) : Ok1 X st n0 T mu A r R (.fn g u v) := by
    intro p a x a' q h hle hv
    rw [inj1_fn]
    rw [ext1_fn] at h
    cases p with
    | fn g' pu pv =>
      have h : (if g = g' then (match exts X st n0 u pu a with
        | some (du, a1) => match exts X st n0 v pv a1 with
          | some (dv, a2) => some ((du, dv), a2)
          | none => none
        | none => none) else none) = some (x, a') := h
      by_cases hg : g = g'
      · subst hg
        rw [if_pos rfl] at h
        cases hu : exts X st n0 u pu a with
        | none => rw [hu] at h; cases h
        | some w1 =>
          obtain ⟨du, a1⟩ := w1
          rw [hu] at h
          cases hv2 : exts X st n0 v pv a1 with
          | none => simp only [hv2] at h; cases h
          | some w2 =>
            obtain ⟨dv, a2⟩ := w2
            simp only [hv2] at h
            obtain ⟨rfl, rfl⟩ := some_pair h
            cases hv with
            | fn e1 e2 _ =>
              obtain ⟨k1, k2, k3⟩ := ihv _ a1 dv _ _ hv2 hle e2
              obtain ⟨j1, j2, j3⟩ := ihu _ a du a1 _ hu (k1.trans hle) e1
              refine ⟨j1.trans k1, ?_, ?_⟩
              · show (match injs X mu u du (T + a.bt.length) with | (u, m) => match injs X mu v dv m with | (v, m') => (TV.fn g u v, m')).2 = _
                simp only [j2]; exact k2
              · show VR X R (match injs X mu u du (T + a.bt.length) with | (u, m) => match injs X mu v dv m with | (v, m') => (TV.fn g u v, m')).1 _
                simp only [j2]; exact .fn j3 k3 .nil
      · rw [if_neg hg] at h; cases h
    | _ => cases h
theorem ext1_ok (hs : SRel X r st sv) (hb : Br X sv n0 T mu A r R) (hX : XOk X) : ∀ (n : Nat) (d : Ds), SizeOf.sizeOf d ≤ n → Ok1 X st n0 T mu A r R d := by
  intro n
  induction n with
  | zero => intro d hd; cases d <;> simp at hd
  | succ n ih =>
    intro d hd
    have hmem : ∀ (ds : List Ds), SizeOf.sizeOf ds ≤ n → Oks X st n0 T mu A r R ds := fun ds hl => exts_of ds fun e he => ih e (by have := List.sizeOf_lt_of_mem he; omega)
    cases d with
    | any  => exact ok1_any hs hb hX 
    | int k => exact ok1_int hs hb hX k
    | bool  => exact ok1_bool hs hb hX 
    | str  => exact ok1_str hs hb hX 
    | row t own => exact ok1_row hs hb hX t own
    | optp t => exact ok1_optp hs hb hX t
    | eptr t => exact ok1_eptr hs hb hX t
    | ptr j off => exact ok1_ptr hs hb hX j off
    | ref t j => exact ok1_ref hs hb hX t j
    | agg ds => exact ok1_agg hs hb hX ds (hmem ds (by simp at hd; omega))
    | sct t => exact ok1_sct hs hb hX t
    | nilp  => exact ok1_nilp hs hb hX 
    | nils  => exact ok1_nils hs hb hX 
    | nili  => exact ok1_nili hs hb hX 
    | fn g u v => exact ok1_fn hs hb hX g u v (hmem u (by simp at hd; omega)) (hmem v (by simp at hd; omega))
theorem exts_ok (hs : SRel X r st sv) (hb : Br X sv n0 T mu A r R) (hX : XOk X) (ds : List Ds) : Oks X st n0 T mu A r R ds := exts_of ds fun d _ => ext1_ok hs hb hX _ d (Nat.le_refl _)
end ext
end Go.Proofs.YtlkaoiceehlkmaaTE

namespace Go.Proofs.YtlkaoiceehlkmaaTE
open Go Go.Proofs.YtlkaoiceehlkmaaVE
set_option linter.unusedVariables false
set_option linter.unusedSimpArgs false

/-- What of a state stays. -/
structure TFr {A : TypeId → Type} (s t : TS A) : Prop where
  len : s.locs.length ≤ t.locs.length
  next : s.next ≤ t.next
  wrote : ∀ l ∈ s.wrote, l ∈ t.wrote
  same : ∀ l, l < s.locs.length → l ∉ t.wrote → tloc t l = tloc s l
  live : ∀ u ∈ t.live, u < s.next → u ∈ s.live
theorem TFr.refl {A : TypeId → Type} (s : TS A) : TFr s s := ⟨Nat.le_refl _, Nat.le_refl _, fun _ h => h, fun _ _ _ => rfl, fun _ h _ => h⟩
theorem TFr.trans {A : TypeId → Type} {a b c : TS A} (h : TFr a b) (k : TFr b c) : TFr a c :=
  ⟨Nat.le_trans h.len k.len, Nat.le_trans h.next k.next, fun l hl => k.wrote l (h.wrote l hl), fun l hl hn => (k.same l (Nat.lt_of_lt_of_le hl h.len) hn).trans (h.same l hl fun hm => hn (k.wrote l hm)), fun u hu hl => h.live u (k.live u hu (Nat.lt_of_lt_of_le hl h.next)) hl⟩
theorem tloc_lt {A : TypeId → Type} {s : TS A} {l : Nat} {c : TL A} (h : tloc s l = some c) : l < s.locs.length := by
  unfold tloc at h
  rcases Nat.lt_or_ge l s.locs.length with hl | hl
  · exact hl
  · simp [List.getElem?_eq_none hl] at h
theorem tloc_new_old {A : TypeId → Type} {s : TS A} {c : TL A} {l : Nat} (h : l < s.locs.length) : tloc (newL s c) l = tloc s l := by
  unfold tloc newL
  rw [List.getElem?_append_left h]
theorem tloc_new_new {A : TypeId → Type} (s : TS A) (c : TL A) : tloc (newL s c) s.locs.length = some c := by
  unfold tloc newL
  simp
theorem tloc_new {A : TypeId → Type} {s : TS A} {c d : TL A} {l : Nat} (h : tloc (newL s c) l = some d) : (l < s.locs.length ∧ tloc s l = some d) ∨ (l = s.locs.length ∧ d = c) := by
  rcases Nat.lt_trichotomy l s.locs.length with hl | hl | hl
  · rw [tloc_new_old hl] at h; exact .inl ⟨hl, h⟩
  · subst hl; rw [tloc_new_new] at h; exact .inr ⟨rfl, by simpa using h.symm⟩
  · have := tloc_lt h
    unfold newL at this
    simp at this
    omega
theorem tloc_set {A : TypeId → Type} {s : TS A} {o : Option (TL A)} {l k : Nat} : tloc { s with locs := s.locs.set l o } k = if l = k ∧ l < s.locs.length then o else tloc s k := by
  unfold tloc
  rw [List.getElem?_set]
  split
  · rename_i h
    subst h
    split
    · rename_i hl; simp [hl]
    · rename_i hl
      rw [List.getElem?_eq_none (by omega), if_neg (by omega)]
  · rename_i h
    rw [if_neg (by rintro ⟨rfl, _⟩; exact h rfl)]
theorem locAt_setO {st : St} {o : Option (List PV)} {l k : Nat} : locAt { st with locs := st.locs.set l o } k = if l = k ∧ l < st.locs.length then o else locAt st k := by
  unfold locAt
  rw [List.getElem?_set]
  split
  · rename_i h
    subst h
    split
    · rename_i hl; simp [hl]
    · rename_i hl
      rw [List.getElem?_eq_none (by omega), if_neg (by omega)]
  · rename_i h
    rw [if_neg (by rintro ⟨rfl, _⟩; exact h rfl)]

/-- And nothing more is frozen. -/
structure ExtK (r r' : Rn) : Prop extends Ext r r' where
  same : r'.fz = r.fz
theorem ExtK.refl (r : Rn) : ExtK r r := ⟨Ext.refl r, rfl⟩
theorem ExtK.trans {a b c : Rn} (h : ExtK a b) (k : ExtK b c) : ExtK a c := ⟨h.toExt.trans k.toExt, k.same.trans h.same⟩
section upd
variable {X : TX} {r : Rn} {s : TS X.A} {v : St}
/-- The relation with one more location. -/
def Rn.loc (r : Rn) (o : Option Nat) : Rn := { r with lo := fun l => if l = r.nl then some o else r.lo l, nl := r.nl + 1 }
theorem Ext.loc (r : Rn) (o : Option Nat) : Ext r (r.loc o) := ⟨by simp [Rn.loc], Nat.le_refl _, fun l hl => by simp only [Rn.loc]; rw [if_neg (by omega)], fun _ _ => rfl, fun _ _ h => h, rfl, rfl⟩
theorem ExtK.loc (r : Rn) (o : Option Nat) : ExtK r (r.loc o) := ⟨Ext.loc r o, rfl⟩
theorem SRel.newLoc (h : SRel X r s v) {c : TL X.A} {cs : List PV} (hc : LocR X r c cs) : SRel X (r.loc (some v.locs.length)) (newL s c) (YtlkaoiceehlkmaaVE.newLoc v cs) := by
  have he := Ext.loc r (some v.locs.length)
  have lo : ∀ l x, (r.loc (some v.locs.length)).lo l = some x → (l = r.nl ∧ x = some v.locs.length) ∨ (l < r.nl ∧ r.lo l = some x) := fun l x hx => by
    simp only [Rn.loc] at hx
    split at hx
    · rename_i e; simp only [Option.some.injEq] at hx; exact .inl ⟨e, hx.symm⟩
    · exact .inr ⟨h.wf.lo _ _ hx, hx⟩
  refine ⟨⟨fun l x hx => ?_, fun t u hu => h.wf.to t u hu⟩, ?_, h.nt, fun l d hd => ?_, fun a b k i1 i2 ha hb => ?_, fun k ds hk => ?_, h.live, h.tinj, h.lt, h.fo, h.vlt, fun k ds hk => ?_⟩
  · rcases lo l x hx with ⟨rfl, _⟩ | ⟨h1, _⟩
    · simp [Rn.loc]
    · simp [Rn.loc]; omega
  · simp [Rn.loc, newL, h.nl]
  · rcases tloc_new hd with ⟨h1, h2⟩ | ⟨rfl, rfl⟩
    · rcases h.loc l d h2 with ⟨k, cs', h3, h4, h5⟩ | ⟨h3, h4⟩
      · exact .inl ⟨k, cs', (he.lo l (by rw [h.nl]; exact h1)).trans h3, by rw [locAt_newLoc_old (locAt_lt h4)]; exact h4, h5.mono h.wf he⟩
      · exact .inr ⟨(he.lo l (by rw [h.nl]; exact h1)).trans h3, h4⟩
    · exact .inl ⟨v.locs.length, cs, by simp [Rn.loc, h.nl], locAt_newLoc_new v cs, hc.mono h.wf he⟩
  · rcases lo a _ ha with ⟨rfl, e⟩ | ⟨h1, h2⟩ <;> rcases lo b _ hb with ⟨rfl, e'⟩ | ⟨h3, h4⟩
    · rfl
    · simp only [Option.some.injEq] at e; subst e; have := h.rng (by rwa [tloc_new_old (by rw [← h.nl]; exact h3)] at i2) h4; omega
    · simp only [Option.some.injEq] at e'; subst e'; have := h.rng (by rwa [tloc_new_old (by rw [← h.nl]; exact h1)] at i1) h2; omega
    · refine h.inj a b k ?_ ?_ h2 h4
      · rwa [tloc_new_old (by rw [← h.nl]; exact h1)] at i1
      · rwa [tloc_new_old (by rw [← h.nl]; exact h3)] at i2
  · obtain ⟨h1, h2, h5⟩ := h.fz k ds hk
    refine ⟨by rw [locAt_newLoc_old (locAt_lt h1)]; exact h1, fun l hlv hl => ?_, h5⟩
    rcases lo l _ hl with ⟨rfl, e⟩ | ⟨h3, h4⟩
    · simp only [Option.some.injEq] at e; subst e; have := locAt_lt h1; omega
    · exact h2 l (by rwa [tloc_new_old (by rw [← h.nl]; exact h3)] at hlv) h4
  · obtain ⟨h1, h2, h5⟩ := h.fr k ds hk
    have hk3 : k < v.locs.length := h1.elim locAt_lt locAt_lt
    refine ⟨by rw [locAt_newLoc_old hk3]; exact h1, fun l hlv hl => ?_, h5⟩
    rcases lo l _ hl with ⟨rfl, e⟩ | ⟨h3, h4⟩
    · simp only [Option.some.injEq] at e; subst e; omega
    · exact h2 l (by rwa [tloc_new_old (by rw [← h.nl]; exact h3)] at hlv) h4
theorem SRel.newNil (h : SRel X r s v) {t : TypeId} {n : Nat} (hn : X.wd t = some n) : SRel X (r.loc none) (newL s (.arr t [])) v := by
  have he := Ext.loc r none
  have lo : ∀ l x, (r.loc none).lo l = some x → (l = r.nl ∧ x = none) ∨ (l < r.nl ∧ r.lo l = some x) := fun l x hx => by
    simp only [Rn.loc] at hx
    split at hx
    · rename_i e; simp only [Option.some.injEq] at hx; exact .inl ⟨e, hx.symm⟩
    · exact .inr ⟨h.wf.lo _ _ hx, hx⟩
  refine ⟨⟨fun l x hx => ?_, fun t u hu => h.wf.to t u hu⟩, ?_, h.nt, fun l d hd => ?_, fun a b k i1 i2 ha hb => ?_, fun k ds hk => ?_, h.live, h.tinj, h.lt, h.fo, h.vlt, fun k ds hk => ?_⟩
  · rcases lo l x hx with ⟨rfl, _⟩ | ⟨h1, _⟩
    · simp [Rn.loc]
    · simp [Rn.loc]; omega
  · simp [Rn.loc, newL, h.nl]
  · rcases tloc_new hd with ⟨h1, h2⟩ | ⟨rfl, rfl⟩
    · rcases h.loc l d h2 with ⟨k, cs', h3, h4, h5⟩ | ⟨h3, h4⟩
      · exact .inl ⟨k, cs', (he.lo l (by rw [h.nl]; exact h1)).trans h3, h4, h5.mono h.wf he⟩
      · exact .inr ⟨(he.lo l (by rw [h.nl]; exact h1)).trans h3, h4⟩
    · exact .inr ⟨by simp [Rn.loc, h.nl], t, n, hn, rfl⟩
  · rcases lo a _ ha with ⟨_, e⟩ | ⟨h1, h2⟩
    · cases e
    · rcases lo b _ hb with ⟨_, e'⟩ | ⟨h3, h4⟩
      · cases e'
      · exact h.inj a b k (by rwa [tloc_new_old (by rw [← h.nl]; exact h1)] at i1) (by rwa [tloc_new_old (by rw [← h.nl]; exact h3)] at i2) h2 h4
  · obtain ⟨h1, h2, h5⟩ := h.fz k ds hk
    refine ⟨h1, fun l hlv hl => ?_, h5⟩
    rcases lo l _ hl with ⟨_, e⟩ | ⟨h3, h4⟩
    · cases e
    · exact h2 l (by rwa [tloc_new_old (by rw [← h.nl]; exact h3)] at hlv) h4
  · obtain ⟨h1, h2, h5⟩ := h.fr k ds hk
    refine ⟨h1, fun l hlv hl => ?_, h5⟩
    rcases lo l _ hl with ⟨_, e⟩ | ⟨h3, h4⟩
    · cases e
    · exact h2 l (by rwa [tloc_new_old (by rw [← h.nl]; exact h3)] at hlv) h4
/-- A location's content turns, on both sides. -/
theorem SRel.setLoc (h : SRel X r s v) {l k : Nat} {c : TL X.A} {cs : List PV} (hl : (tloc s l).isSome = true) (hk : r.lo l = some (some k)) (hc : LocR X r c cs) : SRel X r (setL s l c) { v with locs := v.locs.set k (some cs) } := by
  obtain ⟨c0, hc0⟩ := Option.isSome_iff_exists.1 hl
  have hlt := tloc_lt hc0
  have hkl := h.rng hl hk
  have ht : ∀ m, tloc (setL s l c) m = if l = m ∧ l < s.locs.length then some c else tloc s m := fun m => tloc_set
  refine ⟨h.wf, by rw [h.nl]; simp [setL], h.nt, fun m d hd => ?_, fun a b i i1 i2 ha hb => ?_, fun i ds hi => ?_, h.live, h.tinj, h.lt, h.fo, h.vlt, fun i ds hi => ?_⟩
  · rw [ht] at hd
    split at hd
    · rename_i e
      obtain ⟨rfl, _⟩ := e
      simp only [Option.some.injEq] at hd
      subst hd
      exact .inl ⟨k, cs, hk, by rw [locAt_setO, if_pos ⟨rfl, hkl⟩], hc⟩
    · rename_i e
      rcases h.loc m d hd with ⟨k', cs', h3, h4, h5⟩ | h3
      · refine .inl ⟨k', cs', h3, ?_, h5⟩
        rw [locAt_setO, if_neg ?_]
        · exact h4
        · rintro ⟨rfl, _⟩
          have := h.inj l m k hl (by rw [hd]; rfl) hk h3
          exact e ⟨this, hlt⟩
      · exact .inr h3
  · refine h.inj a b i ?_ ?_ ha hb
    · rw [ht] at i1
      split at i1
      · rename_i e; obtain ⟨rfl, _⟩ := e; exact hl
      · exact i1
    · rw [ht] at i2
      split at i2
      · rename_i e; obtain ⟨rfl, _⟩ := e; exact hl
      · exact i2
  · obtain ⟨h1, h2, h5⟩ := h.fz i ds hi
    refine ⟨?_, fun m hm => h2 m ?_, h5⟩
    · rw [locAt_setO, if_neg (by rintro ⟨rfl, _⟩; exact h2 l hl hk)]
      exact h1
    · rw [ht] at hm
      split at hm
      · rename_i e; obtain ⟨rfl, _⟩ := e; exact hl
      · exact hm
  · obtain ⟨h1, h2, h5⟩ := h.fr i ds hi
    refine ⟨?_, fun m hm => h2 m ?_, h5⟩
    · rw [locAt_setO, if_neg (by rintro ⟨rfl, _⟩; exact h2 l hl hk)]
      exact h1
    · rw [ht] at hm
      split at hm
      · rename_i e; obtain ⟨rfl, _⟩ := e; exact hl
      · exact hm
/-- A location is given up. -/
theorem SRel.kill (h : SRel X r s v) (l : Nat) (w : List Nat) : SRel X r { s with locs := s.locs.set l none, wrote := w } v := by
  have ht : ∀ m, tloc ({ s with locs := s.locs.set l none, wrote := w } : TS X.A) m = if l = m ∧ l < s.locs.length then none else tloc s m := fun m => tloc_set
  refine ⟨h.wf, by rw [h.nl]; simp, h.nt, fun m d hd => ?_, fun a b i i1 i2 ha hb => ?_, fun i ds hi => ⟨(h.fz i ds hi).1, fun m hm => (h.fz i ds hi).2.1 m (by rw [ht] at hm; split at hm; cases hm; exact hm), (h.fz i ds hi).2.2⟩, h.live, h.tinj, h.lt, h.fo, h.vlt, fun i ds hi => ⟨(h.fr i ds hi).1, fun m hm => (h.fr i ds hi).2.1 m (by rw [ht] at hm; split at hm; cases hm; exact hm), (h.fr i ds hi).2.2⟩⟩
  · rw [ht] at hd
    split at hd
    · cases hd
    · exact h.loc m d hd
  · refine h.inj a b i ?_ ?_ ha hb
    · rw [ht] at i1
      split at i1
      · cases i1
      · exact i1
    · rw [ht] at i2
      split at i2
      · cases i2
      · exact i2
/-- A location is given up on both sides. -/
theorem SRel.kill2 (h : SRel X r s v) {l k : Nat} (w : List Nat) (hl : (tloc s l).isSome = true) (hk : r.lo l = some (some k)) : SRel X r { s with locs := s.locs.set l none, wrote := w } { v with locs := v.locs.set k none } := by
  obtain ⟨c0, hc0⟩ := Option.isSome_iff_exists.1 hl
  have hlt := tloc_lt hc0
  have h' := h.kill l w
  have ht : ∀ m, tloc ({ s with locs := s.locs.set l none, wrote := w } : TS X.A) m = if l = m ∧ l < s.locs.length then none else tloc s m := fun m => tloc_set
  refine ⟨h'.wf, h'.nl, h'.nt, fun m d hd => ?_, h'.inj, fun i ds hi => ?_, h.live, h.tinj, h.lt, h.fo, h.vlt, fun i ds hi => ?_⟩
  · rcases h'.loc m d hd with ⟨k', cs', h3, h4, h5⟩ | h3
    · refine .inl ⟨k', cs', h3, ?_, h5⟩
      rw [locAt_setO, if_neg ?_]
      · exact h4
      · rintro ⟨rfl, _⟩
        rw [ht] at hd
        split at hd
        · cases hd
        · rename_i e
          exact e ⟨h.inj l m k hl (by rw [hd]; rfl) hk h3, hlt⟩
    · exact .inr h3
  · obtain ⟨h1, h2, h5⟩ := h.fz i ds hi
    refine ⟨?_, (h'.fz i ds hi).2.1, h5⟩
    rw [locAt_setO, if_neg (by rintro ⟨rfl, _⟩; exact h2 l hl hk)]
    exact h1
  · obtain ⟨h1, h2, h5⟩ := h.fr i ds hi
    refine ⟨?_, (h'.fr i ds hi).2.1, h5⟩
    rw [locAt_setO, if_neg (by rintro ⟨rfl, _⟩; exact h2 l hl hk)]
    exact h1
/-- One more token; of elder ones those in 'keep' live on. -/
def Rn.tok (r : Rn) (o : Option Nat) : Rn := { r with to := fun t => if t = r.nt then o else r.to t, nt := r.nt + 1 }
theorem Ext.tok (r : Rn) (o : Option Nat) : Ext r (r.tok o) := ⟨Nat.le_refl _, by simp [Rn.tok], fun _ _ => rfl, fun t ht => by simp only [Rn.tok]; rw [if_neg (by omega)], fun _ _ h => h, rfl, rfl⟩
theorem ExtK.tok (r : Rn) (o : Option Nat) : ExtK r (r.tok o) := ⟨Ext.tok r o, rfl⟩
theorem SRel.tok (h : SRel X r s v) {s' : TS X.A} {v' : St} {o : Option Nat} (e1 : s'.locs = s.locs) (e2 : v'.locs = v.locs) (e3 : s'.next = s.next + 1) (e4 : v.next ≤ v'.next)
    (hl : ∀ t ∈ s'.live, t = s.next ∨ t ∈ s.live) (ho : ∀ u, o = some u → u ∈ v'.live ∧ ¬ r.fo u ∧ ∀ t ∈ s'.live, t ∈ s.live → r.to t ≠ some u)
    (hk : ∀ t ∈ s'.live, t ∈ s.live → ∀ u, r.to t = some u → u ∈ v'.live) (hf : ∀ u, r.fo u → u ∈ v'.live) (hv : ∀ u ∈ v'.live, u < v'.next) : SRel X (r.tok o) s' v' := by
  have he := Ext.tok r o
  have to : ∀ t u, (r.tok o).to t = some u → (t = r.nt ∧ o = some u) ∨ (t < r.nt ∧ r.to t = some u) := fun t u hu => by
    simp only [Rn.tok] at hu
    split at hu
    · rename_i e; exact .inl ⟨e, hu⟩
    · exact .inr ⟨h.wf.to _ _ hu, hu⟩
  have tl : ∀ l, tloc s' l = tloc s l := fun l => by unfold tloc; rw [e1]
  have vl : ∀ l, locAt v' l = locAt v l := fun l => by unfold locAt; rw [e2]
  refine ⟨⟨fun l x hx => h.wf.lo l x hx, fun t u hu => ?_⟩, by rw [e1]; exact h.nl, by rw [e3, ← h.nt]; rfl, fun l c hc => ?_, fun a b k i1 i2 => ?_, fun k cs hk => by rw [vl]; exact ⟨(h.fz k cs hk).1, fun m hm => (h.fz k cs hk).2.1 m (by rwa [tl] at hm), (h.fz k cs hk).2.2⟩, fun t u ht hu => ?_, fun a b u ha hb hau hbu => ?_, fun t ht => ?_, hf, hv, fun k cs hk => by rw [vl]; exact ⟨(h.fr k cs hk).1, fun m hm => (h.fr k cs hk).2.1 m (by rwa [tl] at hm), (h.fr k cs hk).2.2⟩⟩
  · rcases to t u hu with ⟨rfl, _⟩ | ⟨h1, _⟩ <;> simp [Rn.tok]; omega
  · rw [tl] at hc
    rcases h.loc l c hc with ⟨k, cs', h3, h4, h5⟩ | h3
    · exact .inl ⟨k, cs', h3, by rw [vl]; exact h4, h5.mono h.wf he⟩
    · exact .inr h3
  · rw [tl] at i1 i2; exact h.inj a b k i1 i2
  · rcases to t u hu with ⟨rfl, h1⟩ | ⟨h1, h2⟩
    · exact ⟨(ho u h1).1, (ho u h1).2.1⟩
    · have hm : t ∈ s.live := by
        rcases hl t ht with h3 | h3
        · rw [h.nt] at h1; omega
        · exact h3
      exact ⟨hk t ht hm u h2, (h.live t u hm h2).2⟩
  · have mem : ∀ t, t < r.nt → t ∈ s'.live → t ∈ s.live := fun t h1 ht => by
      rcases hl t ht with h3 | h3
      · rw [h.nt] at h1; omega
      · exact h3
    rcases to a u hau with ⟨rfl, h1⟩ | ⟨h1, h2⟩ <;> rcases to b u hbu with ⟨rfl, h3⟩ | ⟨h3, h4⟩
    · rfl
    · exact absurd h4 ((ho u h1).2.2 b hb (mem b h3 hb))
    · exact absurd h2 ((ho u h3).2.2 a ha (mem a h1 ha))
    · exact h.tinj a b u (mem a h1 ha) (mem b h3 hb) h2 h4
  · rw [e3]
    rcases hl t ht with rfl | h1
    · omega
    · have := h.lt t h1; omega
end upd
end Go.Proofs.YtlkaoiceehlkmaaTE

namespace Go.Proofs.YtlkaoiceehlkmaaTE
open Go Go.Proofs.YtlkaoiceehlkmaaVE
set_option linter.unusedVariables false
set_option linter.unusedSimpArgs false

section comb
variable {α β : Type}
theorem oK_some {x : Option β} {f : β → Option α} {a : α} (h : oK x f = some a) : ∃ b, x = some b ∧ f b = some a := by
  unfold oK at h; split at h
  · exact ⟨_, rfl, h⟩
  · cases h
theorem cK_some {x : Option β} {f : β → Option α} {a : α} (h : cK x f = some a) : ∃ b, x = some b ∧ f b = some a := by
  unfold cK at h; split at h
  · exact ⟨_, rfl, h⟩
  · cases h
theorem dK_some {b : Bool} {x : Option α} {a : α} (h : dK b x = some a) : b = true ∧ x = some a := by
  unfold dK at h; split at h
  · exact ⟨rfl, h⟩
  · cases h
theorem bK_some {b : Bool} {x y : Option α} {a : α} (h : bK b x y = some a) : (b = true ∧ x = some a) ∨ (b = false ∧ y = some a) := by
  unfold bK at h; split at h
  · exact .inl ⟨rfl, h⟩
  · exact .inr ⟨rfl, h⟩
theorem gK_some {b : Bool} {x : Option α} {a : α} (h : bK b x none = some a) : b = true ∧ x = some a := by
  rcases bK_some h with h | ⟨_, h⟩
  · exact h
  · cases h
end comb

section vals
variable {X : TX} {r : Rn} {s : TS X.A} {v : St}
theorem str_eta (s : ByteArray) : (⟨s.data.toList.toArray⟩ : ByteArray) = s := rfl
theorem VR.ofT (x : Value) : VR X r (ofT x) (ofC x) := by
  cases x with
  | bool b => exact .bool .nil
  | int k n => exact .int .nil
  | string s => exact .str .nil
  | slice a l c =>
    cases a with
    | none =>
      cases l with
      | zero =>
        cases c with
        | zero => exact .cst (.inr ⟨rfl, rfl⟩) .nil
        | succ c => exact .any .nil
      | succ l => cases c <;> exact .any .nil
    | some a => cases l <;> cases c <;> exact .any .nil
  | pointer a =>
    cases a with
    | none => exact .cst (.inl ⟨rfl, rfl⟩) .nil
    | some a => exact .any .nil
  | map a =>
    cases a with
    | none => exact .cst (.inl ⟨rfl, rfl⟩) .nil
    | some a => exact .any .nil
  | nilFunc => exact .cst (.inl ⟨rfl, rfl⟩) .nil
  | nilIface => exact .cst (.inl ⟨rfl, rfl⟩) .nil
  | tuple vs =>
    by_cases h : vs.isEmpty = true
    · have e1 : YtlkaoiceehlkmaaTE.ofT (A := X.A) (.tuple vs) = .cst (.tuple vs) := by simp [YtlkaoiceehlkmaaTE.ofT, flat, h]
      have e2 : YtlkaoiceehlkmaaVE.ofC (.tuple vs) = .v (.tuple vs) := by simp [YtlkaoiceehlkmaaVE.ofC, flat, h]
      rw [e1, e2]
      exact .cst (.inl ⟨by simp [flat, h], rfl⟩) .nil
    · have e1 : YtlkaoiceehlkmaaTE.ofT (A := X.A) (.tuple vs) = .any := by simp [YtlkaoiceehlkmaaTE.ofT, flat, h]
      rw [e1]
      exact .any .nil
  | float k b => exact .any .nil
  | complex k a b => exact .any .nil
  | chan a => exact .any .nil
  | func f a b => exact .any .nil
  | iface t x => exact .any .nil
  | agg cs => exact .any .nil
theorem VRs.ev {tm : List (TV X.A)} {tm' : List PV} (h : VRs X r tm tm') (o : Operand) : VR X r (TV.ev tm o) (PV.ev tm' o) := by
  cases o with
  | tmp t => exact h.getD t
  | const x => exact VR.ofT x
  | global g => exact .any .nil
  | func f => exact .fn .nil .nil .nil
theorem VRs.evs {tm : List (TV X.A)} {tm' : List PV} (h : VRs X r tm tm') : ∀ l : List Operand, VRs X r (l.map (TV.ev tm)) (l.map (PV.ev tm'))
  | [] => .nil
  | x :: l => VRs.cons (h.ev x) (VRs.evs h l)
theorem VRs.ones {ps : List (TV X.A)} {qs : List PV} (h : VRs X r ps qs) : ps.all oneT = true → qs.all PV.one = true := by
  induction h with
  | nil => exact fun _ => rfl
  | cst hc _ ih =>
    intro hp
    rw [List.all_cons, Bool.and_eq_true] at hp ⊢
    refine ⟨?_, ih hp.2⟩
    rcases hc with ⟨h1, rfl⟩ | ⟨rfl, rfl⟩
    · rename_i x _ _ _
      cases x <;> simp_all [flat, oneT, PV.one]
    · rfl
  | any _ _ => intro hp; simp [oneT] at hp
  | agg _ _ _ _ => intro hp; simp [oneT] at hp
  | tuple _ _ _ _ => intro hp; simp [oneT] at hp
  | yld _ _ _ _ => intro hp; simp [oneT] at hp
  | opts _ h1 _ _ ih =>
    intro hp
    rw [List.all_cons, Bool.and_eq_true] at hp ⊢
    refine ⟨?_, ih hp.2⟩
    cases h1 <;> rfl
  | bool _ ih => intro hp; rw [List.all_cons, Bool.and_eq_true] at hp ⊢; exact ⟨rfl, ih hp.2⟩
  | int _ ih => intro hp; rw [List.all_cons, Bool.and_eq_true] at hp ⊢; exact ⟨rfl, ih hp.2⟩
  | str _ ih => intro hp; rw [List.all_cons, Bool.and_eq_true] at hp ⊢; exact ⟨rfl, ih hp.2⟩
  | row _ _ _ _ _ _ _ ih => intro hp; rw [List.all_cons, Bool.and_eq_true] at hp ⊢; exact ⟨rfl, ih hp.2⟩
  | refn _ _ ih => intro hp; rw [List.all_cons, Bool.and_eq_true] at hp ⊢; exact ⟨rfl, ih hp.2⟩
  | ref _ _ _ ih => intro hp; rw [List.all_cons, Bool.and_eq_true] at hp ⊢; exact ⟨rfl, ih hp.2⟩
  | refe _ _ _ _ ih => intro hp; rw [List.all_cons, Bool.and_eq_true] at hp ⊢; exact ⟨rfl, ih hp.2⟩
  | ptr _ _ ih => intro hp; rw [List.all_cons, Bool.and_eq_true] at hp ⊢; exact ⟨rfl, ih hp.2⟩
  | aptr _ _ _ ih => intro hp; rw [List.all_cons, Bool.and_eq_true] at hp ⊢; exact ⟨rfl, ih hp.2⟩
  | iptr _ _ _ _ ih => intro hp; rw [List.all_cons, Bool.and_eq_true] at hp ⊢; exact ⟨rfl, ih hp.2⟩
  | eptr _ _ _ ih => intro hp; rw [List.all_cons, Bool.and_eq_true] at hp ⊢; exact ⟨rfl, ih hp.2⟩
  | eptrF _ _ _ _ _ _ ih => intro hp; rw [List.all_cons, Bool.and_eq_true] at hp ⊢; exact ⟨rfl, ih hp.2⟩
  | optn _ ih => intro hp; rw [List.all_cons, Bool.and_eq_true] at hp ⊢; exact ⟨rfl, ih hp.2⟩
  | nilt _ ih => intro hp; rw [List.all_cons, Bool.and_eq_true] at hp ⊢; exact ⟨rfl, ih hp.2⟩
  | nilf _ _ ih => intro hp; rw [List.all_cons, Bool.and_eq_true] at hp ⊢; exact ⟨rfl, ih hp.2⟩
  | fn _ _ _ _ _ ih => intro hp; rw [List.all_cons, Bool.and_eq_true] at hp ⊢; exact ⟨rfl, ih hp.2⟩
theorem plain_one {A : TypeId → Type} {wd : TypeId → Option Nat} {p : TV A} (h : plainC wd p = true) : oneT p = true := by
  cases p <;> simp_all [plainC, oneT]
theorem VRs.layOne (hX : XOk X) {t : TypeId} {n : Nat} (hn : X.wd t = some n) {a : X.A t} {qs : List PV} (h : VRs X r (X.lay t a) qs) : qs.all PV.one = true ∧ qs.length = n := by
  obtain ⟨_, _, _, h4⟩ := hX.wd t n hn
  refine ⟨h.ones ?_, by rw [← h.length]; exact (h4 a).1⟩
  rw [List.all_eq_true]
  intro p hp
  exact plain_one (List.all_eq_true.1 (h4 a).2 p hp)
/-- The cells of a value. -/
theorem VR.cells {p : TV X.A} {q : PV} (h : VR X r p q) (h1 : p.cells.all oneT = true) : VRs X r p.cells q.cells ∧ q.cells.all PV.one = true ∧ q.cells.length = p.cells.length := by
  have key : VRs X r p.cells q.cells := by
    cases h with
    | agg h _ => exact h
    | any _ => simp [TV.cells, oneT] at h1
    | tuple _ _ => simp [TV.cells, oneT] at h1
    | yld _ _ => simp [TV.cells, oneT] at h1
    | bool _ => exact .bool .nil
    | int _ => exact .int .nil
    | str _ => exact .str .nil
    | cst hc _ =>
      rcases hc with ⟨h2, rfl⟩ | ⟨rfl, rfl⟩
      · exact .cst (.inl ⟨h2, rfl⟩) .nil
      · exact .cst (.inr ⟨rfl, rfl⟩) .nil
    | row k1 k2 k3 k4 k5 _ => exact .row k1 k2 k3 k4 k5 .nil
    | refn k1 _ => exact .refn k1 .nil
    | ref k1 k2 _ => exact .ref k1 k2 .nil
    | refe k1 k2 k3 _ => exact .refe k1 k2 k3 .nil
    | ptr k1 _ => exact .ptr k1 .nil
    | aptr k1 k2 _ => exact .aptr k1 k2 .nil
    | iptr k1 k2 k3 _ => exact .iptr k1 k2 k3 .nil
    | eptr k1 _ => exact .eptr k1 .nil
    | eptrF k1 k2 k3 k4 _ => exact .eptrF k1 k2 k3 k4 .nil
    | optn _ => exact .optn .nil
    | opts k1 k2 _ =>
      cases k2 with
      | eptr k3 _ => exact .opts k1 (.eptr k3 .nil) .nil
      | eptrF k3 k4 k5 k6 _ => exact .opts k1 (.eptrF k3 k4 k5 k6 .nil) .nil
    | nilt _ => exact .nilt .nil
    | nilf k _ => exact .nilf k .nil
    | fn k1 k2 _ => exact .fn k1 k2 .nil
  exact ⟨key, key.ones h1, key.length.symm⟩
end vals

/-! Loads and stores. -/
section mem
variable {X : TX} {r : Rn} {s : TS X.A} {v : St}
theorem getC_ok {cs : List (TV X.A)} {off n : Nat} {ds : List (TV X.A)} {cs' : List PV} (h : getC cs off n = some ds) (hv : VRs X r cs cs') : off + n ≤ cs'.length ∧ VRs X r ds ((cs'.drop off).take n) ∧ ds.length = n := by
  unfold getC at h
  split at h
  · rename_i hl
    simp only [Option.some.injEq] at h
    subst h
    refine ⟨by rw [← hv.length]; exact hl, (hv.drop off).take n, ?_⟩
    simp; omega
  · cases h
theorem getC_pre {cs : List (TV X.A)} {n : Nat} {ds : List (TV X.A)} {c1 : List PV} (c2 : List PV) (h : getC cs 0 n = some ds) (hv : VRs X r cs c1) : n ≤ (c1 ++ c2).length ∧ VRs X r ds ((c1 ++ c2).take n) ∧ ds.length = n := by
  obtain ⟨h1, h2, h3⟩ := getC_ok h hv
  refine ⟨by simp; omega, ?_, h3⟩
  rw [List.take_append_of_le_length (by omega)]
  simpa using h2
theorem rd_eptr (hs : SRel X r s v) {cs ds : List (TV X.A)} {n : Nat} {q : PV} (hq : VR X r (.eptr cs) q) (h : getC cs 0 n = some ds) : ∃ ds', rdCells v n q = some ds' ∧ VRs X r ds ds' ∧ ds.length = n := by
  cases hq with
  | @eptr _ c1 c2 _ _ h1 _ =>
    obtain ⟨k1, k2, k3⟩ := getC_pre c2 h h1
    exact ⟨_, by simp only [rdCells]; rw [if_pos k1], k2, k3⟩
  | @eptrF _ c1 c2 k off es _ _ h1 h2 h3 h4 _ =>
    obtain ⟨k1, k2, k3⟩ := getC_pre c2 h h4
    rw [← h3] at k1 k2
    refine ⟨_, ?_, k2, k3⟩
    simp only [rdCells, (hs.fz _ _ h1).1]
    rw [if_pos (by rw [List.length_drop] at k1; omega)]
theorem flat_get {m : Nat} : ∀ {xs : List (List PV)} {i : Nat} {c : List PV}, (∀ d ∈ xs, d.length = m) → xs[i]? = some c → ∀ rest, (xs.flatten ++ rest).drop (i * m) = c ++ (xs.drop (i + 1)).flatten ++ rest
  | [], i, c, _, h, rest => by simp at h
  | d :: xs, 0, c, hl, h, rest => by simp at h; subst h; simp
  | d :: xs, i + 1, c, hl, h, rest => by
    simp only [List.getElem?_cons_succ] at h
    have h1 := flat_get (fun e he => hl e (List.mem_cons_of_mem _ he)) h rest
    have hd := hl d (List.mem_cons_self ..)
    rw [List.flatten_cons, List.append_assoc, show (i + 1) * m = d.length + i * m by rw [hd, Nat.succ_mul]; omega, ← List.drop_drop, List.drop_left]
    simpa using h1
theorem arr_get (hX : XOk X) {t : TypeId} {l : List (X.A t)} {cs : List PV} (h : LocR X r (.arr t l) cs) {i : Nat} {a : X.A t} (ha : l[i]? = some a) : ∃ (n : Nat) (xs : List (List PV)) (rest c : List PV), X.wd t = some n ∧ cs = xs.flatten ++ rest ∧ (∀ d ∈ xs, d.length = n) ∧ xs[i]? = some c ∧ VRs X r (X.lay t a) c ∧ cs.drop (i * n) = c ++ (xs.drop (i + 1)).flatten ++ rest ∧ l.length = xs.length ∧ ∀ (j : Nat) (b : X.A t) (d : List PV), l[j]? = some b → xs[j]? = some d → VRs X r (X.lay t b) d := by
  obtain ⟨n, xs, rest, h1, h2, h3, h4⟩ := h
  have hi := (List.getElem?_eq_some_iff.1 ha).1
  have hx : xs[i]? = some (xs[i]'(by omega)) := by simp [show i < xs.length by omega]
  have hlen : ∀ d ∈ xs, d.length = n := fun d hd => by
    obtain ⟨j, hj, rfl⟩ := List.mem_iff_getElem.1 hd
    have h5 : l[j]? = some (l[j]'(by omega)) := by simp [show j < l.length by omega]
    exact ((h4 j _ _ h5 (by simp [hj])).layOne hX h1).2
  exact ⟨n, xs, rest, _, h1, h2, hlen, hx, h4 i a _ ha hx, by rw [h2]; exact flat_get hlen hx rest, h3, h4⟩
theorem ints_ok : ∀ {cs : List (TV X.A)} {k : IntKind} {ns : List Int} {cs' : List PV}, intsOf cs = some (k, ns) → VRs X r cs cs' → cs = ns.map (TV.int k) ∧ cs' = ns.map (fun n => PV.v (.int k n))
  | [], k, ns, cs', h, hv => by simp [intsOf] at h
  | c :: cs, k, ns, cs', h, hv => by
    obtain ⟨q, qs, rfl, h1, h2⟩ := VRs.cons_iff.1 hv
    cases c with
    | int j n =>
      cases h1 with
      | int _ =>
        cases cs with
        | nil =>
          simp only [intsOf, Option.some.injEq, Prod.mk.injEq] at h
          obtain ⟨rfl, rfl⟩ := h
          rw [VRs.nil_iff] at h2
          subst h2
          exact ⟨rfl, rfl⟩
        | cons d ds =>
          have he : intsOf (.int j n :: d :: ds) = (match intsOf (d :: ds) with
            | some (i, ns) => if j = i then some (j, n :: ns) else none
            | none => none) := by cases d <;> rfl
          rw [he] at h
          split at h
          · rename_i i ms hi
            split at h
            · rename_i hji
              subst hji
              simp only [Option.some.injEq, Prod.mk.injEq] at h
              obtain ⟨rfl, rfl⟩ := h
              obtain ⟨e1, e2⟩ := ints_ok hi h2
              exact ⟨by rw [List.map_cons, ← e1], by rw [List.map_cons, ← e2]⟩
            · cases h
          · cases h
    | _ => simp [intsOf] at h
theorem nth_get {ns : List Int} {i : Int} {m : Nat} (h0 : 0 ≤ i) (h1 : i < m) (hm : ns.length = m) : ns[i.toNat]? = some (nth ns i) := by
  obtain ⟨j, rfl⟩ := Int.eq_ofNat_of_zero_le h0
  have hj : j < ns.length := by omega
  simp [nth, idx, hj]
theorem pack_ok {b : Bool} {cs : List (TV X.A)} {p : TV X.A} {cs' : List PV} {n : Nat} (h : packT b cs = some p) (hv : VRs X r cs cs') (hn : cs.length = n) :
    ∃ p', (if b then some (PV.agg cs') else if n = 1 then cs'.head? else none) = some p' ∧ VR X r p p' := by
  unfold packT at h
  cases b with
  | true =>
    simp only [if_true, Option.some.injEq] at h
    subst h
    exact ⟨_, rfl, .agg hv .nil⟩
  | false =>
    simp only [Bool.false_eq_true, if_false] at h ⊢
    split at h
    · rename_i c
      simp only [Option.some.injEq] at h
      subst h
      obtain ⟨q, qs, rfl, h1, h2⟩ := VRs.cons_iff.1 hv
      rw [if_pos (by rw [← hn]; rfl)]
      exact ⟨q, rfl, h1⟩
    · cases h
theorem load_ok {α : Type} {K : TV X.A → Option α} {x : α} (hX : XOk X) (hs : SRel X r s v) {t : TypeId} {a : TV X.A} {a' : PV} (ha : VR X r a a') (h : loadT X t a s K = some x) :
    ∃ p p', K p = some x ∧ evLoad X.C.P t a' v = some p' ∧ VR X r p p' := by
  unfold loadT at h
  obtain ⟨n, hn, h⟩ := cK_some h
  obtain ⟨hn0, h⟩ := dK_some h
  simp only [decide_eq_true_eq] at hn0
  obtain ⟨b, hb, h⟩ := cK_some h
  have fin : ∀ {ds : List (TV X.A)} {ds' : List PV}, ds.length = n → rdCells v n a' = some ds' → VRs X r ds ds' → cK (packT b ds) K = some x → ∃ p p', K p = some x ∧ evLoad X.C.P t a' v = some p' ∧ VR X r p p' := fun h1 h2 h3 h4 => by
    obtain ⟨p, hp, h5⟩ := cK_some h4
    obtain ⟨p', k1, k2⟩ := pack_ok hp h3 h1
    exact ⟨p, p', h5, by simp only [evLoad, hn, hb, h2]; exact k1, k2⟩
  cases a with
  | ptr l off =>
    obtain ⟨c, hc, h⟩ := cK_some h
    cases c with
    | cells cs =>
      obtain ⟨ds, hd, h⟩ := cK_some h
      cases ha with
      | ptr hl _ =>
        rcases hs.loc l _ hc with ⟨k, cs', h1, h2, h3⟩ | ⟨_, _, _, _, h3⟩
        · rw [hl] at h1
          simp only [Option.some.injEq] at h1
          subst h1
          obtain ⟨k1, k2, k3⟩ := getC_ok hd h3
          exact fin k3 (by simp only [rdCells, h2]; rw [if_pos k1]) k2 h
        · cases h3
    | arr _ _ => cases h
  | aptr u l i off =>
    obtain ⟨c, hc, h⟩ := cK_some h
    cases c with
    | cells _ => cases h
    | arr w rr =>
      obtain ⟨huw, h⟩ := dK_some h
      simp only [beq_iff_eq] at huw
      subst huw
      obtain ⟨y, hy, h⟩ := oK_some h
      obtain ⟨ds, hd, h⟩ := cK_some h
      cases ha with
      | @aptr _ m _ k _ _ _ _ hw hl _ =>
        rcases hs.loc l _ hc with ⟨k', cs', h1, h2, h3⟩ | ⟨h1, _⟩
        · rw [hl] at h1
          simp only [Option.some.injEq] at h1
          subst h1
          obtain ⟨m', xs, rest, c, e1, e2, e3, e4, e5, e6, _, _⟩ := arr_get hX h3 hy
          rw [hw] at e1
          simp only [Option.some.injEq] at e1
          subst e1
          obtain ⟨k1, k2, k3⟩ := getC_ok hd e5
          have hlen := congrArg List.length e6
          simp only [List.length_drop, List.length_append] at hlen
          refine fin (ds' := (c.drop off).take n) k3 ?_ k2 h
          have hc0 : c.length = m := e3 c (List.mem_of_getElem? e4)
          simp only [rdCells, h2]
          rw [if_pos (by omega), ← List.drop_drop, e6, List.append_assoc, List.drop_append_of_le_length (by omega), List.take_append_of_le_length (by rw [List.length_drop]; omega)]
        · rw [hl] at h1; cases h1
  | iptr l off m k i =>
    obtain ⟨c, hc, h⟩ := cK_some h
    cases c with
    | arr _ _ => cases h
    | cells cs =>
      obtain ⟨ds, hd, h⟩ := cK_some h
      obtain ⟨⟨k2, ns⟩, hi, h⟩ := cK_some h
      obtain ⟨hnb, h⟩ := dK_some h
      simp only [Bool.and_eq_true, beq_iff_eq, Bool.not_eq_true'] at hnb
      obtain ⟨rfl, rfl⟩ := hnb
      cases ha with
      | @iptr _ l' _ _ _ _ _ _ hl h0 h1 _ =>
        rcases hs.loc l _ hc with ⟨k', cs', e1, e2, e3⟩ | ⟨_, _, _, _, e3⟩
        · rw [hl] at e1
          simp only [Option.some.injEq] at e1
          subst e1
          obtain ⟨j1, j2, j3⟩ := getC_ok hd e3
          obtain ⟨i1, i2⟩ := ints_ok hi j2
          have hnl : ns.length = m := by rw [i1] at j3; simpa using j3
          have hget := nth_get h0 h1 hnl
          have hcell : cs'[off + i.toNat]? = some (.v (.int k2 (nth ns i))) := by
            have : ((cs'.drop off).take m)[i.toNat]? = some (.v (.int k2 (nth ns i))) := by rw [i2, List.getElem?_map, hget]; rfl
            rw [List.getElem?_take, if_pos (by omega), List.getElem?_drop] at this
            exact this
          have hlt := (List.getElem?_eq_some_iff.1 hcell).1
          refine ⟨_, .v (.int k2 (nth ns i)), h, ?_, .int .nil⟩
          simp only [evLoad, hn, hb, rdCells, e2]
          rw [if_pos (by omega)]
          simp only [Bool.false_eq_true, if_false, if_true]
          rw [List.head?_take, if_neg (by omega), List.head?_drop]
          exact hcell
        · cases e3
  | eptr cs =>
    obtain ⟨ds, hd, h⟩ := cK_some h
    obtain ⟨ds', k1, k2, k3⟩ := rd_eptr hs ha hd
    exact fin k3 k1 k2 h
  | optp u o =>
    obtain ⟨y, hy, h⟩ := oK_some h
    subst hy
    obtain ⟨ds, hd, h⟩ := cK_some h
    cases ha with
    | opts hw hq _ =>
      obtain ⟨ds', k1, k2, k3⟩ := rd_eptr hs hq hd
      exact fin k3 k1 k2 h
  | _ => cases h
theorem flat_set {m off : Nat} {ns : List PV} (hn : off + ns.length ≤ m) : ∀ {xs : List (List PV)} {i : Nat} {c : List PV}, (∀ d ∈ xs, d.length = m) → xs[i]? = some c → ∀ rest, setAt (xs.flatten ++ rest) (i * m + off) ns = (xs.set i (setAt c off ns)).flatten ++ rest
  | [], i, c, _, h, rest => by simp at h
  | d :: xs, 0, c, hl, h, rest => by
    simp only [List.getElem?_cons_zero, Option.some.injEq] at h
    subst h
    have hd := hl d (List.mem_cons_self ..)
    simp only [setAt, List.set_cons_zero, List.flatten_cons, Nat.zero_mul, Nat.zero_add, List.append_assoc]
    rw [List.take_append_of_le_length (by omega), List.drop_append_of_le_length (by omega)]
  | d :: xs, i + 1, c, hl, h, rest => by
    simp only [List.getElem?_cons_succ] at h
    have h1 := flat_set hn (fun e he => hl e (List.mem_cons_of_mem _ he)) h rest
    have hd := hl d (List.mem_cons_self ..)
    have e : (i + 1) * m + off = d.length + (i * m + off) := by rw [hd, Nat.succ_mul]; omega
    simp only [setAt, List.set_cons_succ, List.flatten_cons, List.append_assoc] at h1 ⊢
    rw [e, List.take_length_add_append, Nat.add_assoc, List.drop_length_add_append, List.append_assoc, h1]
theorem TFr.setL {s : TS X.A} (l : Nat) (c : TL X.A) : TFr s (setL s l c) :=
  ⟨by simp [YtlkaoiceehlkmaaTE.setL], Nat.le_refl _, fun _ h => List.mem_cons_of_mem _ h, fun m _ hm => by
    unfold YtlkaoiceehlkmaaTE.setL at hm ⊢
    simp only [List.mem_cons, not_or] at hm
    have := tloc_set (s := s) (o := some c) (l := l) (k := m)
    rw [if_neg (fun h => hm.1 h.1.symm)] at this
    exact this, fun _ h _ => h⟩
theorem ints_set {k : IntKind} {ns : List Int} {i : Int} {m : Nat} {y : Int} (hm : ns.length = m) : ((List.range m).map fun q => (TV.int k (nth (setN ns i y) (Int.ofNat q)) : TV X.A)) = (ns.set i.toNat y).map (TV.int k) := by
  apply List.ext_getElem?
  intro q
  rw [List.getElem?_map, List.getElem?_map]
  by_cases hq : q < m
  · rw [List.getElem?_range hq]
    have hl : q < (ns.set i.toNat y).length := by simp; omega
    rw [List.getElem?_eq_getElem hl]
    simp only [Option.map_some, nth, idx, setN]
    simp only [List.getElem?_eq_getElem hl, Option.getD_some]
  · rw [List.getElem?_eq_none (by simp; omega), List.getElem?_eq_none (by simp; omega)]
    rfl
theorem store_ok {α : Type} {K : TS X.A → Option α} {x : α} (hX : XOk X) (hs : SRel X r s v) {t : TypeId} {a p : TV X.A} {a' p' : PV} (ha : VR X r a a') (hp : VR X r p p') (h : storeT X t a p s K = some x) :
    ∃ s' v', K s' = some x ∧ evStore X.C.P ⟨0, none⟩ t a' p' v = some v' ∧ SRel X r s' v' ∧ TFr s s' := by
  unfold storeT at h
  obtain ⟨n, hn, h⟩ := cK_some h
  obtain ⟨h1, h⟩ := dK_some h
  simp only [Bool.and_eq_true, beq_iff_eq] at h1
  obtain ⟨hpn, hpo⟩ := h1
  obtain ⟨q1, q2, q3⟩ := hp.cells hpo
  rw [hpn] at q3
  cases a with
  | ptr l off =>
    obtain ⟨c, hc, h⟩ := cK_some h
    cases c with
    | arr _ _ => cases h
    | cells cs =>
      obtain ⟨hle, h⟩ := dK_some h
      simp only [decide_eq_true_eq] at hle
      cases ha with
      | ptr hl _ =>
        rcases hs.loc l _ hc with ⟨k, cs', h1, h2, h3⟩ | ⟨_, _, _, _, h3⟩
        · rw [hl] at h1
          simp only [Option.some.injEq] at h1
          subst h1
          have hcl := VRs.length h3
          refine ⟨_, _, h, ?_, hs.setLoc (by rw [hc]; rfl) hl (VRs.setC h3 q1 off), TFr.setL l _⟩
          simp only [evStore, hn, h2]
          rw [if_pos ⟨by simp [Wr.ok], q3, by omega, q2⟩]
        · cases h3
  | aptr u l i off =>
    obtain ⟨c, hc, h⟩ := cK_some h
    cases c with
    | cells _ => cases h
    | arr w rr =>
      obtain ⟨huw, h⟩ := dK_some h
      simp only [Bool.and_eq_true, beq_iff_eq] at huw
      obtain ⟨rfl, _⟩ := huw
      obtain ⟨y, hy, h⟩ := oK_some h
      obtain ⟨hle, h⟩ := dK_some h
      simp only [decide_eq_true_eq] at hle
      obtain ⟨z, hz, h⟩ := cK_some h
      cases ha with
      | @aptr _ m _ k _ _ _ _ hw hl _ =>
        rcases hs.loc l _ hc with ⟨k', cs', h1, h2, h3⟩ | ⟨h1, _⟩
        · rw [hl] at h1
          simp only [Option.some.injEq] at h1
          subst h1
          obtain ⟨m', xs, rest, c, e1, e2, e3, e4, e5, e6, e7, e8⟩ := arr_get hX h3 hy
          rw [hw] at e1
          simp only [Option.some.injEq] at e1
          subst e1
          have hc0 : c.length = m := e3 c (List.mem_of_getElem? e4)
          have hlay := e5.length
          have hfit : off + p'.cells.length ≤ m := by rw [q3]; omega
          have hset := flat_set hfit e3 e4 rest
          have hnew : VRs X r (X.lay u z) (setAt c off p'.cells) := hX.dec u m hw _ _ hz r _ (VRs.setC e5 q1 off)
          have hflen : i * m + off + n ≤ cs'.length := by
            have := congrArg List.length e6
            simp only [List.length_drop, List.length_append] at this
            rcases Nat.eq_zero_or_pos m with h0 | h0
            · have := (hX.wd u m hw).2.1; omega
            · omega
          refine ⟨_, _, h, ?_, hs.setLoc (cs := setAt cs' (i * m + off) p'.cells) (by rw [hc]; rfl) hl ⟨m, xs.set i (setAt c off p'.cells), rest, hw, by rw [e2, hset], ?_, fun j b d hb hd => ?_⟩, TFr.setL l _⟩
          · simp only [evStore, hn, h2]
            rw [if_pos ⟨by simp [Wr.ok], q3, hflen, q2⟩]
          · simp [e7]
          · rw [List.getElem?_set] at hb hd
            split at hb
            · rename_i hij
              subst hij
              rw [if_pos rfl] at hd
              split at hb
              · rename_i hil
                rw [if_pos (by omega)] at hd
                simp only [Option.some.injEq] at hb hd
                subst hb; subst hd
                exact hnew
              · cases hb
            · rename_i hij
              rw [if_neg hij] at hd
              exact e8 j b d hb hd
        · rw [hl] at h1; cases h1
  | iptr l off m k i =>
    obtain ⟨c, hc, h⟩ := cK_some h
    cases c with
    | arr _ _ => cases h
    | cells cs =>
      obtain ⟨ds, hd, h⟩ := cK_some h
      obtain ⟨⟨k2, ns⟩, hi, h⟩ := cK_some h
      cases p with
      | int j y =>
        obtain ⟨hj, hK⟩ := dK_some h
        clear h
        simp only [Bool.and_eq_true, beq_iff_eq] at hj
        obtain ⟨rfl, rfl⟩ := hj
        cases hp with
        | int _ =>
        cases ha with
        | @iptr _ l' _ _ _ _ _ _ hl h0 h1 _ =>
          rcases hs.loc l _ hc with ⟨k', cs', e1, e2, e3⟩ | ⟨_, _, _, _, e3⟩
          · rw [hl] at e1
            simp only [Option.some.injEq] at e1
            subst e1
            obtain ⟨j1, j2, j3⟩ := getC_ok hd e3
            obtain ⟨i1, i2⟩ := ints_ok hi j2
            have hnl : ns.length = m := by rw [i1] at j3; simpa using j3
            have hit : i.toNat < m := by omega
            have hnew : VRs X r (YtlkaoiceehlkmaaTE.setC cs off ((List.range m).map fun q => TV.int j (nth (setN ns i y) (Int.ofNat q)))) (setAt cs' (off + i.toNat) [PV.v (.int j y)]) := by
              have hrel : VRs X r ((ns.set i.toNat y).map (TV.int j)) ((ns.set i.toNat y).map fun n => PV.v (.int j n)) := by
                generalize ns.set i.toNat y = zs
                induction zs with
                | nil => exact .nil
                | cons z zs ih => exact .int ih
              rw [ints_set hnl]
              have e : setAt cs' (off + i.toNat) [PV.v (.int j y)] = setAt cs' off ((ns.set i.toNat y).map fun n => PV.v (.int j n)) := by
                have hsplit : cs' = cs'.take off ++ (ns.map fun n => PV.v (.int j n)) ++ cs'.drop (off + m) := by
                  rw [← i2, List.append_assoc, ← List.drop_drop, List.take_append_drop, List.take_append_drop]
                have ht : (cs'.take off).length = off := by rw [List.length_take]; omega
                simp only [setAt, List.length_map, List.length_set, hnl, List.length_singleton]
                have e1 : cs'.take (off + i.toNat) = cs'.take off ++ (ns.map fun n => PV.v (.int j n)).take i.toNat := by
                  rw [hsplit, List.append_assoc, List.take_append, ht]
                  simp only [Nat.add_sub_cancel_left]
                  rw [List.take_of_length_le (by omega), List.take_append_of_le_length (by simp; omega)]
                  simp [ht, List.take_append_of_le_length]
                have e2 : cs'.drop (off + i.toNat + 1) = (ns.map fun n => PV.v (.int j n)).drop (i.toNat + 1) ++ cs'.drop (off + m) := by
                  conv => lhs; rw [hsplit]
                  rw [List.append_assoc, Nat.add_assoc, List.drop_append, ht, List.drop_of_length_le (by omega), List.nil_append, Nat.add_sub_cancel_left, List.drop_append_of_le_length (by simp; omega)]
                rw [e1, e2, ← List.map_take, ← List.map_drop]
                have e3 : ns.set i.toNat y = ns.take i.toNat ++ [y] ++ ns.drop (i.toNat + 1) := by
                  rw [List.set_eq_take_append_cons_drop, if_pos (by omega)]; simp
                rw [e3]
                simp
              rw [e]
              exact VRs.setC e3 hrel off
            refine ⟨_, _, hK, ?_, hs.setLoc (by rw [hc]; rfl) hl hnew, TFr.setL l _⟩
            simp only [evStore, hn, e2]
            rw [if_pos ⟨by simp [Wr.ok], q3, by omega, q2⟩]
            rfl
          · cases e3
      | _ => cases h
  | _ => cases h
end mem
end Go.Proofs.YtlkaoiceehlkmaaTE
