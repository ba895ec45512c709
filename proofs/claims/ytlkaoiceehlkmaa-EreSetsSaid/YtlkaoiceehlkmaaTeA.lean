import Derived.Test.YtlkaoiceehlkmaaVeA
namespace Go.Proofs.YtlkaoiceehlkmaaTE
open Go Go.Proofs.YtlkaoiceehlkmaaVE
set_option linter.unusedVariables false
set_option linter.unusedSimpArgs false

/-! Typed values: rows are lists of plain Lean types, texts lists of bytes. -/

/-- What a row grants. -/
inductive TF where
  | sh
  | own (t : Nat)

inductive TV (A : TypeId → Type) where
  | any
  | bool (b : Bool)
  | int (k : IntKind) (n : Int)
  | str (s : List UInt8)
  | cst (x : Value)
  | row (t : TypeId) (l : List (A t)) (f : TF)
  | ref (t : TypeId) (l off len : Nat)
  | agg (cs : List (TV A))
  | ptr (l off : Nat)
  | aptr (t : TypeId) (l i off : Nat)
  | iptr (l off n : Nat) (k : IntKind) (i : Int)
  | eptr (cs : List (TV A))
  | optp (t : TypeId) (o : Option (A t))
  | nili (b : Bool)
  | fn (g : FuncId) (first cap : List (TV A))
  | tuple (vs : List (TV A))
  | yld (f : FuncId) (tm : List (TV A)) (ps : Array Tmp) (asg bd : Code)

/-- What is asked of a value, and what it is then as a plain type. -/
inductive Ds where
  | any
  | int (k : IntKind)
  | bool
  | str
  | row (t : TypeId) (own : Bool)
  | optp (t : TypeId)
  | eptr (t : TypeId)
  | ptr (j off : Nat)
  | ref (t : TypeId) (j : Nat)
  | agg (ds : List Ds)
  | sct (t : TypeId)
  | nilp
  | nils
  | nili
  | fn (g : FuncId) (a b : List Ds)

mutual
def Ds.den (A : TypeId → Type) : Ds → Type
  | .int _ => Int
  | .bool => Bool
  | .str => List UInt8
  | .row t _ => List (A t)
  | .optp t => Option (A t)
  | .eptr t => A t
  | .ref _ _ => Nat × Nat
  | .agg ds => dens A ds
  | .sct t => A t
  | .nili => Bool
  | .fn _ a b => dens A a × dens A b
  | .any => Unit
  | .ptr _ _ => Unit
  | .nilp => Unit
  | .nils => Unit
def dens (A : TypeId → Type) : List Ds → Type
  | [] => Unit
  | d :: ds => d.den A × dens A ds
end

/-- What lies at a location. -/
inductive TL (A : TypeId → Type) where
  | cells (cs : List (TV A))
  | arr (t : TypeId) (l : List (A t))

structure TS (A : TypeId → Type) where
  locs : List (Option (TL A))
  live : List Nat
  next : Nat
  wrote : List Nat

inductive Get where
  | tmp (t : Tmp)
  | loc (l : Nat)
  | new (i : Nat)

structure Shape where
  srcs : List (Get × Ds)
  dead : List Tmp

/-- A function of the table: what its arguments are (and what they lead to; of these locations the first `base` stay), what it answers (and what lies there then). -/
structure Entry (A : TypeId → Type) where
  ins : List (Get × Ds)
  base : Nat
  outs : List (Get × Ds)
  F : dens A (ins.map (·.2)) → Option (dens A (outs.map (·.2)))

structure TX where
  C : Cfg
  A : TypeId → Type
  lay : (t : TypeId) → A t → List (TV A)
  dec : (t : TypeId) → List (TV A) → Option (A t)
  wd : TypeId → Option Nat
  tab : FuncId → List (Entry A)
  loop : FuncId → Nat → Option Shape
  join : FuncId → Nat → Option Shape

/-! Steps that stay in what is told: an optional thing, a choice, a condition; steps that are reckoned away. -/
def oK {β : Type} {α : Type} (x : Option β) (f : β → Option α) : Option α := match x with
  | some b => f b
  | none => none
def bK {α : Type} (b : Bool) (x y : Option α) : Option α := match b with
  | true => x
  | false => y
/-- These lie above where ways meet, so that the kernel reckons them away first. -/
def hi1 : Unit := ()
def hi2 : Unit := hi1
def cK {β : Type} {α : Type} (x : Option β) (f : β → Option α) : Option α := (fun (_ : Unit) => match x with
  | some b => f b
  | none => none) hi2
def dK {α : Type} (b : Bool) (x : Option α) : Option α := (fun (_ : Unit) => match b with
  | true => x
  | false => none) hi2
/-- Round by round. -/
def fixN {V α : Type} (step : (V → Option α) → V → Option α) : Nat → V → Option α
  | 0, _ => none
  | n + 1, v => step (fixN step n) v
/-- Where ways meet. -/
def join {V α : Type} (f : V → Option α) (v : V) : Option α := f v
/-- Where ways meet, so wrapped that the kernel finds again what it has compared before (it asks for the same hash at first, but not behind a step). -/
inductive Box (V α : Type) where
  | mk (f : V → Option α)
def box {V α : Type} (f : V → Option α) : Box V α := .mk f
def joinB {V α : Type} (b : Box V α) (v : V) : Option α := match b with
  | .mk f => f v

def idx {β : Type} (l : List β) (i : Int) : Option β := match i with
  | .ofNat n => l[n]?
  | .negSucc _ => none
def nth (l : List Int) (i : Int) : Int := (idx l i).getD 0
def setN (l : List Int) (i x : Int) : List Int := l.set i.toNat x
def okSl (lo hi n : Int) : Bool := decide (0 ≤ lo) && decide (lo ≤ hi) && decide (hi ≤ n)
def slc {β : Type} (l : List β) (lo hi : Int) : List β := (l.drop lo.toNat).take (hi.toNat - lo.toNat)
def len {β : Type} (l : List β) : Int := l.length
def inR (i n : Int) : Bool := decide (0 ≤ i) && decide (i < n)
/-- So many elements may be. -/
def fits (b : Nat) (n : Nat) : Bool := decide (n * b ≤ 140737488355328) && decide (n ≤ 9223372036854775807)

section
variable {A : TypeId → Type}
def TV.cells : TV A → List (TV A)
  | .agg cs => cs
  | p => [p]
/-- May it lie in one cell? -/
def oneT : TV A → Bool
  | .any | .agg _ | .tuple _ | .yld .. => false
  | .cst (.tuple _) => false
  | _ => true
mutual
/-- No yield stands in it. -/
def nofT : TV A → Bool
  | .any | .yld .. | .eptr _ | .optp .. | .nili _ => false
  | .agg cs => nofTs cs
  | .fn _ a b => nofTs a && nofTs b
  | .tuple cs => nofTs cs
  | _ => true
def nofTs : List (TV A) → Bool
  | [] => true
  | c :: cs => nofT c && nofTs cs
end
def anyNof : TV A → Bool
  | .any => true
  | p => nofT p
/-- A value without parts. -/
def flatT : TV A → Bool
  | .bool _ | .int .. | .str _ => true
  | .cst (.slice none 0 0) => false
  | .cst _ => true
  | _ => false
mutual
/-- No location is led to. -/
def plainT : TV A → Bool
  | .bool _ | .int .. | .str _ | .row .. | .nili _ => true
  | .cst x => match x with
    | .slice none 0 0 | .nilIface | .pointer none | .nilFunc => true
    | _ => false
  | .agg cs => plainTs cs
  | _ => false
def plainTs : List (TV A) → Bool
  | [] => true
  | c :: cs => plainT c && plainTs cs
end
def ofT : Value → TV A
  | .bool b => .bool b
  | .int k n => .int k n
  | .string s => .str s.data.toList
  | .slice none 0 0 => .cst (.slice none 0 0)
  | x => if flat x then .cst x else .any
def TV.ev (tm : List (TV A)) : Operand → TV A
  | .tmp t => tm.getD t .any
  | .const x => ofT x
  | .global _ => .any
  | .func f => .fn f [] []
def tloc (st : TS A) (l : Nat) : Option (TL A) := (st.locs[l]?).join
def newL (st : TS A) (c : TL A) : TS A := { st with locs := st.locs ++ [some c] }
def setL (st : TS A) (l : Nat) (c : TL A) : TS A := { st with locs := st.locs.set l (some c), wrote := l :: st.wrote }
mutual
/-- The tokens that stand in a value. -/
def toks : TV A → List Nat
  | .row _ _ (.own t) => [t]
  | .agg cs => tokss cs
  | .fn _ a b => tokss a ++ tokss b
  | _ => []
def tokss : List (TV A) → List Nat
  | [] => []
  | c :: cs => toks c ++ tokss cs
end
def toksL : Option (TL A) → List Nat
  | some (.cells cs) => tokss cs
  | _ => []
def stNof (st : TS A) : Bool := st.locs.all fun o => match o with
  | some (.cells cs) => cs.all anyNof
  | _ => true
def contT : TL A → TV A
  | .cells cs => .agg cs
  | .arr t l => .row t l .sh
def intsOf : List (TV A) → Option (IntKind × List Int)
  | [] => none
  | [.int k n] => some (k, [n])
  | .int k n :: cs => match intsOf cs with
    | some (j, ns) => if k = j then some (k, n :: ns) else none
    | none => none
  | _ => none
def packT (b : Bool) (cs : List (TV A)) : Option (TV A) := if b then some (.agg cs) else match cs with
  | [c] => some c
  | _ => none
def setC (cs : List (TV A)) (off : Nat) (ns : List (TV A)) : List (TV A) := cs.take off ++ ns ++ cs.drop (off + ns.length)
/-- So many cells from one on. -/
def getC (cs : List (TV A)) (off n : Nat) : Option (List (TV A)) := if off + n ≤ cs.length then some ((cs.drop off).take n) else none

/-! Out of values, and back. -/
structure XA where
  bl : List (Option Nat)
  bt : List (Option Nat)
  fz : List Nat

def bindL (n0 j : Nat) (l : Option Nat) (a : XA) : Option XA :=
  if j < n0 then (if l = some j then some a else none) else
  if j < n0 + a.bl.length then (match l with
    | some l => if a.bl[j - n0]? = some (some l) then some a else none
    | none => none) else
  if j = n0 + a.bl.length then (match l with
    | some l => if n0 ≤ l ∧ ¬ (some l ∈ a.bl) then some { a with bl := a.bl ++ [some l] } else none
    | none => some { a with bl := a.bl ++ [none] }) else none
def ownX (st : TS A) (f : TF) (a : XA) : Option XA := match f with
  | .sh => none
  | .own u => if u ∈ st.live ∧ ¬ (some u ∈ a.bt) then some { a with bt := a.bt ++ [some u] } else none
def rowX (wd : TypeId → Option Nat) (st : TS A) (t : TypeId) (own : Bool) (p : TV A) (a : XA) : Option (List (A t) × XA) := match p with
  | .cst (.slice none 0 0) => match wd t with
    | some _ => some ([], if own then { a with bt := a.bt ++ [none] } else a)
    | none => none
  | .row u l f => if h : u = t then (if own then (match ownX st f a with
      | some a' => some (h ▸ l, a')
      | none => none) else some (h ▸ l, a)) else none
  | _ => none
end

variable (X : TX)
def optX (st : TS X.A) (n0 : Nat) (t : TypeId) (p : TV X.A) (a : XA) : Option (Option (X.A t) × XA) := if (X.wd t).isNone then none else match p with
  | .cst (.pointer none) => some (none, a)
  | .optp u o => if h : u = t then some (h ▸ o, a) else none
  | .eptr cs => match X.dec t cs with
    | some x => some (some x, a)
    | none => none
  | .ptr l 0 => if n0 ≤ l then (match tloc st l with
      | some (.cells cs) => match X.dec t cs with
        | some x => some (some x, { a with fz := l :: a.fz })
        | none => none
      | _ => none) else none
  | _ => none
mutual
def ext1 (st : TS X.A) (n0 : Nat) : (d : Ds) → TV X.A → XA → Option (d.den X.A × XA)
  | .any, _, a => some ((), a)
  | .int k, p, a => match p with
    | .int j n => if k = j then some (n, a) else none
    | _ => none
  | .bool, p, a => match p with
    | .bool b => some (b, a)
    | _ => none
  | .str, p, a => match p with
    | .str s => some (s, a)
    | _ => none
  | .row t own, p, a => rowX X.wd st t own p a
  | .optp t, p, a => optX X st n0 t p a
  | .eptr t, p, a => if (X.wd t).isNone then none else match p with
    | .eptr cs => match X.dec t cs with
      | some x => some (x, a)
      | none => none
    | _ => none
  | .ptr j off, p, a => match p with
    | .ptr l o => if o = off then (match bindL n0 j (some l) a with
      | some a' => some ((), a')
      | none => none) else none
    | _ => none
  | .ref t j, p, a => if (X.wd t).isNone then none else match p with
    | .ref u l off n => if u = t then (match bindL n0 j (some l) a with
      | some a' => some ((off, n), a')
      | none => none) else none
    | .cst (.slice none 0 0) => match bindL n0 j none a with
      | some a' => some ((0, 0), a')
      | none => none
    | _ => none
  | .agg ds, p, a => match p with
    | .agg cs => exts st n0 ds cs a
    | _ => none
  | .sct t, p, a => if (X.wd t).isNone then none else match p with
    | .agg cs => match X.dec t cs with
      | some x => some (x, a)
      | none => none
    | _ => none
  | .nilp, p, a => match p with
    | .cst (.pointer none) => some ((), a)
    | _ => none
  | .nils, p, a => match p with
    | .cst (.slice none 0 0) => some ((), a)
    | _ => none
  | .nili, p, a => match p with
    | .nili b => some (b, a)
    | .cst .nilIface => some (true, a)
    | _ => none
  | .fn g x y, p, a => match p with
    | .fn h u v => if g = h then (match exts st n0 x u a with
      | some (du, a1) => match exts st n0 y v a1 with
        | some (dv, a2) => some ((du, dv), a2)
        | none => none
      | none => none) else none
    | _ => none
def exts (st : TS X.A) (n0 : Nat) : (ds : List Ds) → List (TV X.A) → XA → Option (dens X.A ds × XA)
  | [], cs, a => match cs with
    | [] => some ((), a)
    | _ => none
  | d :: ds, cs, a => match cs with
    | c :: cs => match ext1 st n0 d c a with
      | some (x, a1) => match exts st n0 ds cs a1 with
        | some (xs, a2) => some ((x, xs), a2)
        | none => none
      | none => none
    | _ => none
end
section
variable (mu : Nat → Nat)
mutual
/-- The second: the next token. -/
def inj1 : (d : Ds) → d.den X.A → Nat → TV X.A × Nat
  | .any, _, n => (.any, n)
  | .int k, x, n => (.int k x, n)
  | .bool, b, n => (.bool b, n)
  | .str, s, n => (.str s, n)
  | .row t own, l, n => match own with
    | true => (.row t l (.own n), n + 1)
    | false => (.row t l .sh, n)
  | .optp t, o, n => (.optp t o, n)
  | .eptr t, x, n => (.eptr (X.lay t x), n)
  | .ptr j off, _, n => (.ptr (mu j) off, n)
  | .ref t j, x, n => (.ref t (mu j) x.1 x.2, n)
  | .agg ds, x, n => match injs ds x n with
    | (cs, m) => (.agg cs, m)
  | .sct t, x, n => (.agg (X.lay t x), n)
  | .nilp, _, n => (.cst (.pointer none), n)
  | .nils, _, n => (.cst (.slice none 0 0), n)
  | .nili, b, n => (.nili b, n)
  | .fn g a b, x, n => match injs a x.1 n with
    | (u, m) => match injs b x.2 m with
      | (v, m') => (.fn g u v, m')
def injs : (ds : List Ds) → dens X.A ds → Nat → List (TV X.A) × Nat
  | [], _, n => ([], n)
  | d :: ds, x, n => match inj1 d x.1 n with
    | (c, m) => match injs ds x.2 m with
      | (cs, m') => (c :: cs, m')
end
end

def getX (tm : List (TV X.A)) (st : TS X.A) (a : XA) : Get → Option (TV X.A)
  | .tmp t => some (tm.getD t .any)
  | .loc l => (tloc st l).map contT
  | .new i => match a.bl[i]? with
    | some (some l) => (tloc st l).map contT
    | some none => some (.cst (.slice none 0 0))
    | none => none
abbrev sds (s : List (Get × Ds)) : List Ds := s.map (·.2)
def extL (tm : List (TV X.A)) (st : TS X.A) (n0 : Nat) : (s : List (Get × Ds)) → XA → Option (dens X.A (s.map (·.2)) × XA)
  | [], a => some ((), a)
  | x :: s, a => match getX X tm st a x.1 with
    | some p => match ext1 X st n0 x.2 p a with
      | some (v, a1) => match extL tm st n0 s a1 with
        | some (vs, a2) => some ((v, vs), a2)
        | none => none
      | none => none
    | none => none
def isMod (s : List (Get × Ds)) (l : Nat) : Bool := s.any fun x => match x.1 with
  | .loc k => k == l
  | _ => false
def news (s : List (Get × Ds)) : Nat := (s.filter fun x => match x.1 with | .new _ => true | _ => false).length
/-- The elder tokens that live on: not those of what is told anew. -/
def liveH (sh : Shape) (tm0 : List (TV X.A)) (st0 : TS X.A) : List Nat :=
  let out := sh.srcs.flatMap fun x => match x.1 with
    | .tmp t => toks (tm0.getD t .any)
    | .loc l => toksL (tloc st0 l)
    | .new _ => []
  st0.live.filter fun t => !out.contains t
/-- What the state is, in a shape, against an elder state. -/
def extr (sh : Shape) (tm0 : List (TV X.A)) (st0 : TS X.A) (tm : List (TV X.A)) (st : TS X.A) : Option (dens X.A (sh.srcs.map (·.2))) :=
  match extL X tm st st0.locs.length sh.srcs ⟨[], [], []⟩ with
  | some (v, a) =>
    if a.fz.all (fun l => !a.bl.contains (some l)) && (liveH X sh tm0 st0).all (fun t => st.live.contains t && !a.bt.contains (some t) && decide (t < st0.next)) && st.wrote.all (fun l => decide (st0.locs.length ≤ l) || isMod sh.srcs l) && a.bl.length == news sh.srcs then some v else none
  | none => none
def toL : TV X.A → TL X.A
  | .agg cs => .cells cs
  | .row t l _ => .arr t l
  | p => .cells [p]
def putG (mu : Nat → Nat) (g : Get) (p : TV X.A) (n : Nat) (x : List (TV X.A) × TS X.A) : List (TV X.A) × TS X.A :=
  let st := { x.2 with live := (List.range (n - x.2.next)).map (x.2.next + ·) ++ x.2.live, next := n }
  match g with
  | .tmp t => (x.1.set t p, st)
  | .loc l => (x.1, { st with locs := st.locs.set (mu l) (some (toL X p)) })
  | .new _ => (x.1, { st with locs := st.locs ++ [some (toL X p)] })
def injL (mu : Nat → Nat) : (s : List (Get × Ds)) → dens X.A (s.map (·.2)) → List (TV X.A) × TS X.A → List (TV X.A) × TS X.A
  | [], _, x => x
  | y :: s, v, x => match inj1 X mu y.2 v.1 x.2.next with
    | (p, n) => injL mu s v.2 (putG X mu y.1 p n x)
def clear (ts : List Tmp) (tm : List (TV X.A)) : List (TV X.A) := ts.foldl (fun tm t => tm.set t .any) tm
def shape (sh : Shape) (st0 : TS X.A) (tm0 : List (TV X.A)) (v : dens X.A (sh.srcs.map (·.2))) : List (TV X.A) × TS X.A :=
  injL X id sh.srcs v (clear X sh.dead tm0, { st0 with live := liveH X sh tm0 st0, wrote := [] })
def modsOf (s : List (Get × Ds)) : List Nat := s.filterMap fun x => match x.1 with
  | .loc l => some l
  | _ => none
def wroteBy (st0 : TS X.A) (st : TS X.A) (s : List (Get × Ds)) : TS X.A := { st with wrote := st.wrote ++ modsOf s ++ st0.wrote }

/-! The operations. -/
def ofC1 (c : PV) : Option (TV X.A) := match c with
  | .v x => some (ofT x)
  | .row [] .nil => some (.cst (.slice none 0 0))
  | _ => none
def zeroT (t : TypeId) : Option (List (TV X.A)) := match zeroCells X.C.P t with
  | some cs => cs.mapM (ofC1 X)
  | none => none
def allOneT (cs : List (TV X.A)) : Bool := cs.all oneT
def fillT (place : Nat → Option (Nat × Nat)) (cells : List (TV X.A)) : List (Nat × TV X.A) → Option (List (TV X.A))
  | [] => some cells
  | (i, p) :: rest => match place i with
    | none => none
    | some (off, size) => if p.cells.length = size ∧ off + size ≤ cells.length ∧ p.cells.all oneT = true then fillT place (setC cells off p.cells) rest else none
def buildT (t : TypeId) (parts : List (Nat × TV X.A)) : Option (TV X.A) :=
  match zeroT X t, X.C.P.underlying t with
  | some z, some (.struct fs) => match fs.toList.mapM (fun f => (X.C.P.info? f.type).map fun i => (f.offset, i.size)) with
    | some places => (fillT X (places[·]?) z parts).map .agg
    | none => none
  | some z, some (.array _ e) => match tySize X.C.P e with
    | some n => (fillT X (fun i => some (i * n, n)) z parts).map .agg
    | none => none
  | _, _ => none
def rowT (e : TypeId) (l : List (X.A e)) : List (Nat × TV X.A) → Option (List (X.A e))
  | [] => some l
  | (i, p) :: rest => match X.dec e p.cells with
    | some x => if i < l.length then rowT e (l.set i x) rest else none
    | none => none
def mkRowT (ref : Bool) (e : TypeId) (l : List (X.A e)) (st : TS X.A) : TV X.A × TS X.A :=
  if ref then (.ref e st.locs.length 0 l.length, newL st (.arr e l)) else (.row e l (.own st.next), { st with live := st.next :: st.live, next := st.next + 1 })
def bytes (P : Program) (t : TypeId) : Option Nat := (P.info? t).map (·.bytes)

def loadT {α : Type} (t : TypeId) (a : TV X.A) (st : TS X.A) (K : TV X.A → Option α) : Option α :=
  cK (tySize X.C.P t) fun n => dK (decide (0 < n)) <| cK (tyAgg X.C.P t) fun b => match a with
  | .ptr l off => cK (tloc st l) fun c => match c with
    | .cells cs => cK (getC cs off n) fun cs => cK (packT b cs) K
    | .arr .. => none
  | .aptr u l i off => cK (tloc st l) fun c => match c with
    | .cells _ => none
    | .arr w r => dK (u == w) <| oK r[i]? fun x => cK (getC (X.lay w x) off n) fun cs => cK (packT b cs) K
  | .iptr l off m k i => cK (tloc st l) fun c => match c with
    | .cells cs => cK (getC cs off m) fun cs => cK (intsOf cs) fun ns => dK (n == 1 && !b) (K (.int ns.1 (nth ns.2 i)))
    | .arr .. => none
  | .eptr cs => cK (getC cs 0 n) fun cs => cK (packT b cs) K
  | .optp u o => oK o fun x => cK (getC (X.lay u x) 0 n) fun cs => cK (packT b cs) K
  | _ => none
def storeT {α : Type} (t : TypeId) (a x : TV X.A) (st : TS X.A) (K : TS X.A → Option α) : Option α :=
  cK (tySize X.C.P t) fun n => dK (x.cells.length == n && x.cells.all oneT) <| match a with
  | .ptr l off => cK (tloc st l) fun c => match c with
    | .cells cs => dK (decide (off + n ≤ cs.length)) (K (setL st l (.cells (setC cs off x.cells))))
    | .arr .. => none
  | .aptr u l i off => cK (tloc st l) fun c => match c with
    | .cells _ => none
    | .arr w r => dK (u == w && (X.wd w).isSome) <| oK r[i]? fun y => dK (decide (off + n ≤ (X.lay w y).length)) (cK (X.dec w (setC (X.lay w y) off x.cells)) fun z => K (setL st l (.arr w (r.set i z))))
  | .iptr l off m k i => cK (tloc st l) fun c => match c with
    | .cells cs => cK (getC cs off m) fun ds => cK (intsOf ds) fun ns => match x with
      | .int j y => dK (j == ns.1 && n == 1) (K (setL st l (.cells (setC cs off ((List.range m).map fun q => .int j (nth (setN ns.2 i y) (Int.ofNat q)))))))
      | _ => none
    | .arr .. => none
  | _ => none

def intOp {α : Type} (op : BinOp) (k : IntKind) (x y : Int) (K : TV X.A → Option α) : Option α := match op with
  | .add => K (.int k (k.wrap (x + y)))
  | .sub => K (.int k (k.wrap (x - y)))
  | .mul => K (.int k (k.wrap (x * y)))
  | .quo => bK (decide (y = 0)) none (K (.int k (k.wrap (x.tdiv y))))
  | .rem => bK (decide (y = 0)) none (K (.int k (x.tmod y)))
  | .and => K (.int k (k.wrap (BitVec.ofInt k.bits x &&& BitVec.ofInt k.bits y).toNat))
  | .or => K (.int k (k.wrap (BitVec.ofInt k.bits x ||| BitVec.ofInt k.bits y).toNat))
  | .xor => K (.int k (k.wrap (BitVec.ofInt k.bits x ^^^ BitVec.ofInt k.bits y).toNat))
  | .andNot => K (.int k (k.wrap (BitVec.ofInt k.bits x &&& ~~~BitVec.ofInt k.bits y).toNat))
  | .shl | .shr => none
  | .eql => K (.bool (decide (x = y)))
  | .neq => K (.bool !(decide (x = y)))
  | .lss => K (.bool (decide (x < y)))
  | .geq => K (.bool !(decide (x < y)))
  | .gtr => K (.bool (decide (y < x)))
  | .leq => K (.bool !(decide (y < x)))
def shOp {α : Type} (op : BinOp) (k : IntKind) (x y : Int) (K : TV X.A → Option α) : Option α := match op with
  | .shl => bK (decide (y < 0)) none (K (.int k (k.wrap (x * 2 ^ (min y.toNat k.bits)))))
  | .shr => bK (decide (y < 0)) none (K (.int k (x.fdiv (2 ^ (min y.toNat k.bits)))))
  | _ => none
def less (a b : List UInt8) : Bool := Op.bytesLess a b
def strOp {α : Type} (op : BinOp) (x y : List UInt8) (K : TV X.A → Option α) : Option α := match op with
  | .add => bK (fits 1 (x.length + y.length)) (K (.str (x ++ y))) none
  | .eql => K (.bool (decide (x = y)))
  | .neq => K (.bool !(decide (x = y)))
  | .lss => K (.bool (less x y))
  | .leq => K (.bool (less x y || decide (x = y)))
  | .gtr => K (.bool !(less x y || decide (x = y)))
  | .geq => K (.bool !(less x y))
  | _ => none
def boolOp {α : Type} (op : BinOp) (x y : Bool) (K : TV X.A → Option α) : Option α := match op with
  | .eql => K (.bool (x == y))
  | .neq => K (.bool !(x == y))
  | _ => none
/-- One cell against another one, of a kind: a number, a truth value, a text. -/
def eq1 (kd : Nat) (a b : TV X.A) : Option Bool := match kd with
  | 0 => match a, b with
    | .int k x, .int j y => if k = j then some (decide (x = y)) else none
    | _, _ => none
  | 1 => match a, b with
    | .bool x, .bool y => some (x == y)
    | _, _ => none
  | 2 => match a, b with
    | .str x, .str y => some (decide (x = y))
    | _, _ => none
  | _ => none
/-- Cells that are compared one by one. -/
def eqCells : List Nat → List (TV X.A) → List (TV X.A) → Option Bool
  | [], [], [] => some true
  | k :: ks, a :: as, b :: bs => match eq1 X k a b with
    | some q => match ks with
      | [] => match as, bs with
        | [], [] => some q
        | _, _ => none
      | _ => match eqCells ks as bs with
        | some r => some (q && r)
        | none => none
    | none => none
  | _, _, _ => none
/-- Is it nil? -/
def nilT (P : Program) (t : TypeId) (con : Bool) (a b : TV X.A) : Option Bool := match P.underlying t with
  | some (.pointer _) => match a, b with
    | .ptr .., .cst (.pointer none) | .eptr .., .cst (.pointer none) | .aptr .., .cst (.pointer none) => some false
    | .cst (.pointer none), .cst (.pointer none) => some true
    | .optp _ o, .cst (.pointer none) => some o.isNone
    | _, _ => none
  | some (.interface _) => if con then (match a, b with
    | .nili b, .cst .nilIface => some b
    | .cst .nilIface, .cst .nilIface => some true
    | _, _ => none) else none
  | some (.slice _) => match a, b with
    | .cst (.slice none 0 0), .cst (.slice none 0 0) => some true
    | _, _ => none
  | some (.func ..) => match a, b with
    | .fn .., .cst .nilFunc => some false
    | _, _ => none
  | _ => none
def kindOf (P : Program) (t : TypeId) : Option Nat := match P.underlying t with
  | some (.int _) => some 0
  | some .bool => some 1
  | some .string => some 2
  | _ => none
/-- Fields of plain kinds, one behind the other. -/
def fieldKs (P : Program) : Nat → List Field → Option (List Nat)
  | _, [] => some []
  | k, f :: fs => match kindOf P f.type, fieldKs P (k + 1) fs with
    | some q, some qs => if f.name ≠ "_" ∧ f.offset = k then some (q :: qs) else none
    | _, _ => none
/-- An array's elements, as if they were fields. -/
def arrFields (e : TypeId) (k : Nat) : Nat → List Field
  | 0 => []
  | n + 1 => { name := "a", type := e, embedded := false, offset := k, tag := "", pkgPath := "", byteOffset := 0 } :: arrFields e (k + 1) n
def kinds (P : Program) (t : TypeId) : Option (List Nat) := if P.eqGuardType P.depth t then none else match P.underlying t with
  | some (.struct fs) => if P.stoodInHeld t then none else fieldKs P 0 fs.toList
  | some (.array n e) => if tySize P e = some 1 then fieldKs P 0 (arrFields e 0 n) else none
  | _ => none
def binT {α : Type} (op : BinOp) (t : TypeId) (con : Bool) (a b : TV X.A) (K : TV X.A → Option α) : Option α := match a, b with
  | .int k x, .int j y => match op with
    | .shl | .shr => shOp X op k x y K
    | _ => dK (decide (k = j)) (intOp X op k x y K)
  | .str x, .str y => strOp X op x y K
  | .bool x, .bool y => dK (kindOf X.C.P t == some 1) (boolOp X op x y K)
  | .agg x, .agg y => cK (kinds X.C.P t) fun ks => cK (eqCells X ks x y) fun r => boolOp X op r true K
  | a, b => cK (nilT X X.C.P t con a b) fun r => boolOp X op r true K
def isCon : Operand → Bool
  | .const _ => true
  | _ => false
def unT {α : Type} (op : UnOp) (a : TV X.A) (K : TV X.A → Option α) : Option α := match op, a with
  | .not, .bool b => K (.bool !b)
  | .neg, .int k n => K (.int k (k.wrap (0 - n)))
  | .xor, .int k n => intOp X .xor k (if k.signed then -1 else k.max) n K
  | _, _ => none
def isSlice (P : Program) (t : TypeId) : Bool := match P.underlying t with
  | some (.slice _) => true
  | _ => false
def isString (P : Program) (t : TypeId) : Bool := match P.underlying t with
  | some .string => true
  | _ => false
def isBytes (P : Program) (t : TypeId) : Bool := match P.underlying t with
  | some (.slice e) => match P.underlying e with
    | some (.int .u8) => true
    | _ => false
  | _ => false
def toBytes (l : List Int) : List UInt8 := l.map fun n => UInt8.ofNat n.toNat
def u8Of {A : TypeId → Type} (cs : List (TV A)) : Option Int := match cs with
  | [.int .u8 n] => some n
  | _ => none
def intRow {A : TypeId → Type} (lay : (t : TypeId) → A t → List (TV A)) (t : TypeId) (l : List (A t)) : Option (List Int) := l.mapM fun x => u8Of (lay t x)
def convT {α : Type} (s d : TypeId) (a : TV X.A) (K : TV X.A → Option α) : Option α := match a with
  | .int k n => dK (X.C.P.underlying s).isSome <| match X.C.P.underlying d with
    | some (.int j) => K (.int j (j.wrap n))
    | _ => none
  | .row t l f => dK (isBytes X.C.P s && isString X.C.P d) (oK (intRow X.lay t l) fun ns => K (.str (toBytes ns)))
  | .cst (.slice none 0 0) => dK (isBytes X.C.P s && isString X.C.P d) (K (.str []))
  | .str z => dK ((X.C.P.underlying s).isSome && isString X.C.P d) (K (.str z))
  | _ => none
def asInt : TV X.A → Option Int
  | .int _ n => some n
  | _ => none
def loT (o : Option (TV X.A)) : Option Int := match o with
  | none => some 0
  | some p => asInt X p
def hiT (o : Option (TV X.A)) (n : Int) : Option Int := match o with
  | none => some n
  | some p => asInt X p
def sliceT {α : Type} (t : TypeId) (x : TV X.A) (lo hi mx : Option (TV X.A)) (st : TS X.A) (K : TV X.A → TS X.A → Option α) : Option α := match x with
  | .str s => dK (mx.isNone && isString X.C.P t) (cK (loT X lo) fun l => cK (hiT X hi (len s)) fun h => bK (okSl l h (len s)) (K (.str (slc s l h)) st) none)
  | .row u r f => dK (tyElem X.C.P t == some u && (mx.isNone || hi.isSome)) <| match mx with
    | none => match lo, hi with
      | none, none => K (.row u r f) st
      | _, _ => cK (loT X lo) fun l => cK (hiT X hi (len r)) fun h => bK (okSl l h (len r)) (K (.row u (slc r l h) .sh) st) none
    | some m => cK (loT X lo) fun l => cK (hiT X hi (len r)) fun h => cK (asInt X m) fun m => bK (okSl l h (len r) && decide (h = m)) (K (.row u (slc r l h) (.own st.next)) { st with live := st.next :: st.live, next := st.next + 1 }) none
  | .ref u r off n => dK (mx.isNone && (tyElem X.C.P t == some u && (X.wd u).isSome)) (cK (loT X lo) fun l => cK (hiT X hi n) fun h => bK (okSl l h n) (K (.ref u r (off + l.toNat) (h.toNat - l.toNat)) st) none)
  | .cst (.slice none 0 0) => dK (mx.isNone && ((tyElem X.C.P t).bind (tySize X.C.P)).isSome) (cK (loT X lo) fun l => cK (hiT X hi 0) fun h => bK (okSl l h 0) (K (.cst (.slice none 0 0)) st) none)
  | _ => none
def posSize (P : Program) (t : TypeId) : Bool := match tySize P t with
  | some (_ + 1) => true
  | _ => false
def fieldAddrT {α : Type} (s : TypeId) (x : TV X.A) (i : Nat) (K : TV X.A → Option α) : Option α :=
  cK (fieldOf X.C.P s i) fun ft => dK (posSize X.C.P ft.2) <| match x with
  | .ptr l o => K (.ptr l (o + ft.1))
  | .eptr cs => dK (decide (ft.1 ≤ cs.length)) (K (.eptr (cs.drop ft.1)))
  | .aptr u l i o => K (.aptr u l i (o + ft.1))
  | .optp u o => oK o fun x => dK (decide (ft.1 ≤ (X.lay u x).length)) (K (.eptr ((X.lay u x).drop ft.1)))
  | _ => none
def partT (t : TypeId) (cs : List (TV X.A)) (off : Nat) : Option (TV X.A) := match tySize X.C.P t, tyAgg X.C.P t with
  | some n, some b => if b then (if off + n ≤ cs.length then some (.agg ((cs.drop off).take n)) else none) else cs[off]?
  | _, _ => none
def indexAddrT {α : Type} (t : TypeId) (x i : TV X.A) (K : TV X.A → Option α) : Option α := cK (asInt X i) fun i => match X.C.P.underlying t with
  | some (.slice e) => match x with
    | .row u l _ => dK (u == e) (oK (idx l i) fun a => K (.eptr (X.lay u a)))
    | .ref u l off n => dK (u == e) (bK (inR i n) (K (.aptr u l (off + i.toNat) 0)) none)
    | _ => none
  | some (.array n e) => dK (tySize X.C.P e == some 1) <| match x with
    | .ptr l o => bK (inR i n) (K (.iptr l o n .u64 i)) none
    | .eptr cs => cK (intsOf (cs.take n)) fun ns => oK (idx ns.2 i) fun m => K (.eptr [.int ns.1 m])
    | _ => none
  | _ => none
def indexT {α : Type} (t : TypeId) (x i : TV X.A) (K : TV X.A → Option α) : Option α := cK (asInt X i) fun i => match x with
  | .str s => dK (isString X.C.P t) (oK (idx s i) fun b => K (.int .u8 b.toNat))
  | .agg cs => match X.C.P.underlying t with
    | some (.array n e) => dK (tySize X.C.P e == some 1 && tyAgg X.C.P e == some false) (cK (intsOf (cs.take n)) fun ns => oK (idx ns.2 i) fun m => K (.int ns.1 m))
    | _ => none
  | _ => none
/-- The bytes of a text as a row's elements. -/
def rowOfStr {A : TypeId → Type} (dec : (t : TypeId) → List (TV A) → Option (A t)) (t : TypeId) (s : List UInt8) : Option (List (A t)) := s.mapM fun b => dec t [.int .u8 b.toNat]
def srcT {α : Type} (e : TypeId) (tx : TypeId) (x : TV X.A) (st : TS X.A) (K : List (X.A e) → Option α) : Option α := match x with
  | .row u l _ => dK (isSlice X.C.P tx) <| if h : u = e then K (h ▸ l) else none
  | .cst (.slice none 0 0) => dK (isSlice X.C.P tx) (K [])
  | .ref u l off n => dK (isSlice X.C.P tx && u == e) <| cK (tloc st l) fun c => match c with
    | .arr w r => if h : w = e then bK (decide (off + n ≤ r.length)) (K (h ▸ ((r.drop off).take n))) none else none
    | _ => none
  | .str s => dK (isString X.C.P tx && X.wd e == some 1) <| oK (rowOfStr X.dec e s) K
  | _ => none
def appT {α : Type} (ref : Bool) (ts : List TypeId) (s x : TV X.A) (st : TS X.A) (K : TV X.A → TS X.A → Option α) : Option α := match ts with
  | [ts, tx] => cK (tyElem X.C.P ts) fun e => cK (bytes X.C.P e) fun b => cK (X.wd e) fun _ => srcT X e tx x st fun ys => match s with
    | .cst (.slice none 0 0) => bK (fits b ys.length) (match mkRowT X ref e ys st with | (p, st') => K p st') none
    | .row u l f => if h : u = e then
        (match f with
          | .sh => none
          | .own t => dK (st.live.contains t && !ref) (bK (fits b (l.length + ys.length)) (K (.row e ((h ▸ l) ++ ys) (.own st.next)) { st with live := st.next :: st.live.filter (fun u => u != t), next := st.next + 1 }) none))
        else none
    | .ref u l off n => dK (ref && off == 0 && u == e) <| cK (tloc st l) fun c => match c with
      | .arr w r => if h : w = e then bK (decide (n ≤ r.length)) (bK (fits b (n + ys.length)) (K (.ref e st.locs.length 0 (n + ys.length)) { newL { st with locs := st.locs.set l none, wrote := l :: st.wrote } (.arr e (h ▸ (r.take n) ++ ys)) with live := st.live }) none) none else none
      | _ => none
    | _ => none
  | _ => none
def lenT {α : Type} (t : TypeId) (x : TV X.A) (K : TV X.A → Option α) : Option α := match x with
  | .str s => dK (isString X.C.P t) (K (.int .i64 (len s)))
  | .row _ l _ => dK (isSlice X.C.P t) (K (.int .i64 (len l)))
  | .ref _ _ _ n => dK (isSlice X.C.P t) (K (.int .i64 n))
  | .cst (.slice none 0 0) => dK (isSlice X.C.P t) (K (.int .i64 0))
  | _ => none
def iMax (x y : Int) : Int := bif decide (x < y) then y else x
def iMin (x y : Int) : Int := bif decide (y < x) then y else x
def mm2 (b : Bool) (x y : Int) : Int := match b with
  | true => iMax x y
  | false => iMin x y
def mmFrom (b : Bool) (k : IntKind) : Int → List (TV X.A) → Option (TV X.A)
  | x, [] => some (.int k x)
  | x, p :: ps => match p with
    | .int _ y => mmFrom b k (mm2 b x y) ps
    | _ => none
def minmax (b : Bool) : List (TV X.A) → Option (TV X.A)
  | .int k x :: ps => mmFrom X b k x ps
  | _ => none

abbrev TM (X : TX) := List (TV X.A)
/-- What is called: a function; a loop's round. -/
inductive TG (A : TypeId → Type) where
  | fn (g : FuncId)
  | yl (f : FuncId) (tm : List (TV A)) (ps : Array Tmp) (asg bd : Code)
abbrev CallT (X : TX) (α : Type) := TG X.A → List (TV X.A) → TS X.A → (TV X.A → TS X.A → Option α) → Option α

def tOp {α : Type} (call : CallT X α) (f : FuncId) (tm : TM X) (st : TS X.A) (o : Oper) (K : TV X.A → TS X.A → Option α) : Option α :=
  match o.op with
  | .move x | .assign x => K (TV.ev tm x) st
  | .pick c a b => match TV.ev tm c with
    | .bool r => dK (flatT (TV.ev tm a) && flatT (TV.ev tm b)) <| bK r (K (TV.ev tm a) st) (K (TV.ev tm b) st)
    | _ => none
  | .alloc t => cK (zeroT X t) fun cs => dK (cs.all oneT) <| K (.ptr st.locs.length 0) (newL st (.cells cs))
  | .box t x => dK ((TV.ev tm x).cells.all oneT) <| K (.ptr st.locs.length 0) (newL st (.cells (TV.ev tm x).cells))
  | .build t ps => cK (buildT X t (ps.toList.map fun p => (p.1, TV.ev tm p.2))) fun p => K p st
  | .buildSlice t n ps => cK (tyElem X.C.P t) fun e => cK (X.wd e) fun w => cK (zeroT X e) fun z => cK (X.dec e z) fun a => dK (z.all oneT && decide (n * w ≤ 2 ^ 24)) <| cK (rowT X e (List.replicate n a) (ps.toList.map fun p => (p.1, TV.ev tm p.2))) fun l =>
      match mkRowT X (rfOf X.C f o) e l st with | (p, st') => K p st'
  | .load t a => loadT X t (TV.ev tm a) st fun p => K p st
  | .store t a x => storeT X t (TV.ev tm a) (TV.ev tm x) st fun st' => K (.cst undef) st'
  | .nilCheck x => match TV.ev tm x with
    | .optp u o => oK o fun a => K (.eptr (X.lay u a)) st
    | .ptr l o => K (.ptr l o) st
    | .eptr cs => K (.eptr cs) st
    | .aptr u l i o => K (.aptr u l i o) st
    | .iptr l o n k i => K (.iptr l o n k i) st
    | .fn g a b => K (.fn g a b) st
    | _ => none
  | .binOp op t x y _ => binT X op t (isCon x || isCon y) (TV.ev tm x) (TV.ev tm y) fun p => K p st
  | .unOp op _ x => unT X op (TV.ev tm x) fun p => K p st
  | .convert s d x => convT X s d (TV.ev tm x) fun p => K p st
  | .makeFunc (.func g) a b => K (.fn g (a.toList.map (TV.ev tm)) (b.toList.map (TV.ev tm))) st
  | .makeSlice t l c => cK (asInt X (TV.ev tm l)) fun l => cK (asInt X (TV.ev tm c)) fun c => cK (tyElem X.C.P t) fun e => cK (bytes X.C.P e) fun b => cK (X.wd e) fun w => cK (zeroT X e) fun z => cK (X.dec e z) fun a => dK (z.all oneT) <|
      bK (decide (l = c) && decide (0 ≤ l) && fits b l.toNat) (match mkRowT X (rfOf X.C f o) e (List.replicate l.toNat a) st with | (p, st') => K p st') none
  | .slice t x lo hi mx => sliceT X t (TV.ev tm x) (lo.map (TV.ev tm)) (hi.map (TV.ev tm)) (mx.map (TV.ev tm)) st K
  | .fieldAddr s x i => fieldAddrT X s (TV.ev tm x) i fun p => K p st
  | .field s x i => cK (fieldOf X.C.P s i) fun ft => match TV.ev tm x with
    | .agg cs => cK (partT X ft.2 cs ft.1) fun p => K p st
    | _ => none
  | .indexAddr t x i => indexAddrT X t (TV.ev tm x) (TV.ev tm i) fun p => K p st
  | .index t x i => indexT X t (TV.ev tm x) (TV.ev tm i) fun p => K p st
  | .extract x i => match TV.ev tm x with
    | .tuple vs => cK vs[i]? fun p => K p st
    | _ => none
  | .call c => match c.callee with
    | .builtin .append => match c.args.toList with
      | [s, x] => appT X (rfOf X.C f o) c.argTypes.toList (TV.ev tm s) (TV.ev tm x) st K
      | _ => none
    | .builtin .len => match c.args.toList with
      | [x] => cK c.argTypes[0]? fun t => lenT X t (TV.ev tm x) fun p => K p st
      | _ => none
    | .builtin .min => cK (minmax X false (c.args.toList.map (TV.ev tm))) fun p => K p st
    | .builtin .max => cK (minmax X true (c.args.toList.map (TV.ev tm))) fun p => K p st
    | .value g => match TV.ev tm g with
      | .fn h a b => call (.fn h) (a ++ c.args.toList.map (TV.ev tm) ++ b) st K
      | .yld fo to ps asg bd => call (.yl fo to ps asg bd) (c.args.toList.map (TV.ev tm)) st K
      | _ => none
    | _ => none
  | _ => none

def putT (tm : TM X) (d : Option Tmp) (p : TV X.A) : TM X := match d with
  | some d => tm.set d p
  | none => tm
def wantT {α : Type} (all : List Oper) (tm : TM X) (o : Oper) (yes no : TM X → Option α) : Option α := match o.guard with
  | none => yes tm
  | some (j, want) => match (all[j]?).bind (·.dst) with
    | none => no tm
    | some d => match tm.getD d .any with
      | .bool b => match want with
        | true => bK b (yes (tm.set d (.bool true))) (no (tm.set d (.bool false)))
        | false => bK b (no (tm.set d (.bool true))) (yes (tm.set d (.bool false)))
      | .cst (.tuple _) => no tm
      | _ => none
def tOps {α : Type} (call : CallT X α) (f : FuncId) (all : List Oper) : List Oper → TM X → TS X.A → (TM X → TS X.A → Option α) → Option α
  | [], tm, st, K => K tm st
  | o :: os, tm, st, K => wantT X all tm o (fun tm => tOp X call f tm st o fun p st' => tOps call f all os (putT X tm o.dst p) st' K) (fun tm => tOps call f all os (putT X tm o.dst (.cst undef)) st K)

def isPure (C : Cfg) (g : FuncId) : Bool := match C.mode g with
  | .pure => true
  | _ => false
def isKeep (C : Cfg) (g : FuncId) : Bool := match C.mode g with
  | .keep => true
  | _ => false
/-- No call that may freeze a location. -/
def calmO (C : Cfg) (o : Oper) : Bool := match o.op with
  | .call c => match c.callee with
    | .value (.func h) => isPure C h
    | .builtin _ => true
    | _ => false
  | _ => true
def calm (C : Cfg) (ops : List Oper) : Bool := ops.all (calmO C)
/-- The location that is led to. -/
def locT {A : TypeId → Type} : TV A → Option Nat
  | .ptr l _ | .aptr _ l _ _ | .iptr l _ _ _ _ => some l
  | _ => none
def apartT (st' : TS X.A) (l : Option Nat) (p : TV X.A) : Bool := match locT p with
  | some k => (tloc st' k).isSome && l != some k
  | none => flatT p
def dynT (ops : List Oper) (tm : TM X) (st st' : TS X.A) (d : Bool × Tmp × Tmp) : Bool :=
  match tm.getD d.2.1 .any with
  | .eptr _ => calm X.C ops && (!d.1 || apartT X st' none (tm.getD d.2.2 .any))
  | p => match locT p with
    | some l => (tloc st l).isSome && (tloc st' l).isSome && (!d.1 || apartT X st' (some l) (tm.getD d.2.2 .any))
    | none => flatT p

/-- The first region of a code. -/
def keyOf : Code → Nat
  | .region id _ _ => id
  | .seq a b => match keyOf a with
    | 0 => keyOf b
    | n => n
  | .cond _ a b => match keyOf a with
    | 0 => keyOf b
    | n => n
  | .block _ c => keyOf c
  | .loop c => keyOf c
  | .scope c => keyOf c
  | .rangeFunc _ _ a b => match keyOf a with
    | 0 => keyOf b
    | n => n
  | _ => 0

/-- The temporaries that a code fills. -/
def dstsOf (ops : List Oper) : List Tmp := ops.filterMap (·.dst)
def asgd : Code → List Tmp
  | .region _ ops _ => dstsOf ops.toList ++ ops.toList.filterMap fun o => match o.guard with
    | some (j, _) => (ops[j]?).bind (·.dst)
    | none => none
  | .seq a b => asgd a ++ asgd b
  | .cond _ a b => asgd a ++ asgd b
  | .block _ c => asgd c
  | .loop c => asgd c
  | .scope c => asgd c
  | _ => []
def newIx (s : List (Get × Ds)) : List Nat := s.filterMap fun x => match x.1 with
  | .new i => some i
  | _ => none
/-- A shape that fits: its new locations stand in their order, its elder ones are elder. -/
def locD (s : List (Get × Ds)) : Bool := s.all fun x => match x.1 with
  | .tmp _ => true
  | _ => match x.2 with
    | .agg _ | .row _ false => true
    | _ => false
def shOk (n0 : Nat) (s : List (Get × Ds)) : Bool := newIx s == List.range (newIx s).length && ((modsOf s).all fun l => decide (l < n0)) && locD s
def covers (sh : Shape) (c : Code) : Bool := (asgd c).all fun t => sh.dead.contains t || sh.srcs.any fun x => match x.1 with
  | .tmp u => u == t
  | _ => false
def putAllT : TM X → List Tmp → List (TV X.A) → TM X
  | tm, t :: ts, x :: xs => putAllT (tm.set t x) ts xs
  | tm, _, _ => tm
/-- As often as may be told at once. -/
def unroll {α : Type} (body : TM X → TS X.A → (Ex → TM X → TS X.A → Option α) → Option α) (K : Ex → TM X → TS X.A → Option α) : Nat → TM X → TS X.A → Option α
  | 0, _, _ => none
  | n + 1, tm, st => body tm st fun e tm' st' => match e with
    | .normal => unroll body K n tm' st'
    | e => K e tm' st'

def tCode {α : Type} (call : CallT X α) (k : Nat) (f : FuncId) : Code → TM X → TS X.A → (Ex → TM X → TS X.A → Option α) → Option α
  | .skip, tm, st, K => K .normal tm st
  | .label _, tm, st, K => K .normal tm st
  | .region id ops draw, tm, st, K => tOps X call f ops.toList ops.toList tm st fun tm' st' => match draw with
    | false => K .normal tm' st'
    | true => cK (X.C.dyn f id) fun l => dK (l.all (dynT X ops.toList tm' st st')) (K .normal tm' st')
  | .seq a b, tm, st, K => match X.join f (keyOf b) with
    | none => tCode call k f a tm st fun e tm' st' => match e with
      | .normal => tCode call k f b tm' st' K
      | e => K e tm' st'
    | some sh => dK (covers sh a && shOk st.locs.length sh.srcs) <| tCode call k f a tm { st with wrote := [] } fun e tm' st' => match e with
      | .normal => cK (extr X sh tm st tm' st') fun v => joinB (Box.mk fun v => match shape X sh st tm v with
        | (tm1, st1) => tCode call k f b tm1 (wroteBy X st st1 sh.srcs) K) v
      | e => K e tm' { st' with wrote := st'.wrote ++ st.wrote }
  | .cond c a b, tm, st, K => match TV.ev tm c with
    | .bool r => bK r (tCode call k f a tm st K) (tCode call k f b tm st K)
    | _ => none
  | .block id c, tm, st, K => tCode call k f c tm st fun e tm' st' => match e with
    | .exit j => if j = id then K .normal tm' st' else K (.exit j) tm' st'
    | e => K e tm' st'
  | .loop c, tm, st, K => match X.loop f (keyOf c) with
    | none => unroll X (fun tm st K => tCode call k f c tm st K) K 64 tm st
    | some sh => dK (covers sh c && shOk st.locs.length sh.srcs) <| cK (extr X sh tm st tm { st with wrote := [] }) fun v0 => fixN (fun rec v => match shape X sh st tm v with
      | (tm1, st1) => tCode call k f c tm1 st1 fun e tm' st' => match e with
        | .normal => cK (extr X sh tm st tm' st') rec
        | e => K e tm' (wroteBy X st st' sh.srcs)) k v0
  | .rangeFunc g ps asg bd, tm, st, K => match TV.ev tm g with
    | .fn h a b => dK (isKeep X.C h) <| call (.fn h) (a ++ [.yld f tm ps asg bd] ++ b) st fun _ st' => dK (stNof st') <| K .normal tm st'
    | _ => none
  | .scope c, tm, st, K => tCode call k f c tm st K
  | .exit id, tm, st, K => K (.exit id) tm st
  | .ret, tm, st, K => K .ret tm st
  | _, _, _, _ => none

def resT {α : Type} (tm : TM X) (st : TS X.A) : List ResultVar → (List (TV X.A) → Option α) → Option α
  | [], K => K []
  | r :: rs, K => match r with
    | .tmp t => resT tm st rs fun ps => K (tm.getD t .any :: ps)
    | .cell a t => loadT X t (tm.getD a .any) st fun p => resT tm st rs fun ps => K (p :: ps)
def tBody {α : Type} (call : CallT X α) (k : Nat) (f : FuncId) (args : List (TV X.A)) (st : TS X.A) (K : List (TV X.A) → TS X.A → Option α) : Option α :=
  cK X.C.P.funcs[f]? fun fn => cK fn.body fun c => tCode X call k f c (args ++ List.replicate (fn.ntmps - args.length) .any) st fun e tm st' => match e with
    | .normal | .ret => resT X tm st' fn.results.toList fun ps => K ps st'
    | .exit _ => none
def one {A : TypeId → Type} : List (TV A) → TV A
  | [p] => p
  | ps => .tuple ps
/-- What may be handed to a call that is told by the table, and what it may answer: nothing that leads anywhere. -/
def flatD : Ds → Bool
  | .int _ | .bool | .str | .row _ false => true
  | _ => false
def pureD (out : Bool) : Ds → Bool
  | .int _ | .bool | .str | .row _ false | .sct _ => true
  | .agg ds => ds.all flatD
  | .nili => out
  | _ => false
/-- All row types that are spoken of are known. -/
def knownD : Ds → Bool
  | .row t _ => (X.wd t).isSome
  | .sct t => (X.wd t).isSome
  | .agg ds => ds.all fun d => match d with
    | .row t _ => (X.wd t).isSome
    | _ => true
  | _ => true
def emptyX (a : XA) : Bool := a.bl.isEmpty && a.bt.isEmpty && a.fz.isEmpty
/-- An entry of the table at some arguments. -/
def tryT {α : Type} (args : List (TV X.A)) (st : TS X.A) (K : TV X.A → TS X.A → Option α) : List (Entry X.A) → Option α
  | [] => none
  | e :: es => match exts X st 0 (sds e.ins) args ⟨[], [], []⟩ with
    | some (v, a) => dK (emptyX a && ((sds e.ins).all (pureD false) && (sds e.outs).all (pureD true)) && ((sds e.ins).all (knownD X) && (sds e.outs).all (knownD X))) <| oK (e.F v) fun w => K (one (injs X id (sds e.outs) w 0).1) st
    | none => tryT args st K es
def st00 {A : TypeId → Type} : TS A := ⟨[], [], 0, []⟩
/-! Functions that are given a pointer: told by the table, too. -/
def muL (n l : Nat) : Nat → Nat
  | 0 => l
  | j + 1 => n + j
mutual
/-- Another numbering of locations and tokens. -/
def ren {A : TypeId → Type} (mu : Nat → Nat) (T : Nat) : TV A → TV A
  | .row t l f => match f with
    | .own u => .row t l (.own (T + u))
    | .sh => .row t l .sh
  | .ref t l off n => .ref t (mu l) off n
  | .agg cs => .agg (rens mu T cs)
  | .ptr l o => .ptr (mu l) o
  | .aptr t l i o => .aptr t (mu l) i o
  | .iptr l o n k i => .iptr (mu l) o n k i
  | .eptr cs => .eptr (rens mu T cs)
  | .fn g a b => .fn g (rens mu T a) (rens mu T b)
  | .tuple cs => .tuple (rens mu T cs)
  | .yld _ _ _ _ _ => .any
  | .bool b => .bool b
  | .int k n => .int k n
  | .str s => .str s
  | .cst x => .cst x
  | .optp t o => .optp t o
  | .nili b => .nili b
  | .any => .any
def rens {A : TypeId → Type} (mu : Nat → Nat) (T : Nat) : List (TV A) → List (TV A)
  | [] => []
  | c :: cs => ren mu T c :: rens mu T cs
end
def renL {A : TypeId → Type} (mu : Nat → Nat) (T : Nat) : TL A → TL A
  | .cells cs => .cells (rens mu T cs)
  | .arr t l => .arr t l
def renO {A : TypeId → Type} (mu : Nat → Nat) (T : Nat) : Option (TL A) → Option (TL A)
  | some c => some (renL mu T c)
  | none => none
def killL {A : TypeId → Type} (ks : List Nat) (ls : List (Option (TL A))) : List (Option (TL A)) := ks.foldl (fun ls k => ls.set k none) ls
def nTmp (s : List (Get × Ds)) : Nat := (s.filter fun x => match x.1 with | .tmp _ => true | _ => false).length
/-- A state of its own, as a function is given it. -/
def stS (s : List (Get × Ds)) (v : dens X.A (s.map (·.2))) : List (TV X.A) × TS X.A := shape X ⟨s, []⟩ st00 (List.replicate (nTmp s) .any) v
def entOk (ins outs : List (Get × Ds)) : Bool := shOk 0 ins && shOk 0 outs
/-- The other locations may be told to stay as they are. -/
def frOk (st : TS X.A) (a : XA) : Bool := (List.range st.locs.length).all fun m => a.bl.contains (some m) || a.fz.contains m || (match tloc st m with
  | some (.cells cs) => cs.all anyNof
  | _ => true)
def blL (a : XA) : List Nat := a.bl.filterMap id
def tryL {α : Type} (args : List (TV X.A)) (st : TS X.A) (K : TV X.A → TS X.A → Option α) (e : Entry X.A) : Option α := match args with
  | .ptr l 0 :: _ => dK (args.length == nTmp e.ins && entOk e.ins e.outs) <| match extL X args st 0 e.ins ⟨[], [], []⟩ with
    | some (v, a) => dK ((tloc st l).isSome && a.bl[0]? == some (some l) && a.fz.all (fun k => !a.bl.contains (some k)) && a.bl.length == news e.ins && frOk X st a) <| oK (e.F v) fun w => match stS X e.outs w with
      | (tmO, sO) => match tmO, sO.locs with
        | .ptr 0 0 :: ps, some c :: cs => K (one (rens (muL st.locs.length l) st.next ps))
            ⟨(killL (blL a ++ a.fz) st.locs).set l (some (renL (muL st.locs.length l) st.next c)) ++ cs.map (renO (muL st.locs.length l) st.next), sO.live.map (st.next + ·) ++ st.live.filter (fun t => !a.bt.contains (some t)), st.next + sO.next, blL a ++ a.fz ++ st.wrote⟩
        | _, _ => none
    | none => none
  | _ => none
def tCall {α : Type} (k : Nat) : Nat → CallT X α
  | 0, _, _, _, _ => none
  | d + 1, .fn g, args, st, K => match X.tab g with
    | [] => dK (isKeep X.C g && !X.C.frz g) <| tBody X (tCall k d) k g args st fun ps st' => K (one ps) st'
    | e :: es => match isPure X.C g with
      | true => tryT X args st K (e :: es)
      | false => dK (isKeep X.C g && !X.C.frz g) <| tryL X args st K e
  | d + 1, .yl f tm ps asg bd, args, st, K => dK (args.length == ps.size && checkDraws X.C f asg && checkDraws X.C f bd && noRF asg && noRF bd) (tCode X (tCall k d) k f asg (putAllT X tm ps.toList args) st fun e tm1 st1 => match e with
    | .normal => dK (tm1.all anyNof && stNof st1) <| tCode X (tCall k d) k f bd tm1 st1 fun e _ st2 => match e with
      | .normal => dK (stNof st2) <| K (.bool true) st2
      | _ => none
    | _ => none)
/-- Rows in memory of their own are written out. -/
def notRef : TV X.A → Bool
  | .any | .ref .. | .agg _ | .tuple _ | .yld .. => false
  | _ => true
def frzsT {α : Type} : List (TV X.A) → TS X.A → (List (TV X.A) → TS X.A → Option α) → Option α
  | [], st, K => K [] st
  | p :: ps, st, K => match p with
    | .ref t l off n => cK (tloc st l) fun c => match c with
      | .arr u r => dK (t == u) <| bK (decide (off + n ≤ r.length)) (frzsT ps { st with locs := st.locs.set l none } fun qs st' => K (.row u ((r.drop off).take n) .sh :: qs) st') none
      | _ => none
    | .agg cs => dK (cs.all (notRef X)) (frzsT ps st fun qs st' => K (.agg cs :: qs) st')
    | p => dK (notRef X p) (frzsT ps st fun qs st' => K (p :: qs) st')
def frzT {α : Type} (b : Bool) (ps : List (TV X.A)) (st : TS X.A) (K : List (TV X.A) → TS X.A → Option α) : Option α := match b with
  | true => frzsT X ps st K
  | false => K ps st
/-- A function of the program, as a function. -/
def tFn (k : Nat) (f : FuncId) (ins : List (Get × Ds)) (base : Nat) (outs : List (Get × Ds)) (v : dens X.A (ins.map (·.2))) : Option (dens X.A (outs.map (·.2))) :=
  dK (((sds ins).all (pureD false) && (sds outs).all (pureD true)) && ((sds ins).all (knownD X) && (sds outs).all (knownD X))) <| tBody X (tCall X k 40) k f (injs X id (sds ins) v 0).1 st00 fun ps st' => frzT X (X.C.frz f) ps st' fun ps st' => cK (exts X st' 0 (sds outs) ps ⟨[], [], []⟩) fun r => dK (emptyX r.2) (some r.1)
/-- A function of the program that is given a pointer, as a function. -/
def tFnL (k : Nat) (f : FuncId) (ins : List (Get × Ds)) (outs : List (Get × Ds)) (v : dens X.A (ins.map (·.2))) : Option (dens X.A (outs.map (·.2))) :=
  dK (entOk ins outs) <| match stS X ins v with
    | (args, s1) => match args with
      | .ptr 0 0 :: _ => tBody X (tCall X k 40) k f args s1 fun ps st' => dK (nTmp outs == ps.length + 1) (extr X ⟨outs, []⟩ (List.replicate (nTmp outs) .any) st00 (.ptr 0 0 :: ps) st')
      | _ => none
end Go.Proofs.YtlkaoiceehlkmaaTE
