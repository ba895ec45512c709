import Derived.WalkKit
import Derived.KernelRfl
namespace Go.Proofs.YtlkaoiceehlkmaaVE
open Go
set_option linter.unusedVariables false
set_option linter.unusedSimpArgs false

/-- What a row grants: nothing; it is nil; its capacity is its length; its spare room is token t's. -/
inductive Flag where
  | sh
  | nil
  | full
  | tok (t : Nat)

/-- A value without memory: rows and what pointers lead to are written out; `ref` and `ptr` lead to a location of the state. -/
inductive PV where
  | any
  | v (x : Value)
  | row (xs : List (List PV)) (f : Flag)
  | ref (l sz off len : Nat)
  | ptr (l off : Nat)
  | eptr (cs : List PV)
  | agg (cs : List PV)
  | fn (g : Fn) (first cap : List PV)
  | iface (t : TypeId) (p : PV)
  | tuple (vs : List PV)
  | yld (f : FuncId) (tm : List PV) (ps : Array Tmp) (asg bd : Code)

instance : Inhabited PV := ⟨.any⟩

/-- Values in which no address stands. -/
def flat : Value → Bool
  | .bool _ | .int _ _ | .string _ | .pointer none | .nilFunc | .nilIface | .map none => true
  | .tuple vs => vs.isEmpty
  | _ => false

/-- May it lie in one cell? -/
def PV.one : PV → Bool
  | .v (.tuple _) => false
  | .v _ | .row .. | .ref .. | .ptr .. | .eptr .. | .fn .. | .iface .. => true
  | _ => false

def PV.cells : PV → List PV
  | .agg cs => cs
  | p => [p]

/-- A constant, or a zero value's cell. -/
def ofC : Value → PV
  | .slice none 0 0 => .row [] .nil
  | x => if flat x then .v x else .any

def PV.strip : PV → PV
  | .row xs _ => .row xs .sh
  | p => p
def PV.strip1 : PV → PV
  | .agg cs => .agg (cs.map PV.strip)
  | p => p.strip
def PV.strip2 : PV → PV
  | .tuple vs => .tuple (vs.map PV.strip1)
  | p => p.strip1

mutual
def toV : PV → Option Value
  | .v x => some x
  | .agg cs => (toVs cs).map fun vs => .agg vs.toArray
  | _ => none
def toVs : List PV → Option (List Value)
  | [] => some []
  | p :: ps => match toV p, toVs ps with
    | some v, some vs => some (v :: vs)
    | _, _ => none
end
def ofV : Value → Option PV
  | .agg vs => if vs.toList.all flat then some (.agg (vs.toList.map .v)) else none
  | x => if flat x then some (.v x) else none

/-- What a step of the machine answers that asks nothing of the memory. -/
def runP (P : Program) {α : Type} : Sem α → Option α
  | .pure a => some a
  | .program k => runP P (k P)
  | .mark _ k => runP P k
  | _ => none

structure St where
  locs : List (Option (List PV))
  live : List Nat
  next : Nat

def PV.ev (tm : List PV) : Operand → PV
  | .tmp t => tm.getD t .any
  | .const x => ofC x
  | .global _ => .any
  | .func f => .fn (.func f) [] []

def tySize (P : Program) (t : TypeId) : Option Nat := (P.info? t).map (·.size)
def tyAgg (P : Program) (t : TypeId) : Option Bool := (P.underlying t).map fun
  | .struct _ | .array _ _ => true
  | _ => false
def tyElem (P : Program) (t : TypeId) : Option TypeId := match P.underlying t with
  | some (.slice e) => some e
  | _ => none

/-- A value out of its cells. -/
def pack (b : Bool) (cs : List PV) : Option PV :=
  if b then some (.agg cs) else match cs with
    | [c] => some c
    | _ => none

def evFlat (P : Program) (tm : List PV) (o : Oper) : Option PV :=
  if o.op.operands.toList.all fun x => (toV (PV.ev tm x)).isSome then
    match runP P (execOp (fun x => (toV (PV.ev tm x)).getD undef) o) with
    | some (.value v) => ofV v
    | _ => none
  else none

/-- Which locations may be written. -/
structure Wr where
  flr : Nat
  ex : Option Nat
def Wr.ok (w : Wr) (l : Nat) : Bool := decide (w.flr ≤ l) || w.ex == some l

mutual
/-- No location from n on, no token from t on. -/
def safe (n t : Nat) : PV → Bool
  | .any => true
  | .v _ => true
  | .row xs f => (match f with | .tok u => decide (u < t) | _ => true) && safess n t xs
  | .ref l _ _ _ => decide (l < n)
  | .ptr l _ => decide (l < n)
  | .eptr cs => safes n t cs
  | .agg cs => safes n t cs
  | .fn _ a b => safes n t a && safes n t b
  | .iface _ p => safe n t p
  | .tuple vs => safes n t vs
  | .yld .. => false
def safes (n t : Nat) : List PV → Bool
  | [] => true
  | p :: ps => safe n t p && safes n t ps
def safess (n t : Nat) : List (List PV) → Bool
  | [] => true
  | c :: cs => safes n t c && safess n t cs
end

def locAt (st : St) (l : Nat) : Option (List PV) := (st.locs[l]?).join

mutual
/-- No yield stands in it. -/
def nof : PV → Bool
  | .yld .. => false
  | .row xs _ => nofss xs
  | .eptr cs => nofs cs
  | .agg cs => nofs cs
  | .fn _ a b => nofs a && nofs b
  | .iface _ p => nof p
  | .tuple vs => nofs vs
  | _ => true
def nofs : List PV → Bool
  | [] => true
  | p :: ps => nof p && nofs ps
def nofss : List (List PV) → Bool
  | [] => true
  | c :: cs => nofs c && nofss cs
end
/-- What speaks of a yield is forgotten. -/
def clean (p : PV) : PV := if nof p then p else .any
def cleanSt (st : St) : St := { st with locs := st.locs.map (Option.map (List.map clean)) }
def rdCells (st : St) (n : Nat) : PV → Option (List PV)
  | .ptr l off => match locAt st l with
    | some cs => if off + n ≤ cs.length then some ((cs.drop off).take n) else none
    | none => none
  | .eptr cs => if n ≤ cs.length then some (cs.take n) else none
  | _ => none

def newLoc (st : St) (cs : List PV) : St := { st with locs := st.locs ++ [some cs] }

def evLoad (P : Program) (t : TypeId) (a : PV) (st : St) : Option PV :=
  match tySize P t, tyAgg P t with
  | some n, some b => match rdCells st n a with
    | some cs => if b then some (.agg cs) else if n = 1 then cs.head? else none
    | none => none
  | _, _ => none

def setAt (cs : List PV) (off : Nat) (ns : List PV) : List PV := cs.take off ++ ns ++ cs.drop (off + ns.length)

def evStore (P : Program) (wr : Wr) (t : TypeId) (a x : PV) (st : St) : Option St :=
  match tySize P t, a with
  | some n, .ptr l off => match locAt st l with
    | some cs => if wr.ok l = true ∧ x.cells.length = n ∧ off + n ≤ cs.length ∧ x.cells.all PV.one = true
        then some { st with locs := st.locs.set l (some (setAt cs off x.cells)) } else none
    | none => none
  | _, _ => none

def zeroCells (P : Program) (t : TypeId) : Option (List PV) :=
  ((P.info? t).bind (·.zero)).map fun z => z.cells.toList.map ofC

def evAlloc (P : Program) (t : TypeId) (st : St) : Option (PV × St) :=
  match zeroCells P t with
  | some cs => if cs.all PV.one then some (.ptr st.locs.length 0, newLoc st cs) else none
  | none => none

def evBox (x : PV) (st : St) : Option (PV × St) :=
  if x.cells.all PV.one then some (.ptr st.locs.length 0, newLoc st x.cells) else none

def fillP (place : Nat → Option (Nat × Nat)) (cells : List PV) : List (Nat × PV) → Option (List PV)
  | [] => some cells
  | (i, p) :: rest => match place i with
    | none => none
    | some (off, size) =>
      if p.cells.length = size ∧ off + size ≤ cells.length ∧ p.cells.all PV.one = true then fillP place (setAt cells off p.cells) rest else none

def evBuild (P : Program) (t : TypeId) (parts : List (Nat × PV)) : Option PV :=
  match zeroCells P t, P.underlying t with
  | some z, some (.struct fs) => match fs.toList.mapM (fun f => (P.info? f.type).map fun i => (f.offset, i.size)) with
    | some places => (fillP (places[·]?) z parts).map .agg
    | none => none
  | some z, some (.array _ e) => match tySize P e with
    | some n => (fillP (fun i => some (i * n, n)) z parts).map .agg
    | none => none
  | _, _ => none

def szOk (n : Nat) (xs : List (List PV)) : Bool := xs.all fun c => c.length == n
def allOne (xs : List (List PV)) : Bool := xs.all fun c => c.all PV.one
def stripRow (xs : List (List PV)) : List (List PV) := xs.map fun c => c.map PV.strip

def rowParts (n : Nat) (xs : List (List PV)) : List (Nat × PV) → Option (List (List PV))
  | [] => some xs
  | (i, p) :: rest => if p.cells.length = n ∧ i < xs.length ∧ p.cells.all PV.one = true then rowParts n (xs.set i (p.cells.map PV.strip)) rest else none

/-- A new row: in memory of its own (a `ref`), or written out. -/
def mkRow (ref : Bool) (n : Nat) (xs : List (List PV)) (st : St) : PV × St :=
  if ref then (.ref st.locs.length n 0 xs.length, newLoc st xs.flatten) else (.row xs .full, st)

def evBuildSlice (P : Program) (ref : Bool) (t : TypeId) (len : Nat) (parts : List (Nat × PV)) (st : St) : Option (PV × St) :=
  match tyElem P t with
  | some e => match tySize P e, zeroCells P e with
    | some n, some z => if z.length = n ∧ z.all PV.one = true ∧ len * n ≤ 2 ^ 24 ∧ 0 < n then (rowParts n (List.replicate len z) parts).map fun xs => mkRow ref n xs st else none
    | _, _ => none
  | none => none

def asI : PV → Option Int
  | .v (.int _ n) => some n
  | _ => none

def evMakeSlice (P : Program) (ref : Bool) (t : TypeId) (len cap : PV) (st : St) : Option (PV × St) :=
  match tyElem P t, asI len, asI cap with
  | some e, some l, some c => match P.info? e, zeroCells P e with
    | some i, some z => if l = c ∧ 0 ≤ l ∧ l ≤ 9223372036854775807 ∧ i.bytes * l ≤ 140737488355328 ∧ z.length = i.size ∧ z.all PV.one = true ∧ 0 < i.size
        then some (mkRow ref i.size (List.replicate l.toNat z) st) else none
    | _, _ => none
  | _, _, _ => none

def evNilCheck : PV → Option PV
  | .ptr l o => some (.ptr l o)
  | .eptr cs => some (.eptr cs)
  | .fn (.func f) a b => some (.fn (.func f) a b)
  | _ => none

def fieldOf (P : Program) (s : TypeId) (i : Nat) : Option (Nat × TypeId) :=
  match P.underlying s with
  | some (.struct fs) => (fs[i]?).map fun f => (f.offset, f.type)
  | _ => none

def evFieldAddr (P : Program) (s : TypeId) (x : PV) (i : Nat) : Option PV :=
  match fieldOf P s i with
  | some (off, t) => match tySize P t, x with
    | some (_ + 1), .ptr l o => some (.ptr l (o + off))
    | some (_ + 1), .eptr cs => some (.eptr (cs.drop off))
    | _, _ => none
  | none => none

def partOf (P : Program) (t : TypeId) (cs : List PV) (off : Nat) : Option PV :=
  match tySize P t, tyAgg P t with
  | some n, some b => if b then (if off + n ≤ cs.length then some (.agg ((cs.drop off).take n)) else none) else cs[off]?
  | _, _ => none

def evField (P : Program) (s : TypeId) (x : PV) (i : Nat) : Option PV :=
  match fieldOf P s i, x with
  | some (off, t), .agg cs => partOf P t cs off
  | _, _ => none

def evIndexAddr (P : Program) (t : TypeId) (x i : PV) : Option PV :=
  match asI i with
  | none => none
  | some i => match P.underlying t, x with
    | some (.slice e), .row xs _ => match tySize P e with
      | some n => if 0 ≤ i then match xs[i.toNat]? with
          | some c => if c.length = n then some (.eptr c) else none
          | none => none
        else none
      | none => none
    | some (.slice e), .ref l n off len => match tySize P e with
      | some m => if m = n ∧ 0 ≤ i ∧ i < len then some (.ptr l (off + i.toNat * n)) else none
      | none => none
    | some (.array len e), .ptr l o => match tySize P e with
      | some n => if 0 ≤ i ∧ i < len then some (.ptr l (o + i.toNat * n)) else none
      | none => none
    | some (.array len e), .eptr cs => match tySize P e with
      | some n => if 0 ≤ i ∧ i < len then some (.eptr (cs.drop (i.toNat * n))) else none
      | none => none
    | _, _ => none

def evIndex (P : Program) (t : TypeId) (x i : PV) : Option PV :=
  match asI i, P.underlying t, x with
  | some i, some (.array len e), .agg cs => match tySize P e with
    | some n => if 0 ≤ i ∧ i < len then partOf P e cs (i.toNat * n) else none
    | none => none
  | _, _, _ => none

/-- A bound of a slice; absent: what stands for it. -/
def bnd : Option PV → Nat → Option Nat
  | none, d => some d
  | some p, _ => match asI p with
    | some i => if 0 ≤ i then some i.toNat else none
    | none => none

def evSlice (P : Program) (t : TypeId) (x : PV) (lo hi mx : Option PV) : Option PV :=
  match tyElem P t, x with
  | some e, .row xs f => match bnd lo 0, bnd hi xs.length, (match tySize P e with | some n => szOk n xs | none => false) with
    | some l, some h, true => match mx with
      | none => if l ≤ h ∧ h ≤ xs.length then
          some (if l = 0 ∧ h = xs.length then .row xs f else .row ((xs.drop l).take (h - l)) .sh) else none
      | some m => match bnd (some m) 0 with
        | some m => if l ≤ h ∧ h = m ∧ m ≤ xs.length then some (.row ((xs.drop l).take (h - l)) .full) else none
        | none => none
    | _, _, _ => none
  | some e, .ref r n off len => match bnd lo 0, bnd hi len, mx, tySize P e with
    | some l, some h, none, some m => if l ≤ h ∧ h ≤ len ∧ m = n then (if l = 0 then some (.ref r n off h) else if l = h then some (.row [] .sh) else some (.ref r n (off + l * n) (h - l))) else none
    | _, _, _, _ => none
  | _, _ => none

def chunk (n : Nat) : Nat → List PV → List (List PV)
  | 0, _ => []
  | k + 1, cs => cs.take n :: chunk n k (cs.drop n)

def bytePV (b : UInt8) : PV := .v (.int .u8 b.toNat)

/-- The elements that are put behind a row. -/
def srcRow (P : Program) (n : Nat) (t : TypeId) (st : St) : PV → Option (List (List PV))
  | .row ys _ => match P.underlying t with
    | some (.slice _) => if szOk n ys then some ys else none
    | _ => none
  | .ref l m off len => match locAt st l, P.underlying t with
    | some cs, some (.slice _) => if m = n ∧ off + len * n ≤ cs.length then some (chunk n len (cs.drop off)) else none
    | _, _ => none
  | .v (.string s) => match P.underlying t with
    | some .string => if n = 1 then some (s.data.toList.map fun b => [bytePV b]) else none
    | _ => none
  | _ => none

/-- A zero element has so many cells. -/
def zOk (P : Program) (e : TypeId) (n : Nat) : Bool := match zeroCells P e with
  | some z => z.length == n
  | none => false

def evAppend (P : Program) (ref : Bool) (wr : Wr) (ts : List TypeId) (s x : PV) (st : St) : Option (PV × St) :=
  match ts with
  | [ts, tx] => match tyElem P ts with
    | none => none
    | some e => match P.info? e with
      | none => none
      | some i => match srcRow P i.size tx st x with
        | none => none
        | some ys =>
          if !(allOne ys && decide (0 < i.size) && zOk P e i.size) then none else
          match s with
          | .row xs f =>
            if ys.isEmpty then some (.row xs f, st) else
            if !(decide ((xs.length + ys.length) * i.bytes ≤ 140737488355328) && decide (xs.length + ys.length ≤ 9223372036854775807) && szOk i.size xs) then none else
            match f with
            | .sh => none
            | .tok t => if st.live.contains t then
                some (.row (xs ++ stripRow ys) (.tok st.next), { st with live := st.next :: st.live.filter (fun u => u != t), next := st.next + 1 }) else none
            | _ => if ref then some (.ref st.locs.length i.size 0 (xs.length + ys.length), newLoc st (xs.flatten ++ ys.flatten))
                else some (.row (xs ++ stripRow ys) (.tok st.next), { st with live := st.next :: st.live, next := st.next + 1 })
          | .ref l n off len => match locAt st l with
            | some cs =>
              if ys.isEmpty then some (.ref l n off len, st) else
              if wr.ok l = true ∧ n = i.size ∧ off + len * n ≤ cs.length ∧ (len + ys.length) * i.bytes ≤ 140737488355328 ∧ len + ys.length ≤ 9223372036854775807 then
                some (.ref st.locs.length n 0 (len + ys.length), newLoc { st with locs := st.locs.set l none } ((cs.drop off).take (len * n) ++ ys.flatten)) else none
            | none => none
          | _ => none
  | _ => none

def evLen (P : Program) (t : TypeId) (x : PV) : Option PV := match P.underlying t, x with
  | some (.slice _), .row xs _ => some (.v (goInt xs.length))
  | some (.slice _), .ref _ _ _ len => some (.v (goInt len))
  | _, _ => none

def byteOf : List PV → Option UInt8
  | [.v (.int .u8 n)] => some (UInt8.ofNat n.toNat)
  | _ => none

def evConvert (P : Program) (src dst : TypeId) (x : PV) : Option PV :=
  match P.underlying src, P.underlying dst, x with
  | some (.slice e), some .string, .row xs _ => match P.underlying e with
    | some (.int .u8) => (xs.mapM byteOf).map fun bs => .v (.string ⟨bs.toArray⟩)
    | _ => none
  | _, _, _ => none

/-- How a call is reckoned: without any location (`pure`); reading locations (`rd`); writing the one that its first argument leads to (`loc`); whatever (`keep`). -/
inductive Mode where
  | pure
  | rd
  | loc
  | keep

structure Cfg where
  P : Program
  prim : FuncId → List PV → Option PV
  mode : FuncId → Mode
  keep : FuncId → Nat → List Bool
  dyn : FuncId → Nat → Option (List (Bool × Tmp × Tmp))
  byRef : FuncId → Nat → Bool
  /-- Whose results are written out, where they lie in memory of their own. -/
  frz : FuncId → Bool

/-- A comparison with nil. -/
def nilCmp (P : Program) (t : TypeId) (x y : PV) : Option Bool :=
  match P.underlying t, x, y with
  | some (.pointer _), .ptr .., .v (.pointer none) | some (.pointer _), .eptr .., .v (.pointer none) => some false
  | some (.pointer _), .v (.pointer none), .ptr .. | some (.pointer _), .v (.pointer none), .eptr .. => some false
  | some (.slice _), .row [] .nil, .row [] .nil => some true
  | some (.slice _), .row _ (.tok _), .row [] .nil | some (.slice _), .ref .., .row [] .nil => some false
  | some (.func ..), .fn .., .v .nilFunc => some false
  | some (.interface _), .iface .., .v .nilIface => some false
  | _, _, _ => none
/-- Which of two numbers is the less: in a form that is reckoned in one way alone. -/
def evIntCmp (op : BinOp) (x y : PV) : Option PV :=
  match x, y with
  | .v (.int k a), .v (.int j b) => if k = j then (match op with
    | .lss => some (.v (.bool (decide (a < b))))
    | .geq => some (.v (.bool !(decide (a < b))))
    | .gtr => some (.v (.bool (decide (b < a))))
    | .leq => some (.v (.bool !(decide (b < a))))
    | _ => none) else none
  | _, _ => none
def evNilCmp (P : Program) (op : BinOp) (t : TypeId) (x y : PV) : Option PV :=
  match evIntCmp op x y with
  | some r => some r
  | none => match nilCmp P t x y, op with
    | some b, .eql => some (.v (.bool b))
    | some b, .neq => some (.v (.bool !b))
    | _, _ => none

/-- What is called: a function; the yield of a loop over a function. -/
inductive Tgt where
  | fn (f : FuncId)
  | yl (f : FuncId) (tm : List PV) (ps : Array Tmp) (asg bd : Code)
abbrev Call := Tgt → List PV → Wr → St → Option (PV × St)

def stripFrom (n : Nat) : PV → PV
  | .row xs (.tok t) => if t < n then .row xs (.tok t) else .row xs .sh
  | p => p

def St.nil : St := ⟨[], [], 0⟩

def leads : List PV → Option Nat
  | .ptr l _ :: _ => some l
  | _ => none

def callLoc (call : Call) (wr : Wr) (g : FuncId) (args : List PV) (st : St) (l : Nat) : Option (PV × St) :=
  if wr.ok l = true ∧ l < st.locs.length then
    match call (.fn g) args ⟨st.locs.length, some l⟩ { st with live := [] } with
    | some (r, s) => match locAt s l with
      | some cs => if safe st.locs.length st.next r.strip2 && safes st.locs.length st.next (cs.map (stripFrom st.next)) then
          some (r.strip2, { st with locs := st.locs.set l (some (cs.map (stripFrom st.next))) })
        else if safe s.locs.length st.next r.strip2 && (s.locs.map (Option.map (List.map (stripFrom st.next)))).all (fun o => match o with | some cs => safes s.locs.length st.next cs | none => true) then
          some (r.strip2, { st with locs := st.locs.set l (some (cs.map (stripFrom st.next))) ++ (s.locs.drop st.locs.length).map (Option.map (List.map (stripFrom st.next))) })
        else none
      | none => none
    | none => none
  else none

def callBy (C : Cfg) (call : Call) (wr : Wr) (g : FuncId) (args : List PV) (st : St) : Option (PV × St) :=
  match C.prim g (args.map PV.strip2) with
  | some r => some (r, st)
  | none => match C.mode g with
    | .pure => if safes 0 0 (args.map PV.strip2) then match call (.fn g) (args.map PV.strip2) ⟨0, none⟩ St.nil with
        | some (r, _) => if safe 0 0 r.strip2 then some (r.strip2, st) else none
        | none => none
      else none
    | .rd => match call (.fn g) (args.map PV.strip2) ⟨st.locs.length, none⟩ { st with live := [] } with
      | some (r, _) => if safe st.locs.length st.next r.strip2 then some (r.strip2, st) else none
      | none => none
    | .loc => match leads args with
      | some l => callLoc call wr g (args.map PV.strip2) st l
      | none => none
    | .keep => call (.fn g) args wr st

def rfOf (C : Cfg) (f : FuncId) (o : Oper) : Bool := match o.dst with
  | some d => C.byRef f d
  | none => false

def withSt (st : St) (r : Option PV) : Option (PV × St) := r.map fun p => (p, st)
def evSl (P : Program) (t : TypeId) (x : PV) (lo hi mx : Option PV) : Option PV := if mx.isNone || hi.isSome then evSlice P t x lo hi mx else none

def evOp (C : Cfg) (call : Call) (f : FuncId) (wr : Wr) (tm : List PV) (st : St) (o : Oper) : Option (PV × St) :=
  match o.op with
  | .move x | .assign x => some (PV.ev tm x, st)
  | .alloc t => evAlloc C.P t st
  | .box t x => evBox (PV.ev tm x) st
  | .build t ps => withSt st (evBuild C.P t (ps.toList.map fun p => (p.1, PV.ev tm p.2)))
  | .buildSlice t len ps => evBuildSlice C.P (rfOf C f o) t len (ps.toList.map fun p => (p.1, PV.ev tm p.2)) st
  | .load t a => withSt st (evLoad C.P t (PV.ev tm a) st)
  | .store t a x => (evStore C.P wr t (PV.ev tm a) (PV.ev tm x) st).map fun s => (.v undef, s)
  | .nilCheck x => withSt st (evNilCheck (PV.ev tm x))
  | .makeInterface t x => match C.P.underlying t with
    | some (.interface _) | none => none
    | some _ => if (PV.ev tm x).one then some (.iface t (PV.ev tm x), st) else none
  | .makeFunc g a b => some (.fn g (a.toList.map (PV.ev tm)) (b.toList.map (PV.ev tm)), st)
  | .makeSlice t l c => evMakeSlice C.P (rfOf C f o) t (PV.ev tm l) (PV.ev tm c) st
  | .slice t x lo hi mx => match PV.ev tm x with
    | .v _ => withSt st (evFlat C.P tm o)
    | p => withSt st (evSl C.P t p (lo.map (PV.ev tm)) (hi.map (PV.ev tm)) (mx.map (PV.ev tm)))
  | .fieldAddr s x i => withSt st (evFieldAddr C.P s (PV.ev tm x) i)
  | .field s x i => withSt st (evField C.P s (PV.ev tm x) i)
  | .indexAddr t x i => withSt st (evIndexAddr C.P t (PV.ev tm x) (PV.ev tm i))
  | .index t x i => match PV.ev tm x with
    | .v _ => withSt st (evFlat C.P tm o)
    | p => withSt st (evIndex C.P t p (PV.ev tm i))
  | .extract x i => match PV.ev tm x with
    | .tuple vs => withSt st vs[i]?
    | _ => none
  | .convert s d x => match PV.ev tm x with
    | .v _ => withSt st (evFlat C.P tm o)
    | p => withSt st (evConvert C.P s d p)
  | .binOp op t x y _ => match evNilCmp C.P op t (PV.ev tm x) (PV.ev tm y) with
    | some r => some (r, st)
    | none => withSt st (evFlat C.P tm o)
  | .unOp .. | .pick .. => withSt st (evFlat C.P tm o)
  | .call c => match c.callee with
    | .builtin .append => match c.args.toList with
      | [s, x] => evAppend C.P (rfOf C f o) wr c.argTypes.toList (PV.ev tm s) (PV.ev tm x) st
      | _ => none
    | .builtin .len => match c.args.toList with
      | [x] => match PV.ev tm x with
        | .v _ => withSt st (evFlat C.P tm o)
        | p => match c.argTypes[0]? with
          | some t => withSt st (evLen C.P t p)
          | none => none
      | _ => none
    | .builtin .min | .builtin .max => withSt st (evFlat C.P tm o)
    | .value g => match PV.ev tm g with
      | .fn (.func h) a b => callBy C call wr h (a ++ c.args.toList.map (PV.ev tm) ++ b) st
      | .yld fo to ps asg bd => call (.yl fo to ps asg bd) (c.args.toList.map (PV.ev tm)) wr st
      | _ => none
    | _ => none
  | _ => none

def wantV (p : PV) (want : Bool) : Option Bool := match p with
  | .v (.bool b) => some (b == want)
  | .v _ => some false
  | _ => none
/-- Is an operation wanted? none: it can't be told. -/
def wantedP (ops : List Oper) (tm : List PV) (o : Oper) : Option Bool :=
  match o.guard with
  | none => some true
  | some (j, want) => match (ops[j]?).bind (·.dst) with
    | none => some false
    | some d => wantV (tm.getD d .any) want

def putP (tm : List PV) (d : Option Tmp) (p : PV) : List PV :=
  match d with
  | some d => tm.set d p
  | none => tm

def bindR {α : Type} (x : Option (PV × St)) (k : PV → St → Option α) : Option α := match x with
  | some (p, s) => k p s
  | none => none
def wantR {α : Type} (x : Option Bool) (a b : Option α) : Option α := match x with
  | some true => a
  | some false => b
  | none => none

def evOps (C : Cfg) (call : Call) (f : FuncId) (wr : Wr) (all : List Oper) : List Oper → List PV → St → Option (List PV × St)
  | [], tm, st => some (tm, st)
  | o :: os, tm, st => wantR (wantedP all tm o) (bindR (evOp C call f wr tm st o) fun p st' => evOps C call f wr all os (putP tm o.dst p) st') (evOps C call f wr all os (putP tm o.dst (.v undef)) st)

/-! Regions of open order. -/
inductive Cls where
  | free
  | reads (l : Nat)
  | state (keeps : Nat → Bool)

def oldLoc (st : St) (k : Nat) : Bool := decide (k < st.locs.length)
def clsOf (C : Cfg) (f : FuncId) (tm : List PV) (st : St) (o : Oper) : Cls :=
  match o.op with
  | .load _ a => match PV.ev tm a with
    | .ptr l _ => .reads l
    | _ => .free
  | .store _ a _ => match PV.ev tm a with
    | .ptr l _ => .state fun k => oldLoc st k && k != l
    | _ => .state fun _ => false
  | .alloc _ | .box _ _ => .state (oldLoc st)
  | .buildSlice .. | .makeSlice .. => if rfOf C f o then .state (oldLoc st) else .free
  | .call c => match c.callee with
    | .builtin .append => match c.args.toList with
      | s :: _ => match PV.ev tm s with
        | .ref l _ _ _ => .state fun k => oldLoc st k && k != l
        | _ => .state (oldLoc st)
      | _ => .state fun _ => false
    | .builtin _ => .free
    | .value g => match PV.ev tm g with
      | .fn (.func h) a b => match C.prim h ((a ++ c.args.toList.map (PV.ev tm) ++ b).map PV.strip2) with
        | some _ => .free
        | none => match C.mode h with
          | .pure => .free
          | .rd => .state (oldLoc st)
          | .loc => match leads (a ++ c.args.toList.map (PV.ev tm) ++ b) with
            | some l => .state fun k => oldLoc st k && k != l
            | none => .state fun _ => false
          | .keep => .state fun _ => false
      | _ => .state fun _ => false
    | _ => .state fun _ => false
  | _ => .free

def plainEdge (e : Edge) : Bool := match e.ground with
  | .textOnly _ | .gcOnly _ => false
  | _ => true

/-- Bit j of entry i: operation j comes ahead of operation i, in whatever order. -/
def aheadOf : List Oper → List Nat → List Nat
  | [], acc => acc
  | o :: os, acc => aheadOf os (acc ++ [o.after.toList.foldl (fun s e => if plainEdge e then s ||| 2 ^ e.on ||| acc.getD e.on 0 else s) 0])

def tmpsOf (o : Oper) : List Tmp := o.op.operands.toList.filterMap fun | .tmp t => some t | _ => none

/-- Neither looks at what the other one fills, nor fills it. -/
def tmpsApart (ops : List Oper) (i j : Nat) : Bool := match ops[i]?, ops[j]? with
  | some oi, some oj =>
    (match oi.dst with
      | some d => !(tmpsOf oj).contains d && !(oj.dst == some d) && !(match oj.guard with | some (k, _) => (ops[k]?).bind (·.dst) == some d | none => false)
      | none => true) &&
    (match oj.dst with
      | some d => !(tmpsOf oi).contains d && !(match oi.guard with | some (k, _) => (ops[k]?).bind (·.dst) == some d | none => false)
      | none => true)
  | _, _ => false
def clsPair (x y : Option Cls) : Bool := match x, y with
  | some (.state k), some (.reads l) | some (.reads l), some (.state k) => k l
  | some (.state _), some (.state _) => false
  | some _, some _ => true
  | _, _ => false
def pairOk (b : List Nat) (ops : List Oper) (cs : List Cls) (i j : Nat) : Bool :=   -- i < j
  (b.getD j 0).testBit i || (tmpsApart ops i j && clsPair cs[i]? cs[j]?)

/-- An order in which every operation stands behind what it waits for. -/
def chkOrder (md : Region.Mode) (ops : Array Oper) : List Nat → List Nat → Bool
  | seen, [] => (List.range ops.size).all fun i => seen.contains i
  | seen, i :: l => (match ops[i]? with
    | some o => o.after.toList.all fun e => !Region.binds md e || seen.contains e.on
    | none => false) && chkOrder md ops (i :: seen) l
/-- Every order that Go may take lists all operations. -/
def ordersOk (ops : Array Oper) : Bool :=
  chkOrder .any ops [] (Region.linearise .any ops 0) && chkOrder .text ops [] (Region.linearise .text ops 0) && chkOrder .gc ops [] (Region.linearise .gc ops 0)

/-- What an operation is by its text alone. -/
inductive SC where
  | free
  | load (t : Tmp)
  | store (t : Tmp)
  | fresh
  | loc (t : Tmp)
  | wild
def scOf (C : Cfg) (f : FuncId) (o : Oper) : SC :=
  match o.op with
  | .load _ (.tmp t) => .load t
  | .load _ _ => .wild
  | .store _ (.tmp t) _ => .store t
  | .store .. => .wild
  | .alloc _ | .box _ _ => .fresh
  | .buildSlice .. | .makeSlice .. => if rfOf C f o then .fresh else .free
  | .call c => match c.callee with
    | .builtin .append => .wild
    | .builtin _ => .free
    | .value (.func h) => match C.mode h with
      | .pure => .free
      | .rd => .fresh
      | .loc => match c.args.toList with
        | .tmp t :: _ => .loc t
        | _ => .wild
      | .keep => .wild
    | _ => .wild
  | _ => .free
def scTmp : SC → Option Tmp
  | .load t | .store t | .loc t => some t
  | _ => none
def scPair : SC → SC → Option (List (Bool × Tmp × Tmp))
  | .free, _ | _, .free => some []
  | .load _, .load _ => some []
  | .load t, .store u | .store u, .load t | .load t, .loc u | .loc u, .load t => some [(true, t, u)]
  | .load t, .fresh | .fresh, .load t => some [(false, t, t)]
  | _, _ => none
def isWild : SC → Bool
  | .wild => true
  | _ => false
def pairSt (b : List Nat) (ops : List Oper) (sc : List SC) (i j : Nat) : Option (List (Bool × Tmp × Tmp)) :=
  if (b.getD j 0).testBit i then some [] else if tmpsApart ops i j then scPair (sc.getD i .wild) (sc.getD j .wild) else none
/-- The pairs of a region that only the values tell apart; none: the region's order is open. -/
def dynOf (C : Cfg) (f : FuncId) (ops : Array Oper) : Option (List (Bool × Tmp × Tmp)) :=
  let b := aheadOf ops.toList []
  let sc := ops.toList.map (scOf C f)
  match (List.range ops.size).mapM fun j => (List.range j).mapM fun i => pairSt b ops.toList sc i j with
  | some ls =>
    let l := (ls.map List.flatten).flatten
    if ordersOk ops && ((List.range ops.size).all fun i => match scTmp (sc.getD i .wild) with
        | some t => (List.range ops.size).all fun j => j < i || !((ops.toList[j]?).bind (·.dst) == some t)
        | none => true) && (l.isEmpty || sc.all fun x => !isWild x) then some l else none
  | none => none
def dynCk (tm : List PV) (st : St) (d : Bool × Tmp × Tmp) : Bool :=
  match tm.getD d.2.1 .any with
  | .eptr _ | .v _ => true
  | .ptr l _ => decide (l < st.locs.length) && (!d.1 || match tm.getD d.2.2 .any with | .ptr k _ => l != k | .v _ => true | _ => false)
  | _ => false
/-- No loop over a function stands in it. -/
def noRF : Code → Bool
  | .seq a b => noRF a && noRF b
  | .cond _ a b => noRF a && noRF b
  | .block _ c => noRF c
  | .loop c => noRF c
  | .scope c => noRF c
  | .rangeFunc .. => false
  | _ => true
/-- The table of open regions is right. -/
def checkDraws (C : Cfg) (f : FuncId) : Code → Bool
  | .region id ops true => match C.dyn f id with
    | some l => dynOf C f ops == some l
    | none => true
  | .seq a b => checkDraws C f a && checkDraws C f b
  | .cond _ a b => checkDraws C f a && checkDraws C f b
  | .block _ c => checkDraws C f c
  | .loop c => checkDraws C f c
  | .rangeFunc _ _ a b => checkDraws C f a && checkDraws C f b && noRF a && noRF b
  | .scope c => checkDraws C f c
  | _ => true

/-- The classes of a region's operations, for the proof alone. -/
def clsOps (C : Cfg) (call : Call) (f : FuncId) (wr : Wr) (all : List Oper) : List Oper → List PV → St → List Cls
  | [], _, _ => []
  | o :: os, tm, st => match wantedP all tm o with
    | some true => match evOp C call f wr tm st o with
      | some (p, st') => clsOf C f tm st o :: clsOps C call f wr all os (putP tm o.dst p) st'
      | none => []
    | some false => .free :: clsOps C call f wr all os (putP tm o.dst (.v undef)) st
    | none => []

def wipe : List Bool → List PV → List PV
  | b :: bs, p :: ps => (if b then p else .any) :: wipe bs ps
  | _, ps => ps

inductive Ex where
  | normal
  | exit (id : Nat)
  | ret

abbrev Outc := Option (Ex × List PV × St)
def thenE (x : Outc) (k : List PV → St → Outc) : Outc := match x with
  | some (.normal, tm, st) => k tm st
  | r => r
def condE (p : PV) (a b : Outc) : Outc := match p with
  | .v (.bool true) => a
  | .v (.bool false) => b
  | _ => none
def blockE (id : Nat) (x : Outc) : Outc := match x with
  | some (.exit j, tm, st) => if j = id then some (.normal, tm, st) else some (.exit j, tm, st)
  | r => r
/-- Behind a region: what is asked of its order, and what is kept. -/
def regE (C : Cfg) (f : FuncId) (id : Nat) (draw : Bool) (st0 : St) (tm : List PV) (st : St) : Outc :=
  match draw with
  | false => some (.normal, wipe (C.keep f id) tm, st)
  | true => match C.dyn f id with
    | some l => if l.all (dynCk tm st0) then some (.normal, wipe (C.keep f id) tm, st) else none
    | none => none
def regR (x : Option (List PV × St)) (k : List PV → St → Outc) : Outc := match x with
  | some (tm, st) => k tm st
  | none => none

abbrev Loop := (List PV → St → Outc) → List PV → St → Outc
def iter : Nat → Loop
  | 0, _, _, _ => none
  | k + 1, body, tm, st => thenE (body tm st) fun tm' st' => iter k body tm' st'

/-- A loop over a function: the one call. -/
def rangeR (f : FuncId) (p : PV) (ps : Array Tmp) (asg bd : Code) (call : Call) (wr : Wr) (tm : List PV) (st : St) : Option (PV × St) := match p with
  | .fn (.func gf) a b => call (.fn gf) (a ++ [.yld f tm ps asg bd] ++ b) wr st
  | _ => none

def evCode (C : Cfg) (call : Call) (it : Loop) (f : FuncId) (wr : Wr) : Code → List PV → St → Outc
  | .skip, tm, st => some (.normal, tm, st)
  | .label _, tm, st => some (.normal, tm, st)
  | .region id ops draw, tm, st => regR (evOps C call f wr ops.toList ops.toList tm st) (regE C f id draw st)
  | .seq a b, tm, st => thenE (evCode C call it f wr a tm st) fun tm' st' => evCode C call it f wr b tm' st'
  | .cond c a b, tm, st => condE (PV.ev tm c) (evCode C call it f wr a tm st) (evCode C call it f wr b tm st)
  | .block id c, tm, st => blockE id (evCode C call it f wr c tm st)
  | .loop c, tm, st => it (fun tm st => evCode C call it f wr c tm st) tm st
  | .scope c, tm, st => evCode C call it f wr c tm st
  | .rangeFunc g ps asg bd, tm, st => bindR (rangeR f (PV.ev tm g) ps asg bd call wr tm st) fun _ st' => if wr.flr = 0 then some (.normal, tm, cleanSt st') else none
  | .exit id, tm, st => some (.exit id, tm, st)
  | .ret, tm, st => some (.ret, tm, st)
  | _, _, _ => none

def evResult (P : Program) (tm : List PV) (st : St) : ResultVar → Option PV
  | .tmp t => some (tm.getD t .any)
  | .cell a t => evLoad P t (tm.getD a .any) st

def evResults (P : Program) (fn : Func) (tm : List PV) (st : St) : Option PV :=
  match fn.results.toList.mapM (evResult P tm st) with
  | some [p] => some p
  | some ps => some (.tuple ps)
  | none => none

/-- A row in memory of its own is written out; its location is given up. -/
def frz1 (wr : Wr) (p : PV) (st : St) : PV × St := match p with
  | .ref l sz off len => match locAt st l with
    | some cs => if wr.ok l = true ∧ off + len * sz ≤ cs.length then (.row (stripRow (chunk sz len (cs.drop off))) .sh, { st with locs := st.locs.set l none }) else (p, st)
    | none => (p, st)
  | _ => (p, st)
def frzs (wr : Wr) : List PV → St → List PV × St
  | [], st => ([], st)
  | p :: ps, st => match frz1 wr p st with
    | (q, st1) => match frzs wr ps st1 with
      | (qs, st2) => (q :: qs, st2)
def frz2 (wr : Wr) (p : PV) (st : St) : PV × St := match p with
  | .agg cs => match frzs wr cs st with
    | (qs, s) => (.agg qs, s)
  | p => frz1 wr p st
def frzs2 (wr : Wr) : List PV → St → List PV × St
  | [], st => ([], st)
  | p :: ps, st => match frz2 wr p st with
    | (q, st1) => match frzs2 wr ps st1 with
      | (qs, st2) => (q :: qs, st2)
def frz3 (wr : Wr) (p : PV) (st : St) : PV × St := match p with
  | .tuple cs => match frzs2 wr cs st with
    | (qs, s) => (.tuple qs, s)
  | p => frz2 wr p st

def frzE (b : Bool) (wr : Wr) (x : Option (PV × St)) : Option (PV × St) := if b then (match x with
  | some (p, st) => some (frz3 wr p st)
  | none => none) else x
def endE (P : Program) (fn : Func) (x : Outc) : Option (PV × St) := match x with
  | some (.normal, tm, st) | some (.ret, tm, st) => (evResults P fn tm st).map fun p => (p, st)
  | _ => none
def evBody (C : Cfg) (call : Call) (it : Loop) (f : FuncId) (args : List PV) (wr : Wr) (st : St) : Option (PV × St) :=
  match C.P.funcs[f]? with
  | none => none
  | some fn => match fn.body with
    | none => none
    | some c => frzE (C.frz f) wr (endE C.P fn (evCode C call it f wr c (args ++ List.replicate (fn.ntmps - args.length) .any) st))

def putAll : List PV → List Tmp → List PV → List PV
  | tm, t :: ts, x :: xs => putAll (tm.set t x) ts xs
  | tm, _, _ => tm
/-- A round of a loop over a function: it must come to its end. -/
def evRound (C : Cfg) (call : Call) (it : Loop) (f : FuncId) (tm : List PV) (ps : Array Tmp) (asg bd : Code) (args : List PV) (wr : Wr) (st : St) : Option (PV × St) :=
  if wr.flr = 0 ∧ args.length = ps.size ∧ checkDraws C f asg = true ∧ checkDraws C f bd = true ∧ noRF asg = true ∧ noRF bd = true then
    match evCode C call it f wr asg (putAll tm ps.toList args) st with
    | some (.normal, tm1, st1) => match evCode C call it f wr bd (tm1.map clean) (cleanSt st1) with
      | some (.normal, _, st2) => some (.v (.bool true), cleanSt st2)
      | _ => none
    | _ => none
  else none

def evCall (C : Cfg) : Nat → Call
  | 0, _, _, _, _ => none
  | k + 1, .fn f, args, wr, st => evBody C (evCall C k) (iter k) f args wr st
  | k + 1, .yl f tm ps asg bd, args, wr, st => evRound C (evCall C k) (iter k) f tm ps asg bd args wr st

end Go.Proofs.YtlkaoiceehlkmaaVE
