/- The abstract layer AX: abstract values, rows of memory with handles, how they relate to the model's worlds, and an abstract weakest precondition over a function's code. Definitions only. -/
import Derived.WalkKit
import Derived.OrdersHeld
set_option linter.unusedSimpArgs false
set_option linter.unusedVariables false
set_option linter.unusedSectionVars false
namespace Go.Ax
open Go

inductive F2 {α β : Type} (R : α → β → Prop) : List α → List β → Prop
  | nil : F2 R [] []
  | cons {a : α} {b : β} {as : List α} {bs : List β} : R a b → F2 R as bs → F2 R (a :: as) (b :: bs)

/-- Where a handle lies: its block, its first cell, how many elements it may hold from there, the cells of an element. -/
structure Pl where
  blk : Nat
  base : Nat
  room : Nat
  esz : Nat

def Pl.ad (p : Pl) (i s : Nat) : Addr := ⟨p.blk, p.base + i * p.esz + s, none⟩

/-- An abstract cell. -/
inductive C
  | any
  | v (x : Value)
  | sl (e h off len : Nat)
  | ptr (h i s : Nat)
  | fn (f : FuncId) (caps : List (Nat × Nat × Nat))

inductive AV
  | c (x : C)
  | agg (xs : List C)

inductive TV
  | a (x : AV)
  | tup (xs : List AV)

abbrev F := List (Nat × TV)

/-- What a row holds. -/
inductive Dat
  | ints (k : IntKind) (xs : List Int)
  | bools (bs : List Bool)
  | recs (rs : List (Int × Int))
  | cells (n : Nat) (cs : List C)

def Dat.esz : Dat → Nat
  | .ints _ _ => 1
  | .bools _ => 1
  | .recs _ => 2
  | .cells n _ => n

def Dat.den : Dat → List C
  | .ints k xs => xs.map fun x => .v (.int k x)
  | .bools bs => bs.map fun b => .v (.bool b)
  | .recs rs => rs.flatMap fun r => [.v (.int .i64 r.1), .v (.int .i64 r.2)]
  | .cells _ cs => cs

def Dat.len : Dat → Nat
  | .ints _ xs => xs.length
  | .bools bs => bs.length
  | .recs rs => rs.length
  | .cells n cs => cs.length / n

inductive Row
  | dead
  | r (own : Bool) (d : Dat)

def Row.own : Row → Bool
  | .dead => false
  | .r o _ => o

def Row.den : Row → List C
  | .dead => []
  | .r _ d => d.den

abbrev Hp := List Row

def CR (φ : List Pl) : C → Value → Prop
  | .any, _ => True
  | .v x, y => y = x
  | .sl e h off len, y => ∃ p a cap, φ[h]? = some p ∧ p.esz = e ∧ y = .slice a len cap ∧ len ≤ cap ∧ cap ≤ maxLen ∧ (cap = 0 ∨ (a = some (p.ad off 0) ∧ off + cap ≤ p.room))
  | .ptr h i s, y => ∃ p, φ[h]? = some p ∧ y = .pointer (some (p.ad i s))
  | .fn f caps, y => ∃ cs : List Value, y = .func (.func f) #[] cs.toArray ∧ F2 (fun (c : Nat × Nat × Nat) z => ∃ p, φ[c.1]? = some p ∧ z = .pointer (some (p.ad c.2.1 c.2.2))) caps cs

def AVR (φ : List Pl) : AV → Value → Prop
  | .c x, y => CR φ x y
  | .agg xs, y => ∃ ys : List Value, y = .agg ys.toArray ∧ F2 (CR φ) xs ys

def TR (φ : List Pl) : TV → Value → Prop
  | .a x, y => AVR φ x y
  | .tup xs, y => ∃ ys : List Value, y = .tuple ys.toArray ∧ F2 (AVR φ) xs ys

def RowOK (φ : List Pl) (Wr : Nat → Prop) (w : World) (p : Pl) : Row → Prop
  | .dead => True
  | .r own d => p.esz = d.esz ∧ (∀ i c, d.den[i]? = some c → ∃ y, w.cell? ⟨p.blk, p.base + i, none⟩ = some y ∧ CR φ c y) ∧
      (own = true → d.den.length ≤ p.room * p.esz ∧ p.base = 0 ∧ (p.room = 0 ∨ (Wr p.blk ∧ ∃ cur e, w.heap[p.blk]? = some (.cells cur e (0, 0)) ∧ cur.size = p.room * p.esz)))

structure RH (φ : List Pl) (Wr : Nat → Prop) (H : Hp) (w : World) : Prop where
  len : φ.length = H.length
  row : ∀ (h : Nat) row p, H[h]? = some row → φ[h]? = some p → RowOK φ Wr w p row
  sep : ∀ (h h' : Nat) row row' p p', h ≠ h' → H[h]? = some row → H[h']? = some row' → φ[h]? = some p → φ[h']? = some p' →
    row.own = true → p.room ≠ 0 → (row'.den ≠ [] ∨ (row'.own = true ∧ p'.room ≠ 0)) → p.blk ≠ p'.blk

/-- Only the blocks of the handles ms (and new ones) have turned. -/
structure Keep (φ : List Pl) (ms : List Nat) (w w' : World) : Prop where
  os : w'.os = w.os
  tape : w'.tape = w.tape
  output : w'.output = w.output
  size : w.heap.size ≤ w'.heap.size
  block : ∀ k, k < w.heap.size → (∀ h ∈ ms, ∀ p, φ[h]? = some p → p.room ≠ 0 → p.blk ≠ k) → w'.heap[k]? = w.heap[k]?

def get : F → Nat → Option TV
  | [], _ => none
  | (k, t) :: f, n => if n = k then some t else get f n

def put (f : F) (d : Option Nat) (t : TV) : F :=
  match d with
  | none => f
  | some d => (d, t) :: f

structure RA (φ : List Pl) (n : Nat) (f : F) (a : Act) : Prop where
  size : a.tmps.size = n
  defers : a.defers = []
  slot : ∀ k t, get f k = some t → k < n ∧ ∃ y, a.tmps[k]? = some y ∧ TR φ t y

def ofV : Value → TV
  | .agg cs => .a (.agg (cs.toList.map .v))
  | v => .a (.c (.v v))

def uT : TV := .a (.c (.v (.tuple #[])))

def aev (f : F) : Operand → Option TV
  | .tmp t => get f t
  | .const v => some (ofV v)
  | .global _ => none
  | .func k => some (.a (.c (.fn k [])))

def aevs (f : F) : List Operand → Option (List TV)
  | [] => some []
  | x :: xs => match aev f x, aevs f xs with
    | some t, some ts => some (t :: ts)
    | _, _ => none

def sz (P : Program) (e : TypeId) : Option Nat := (P.info? e).map (·.size)
def byt (P : Program) (e : TypeId) : Option Nat := (P.info? e).map (·.bytes)
def zr (P : Program) (e : TypeId) : Option Value := (P.info? e).bind (·.zero)

def inI64 (n : Int) : Prop := -9223372036854775808 ≤ n ∧ n ≤ 9223372036854775807

def arR (k : IntKind) (r : Int) : Prop × Value :=
  match k with
  | .i64 => (inI64 r, .int .i64 r)
  | k => (True, .int k (k.wrap r))

def one (p : Prop × Value) : Option (Prop × TV) := some (p.1, .a (.c (.v p.2)))
def onb (b : Bool) : Option (Prop × TV) := some (True, .a (.c (.v (.bool b))))

def abits (op : BinOp) (k : IntKind) (x y : Int) : Option (Prop × TV) :=
  match op with
  | .and => one (True, .int k (k.wrap (BitVec.ofInt k.bits x &&& BitVec.ofInt k.bits y).toNat))
  | .or => one (True, .int k (k.wrap (BitVec.ofInt k.bits x ||| BitVec.ofInt k.bits y).toNat))
  | .xor => one (True, .int k (k.wrap (BitVec.ofInt k.bits x ^^^ BitVec.ofInt k.bits y).toNat))
  | _ => none

/-- A binary operation on two integers of one kind. -/
def abin (op : BinOp) (k : IntKind) (a b : Int) : Option (Prop × TV) :=
  match op with
  | .add => one (arR k (a + b))
  | .sub => one (arR k (a - b))
  | .mul => one (arR k (a * b))
  | .quo => one (b ≠ 0 ∧ (arR k (a.tdiv b)).1, (arR k (a.tdiv b)).2)
  | .rem => one (b ≠ 0, .int k (a.tmod b))
  | .and => abits .and k a b
  | .or => abits .or k a b
  | .xor => abits .xor k a b
  | .eql => onb (a == b)
  | .neq => onb (a != b)
  | .lss => onb (decide (a < b))
  | .leq => onb (decide (a ≤ b))
  | .gtr => onb (decide (b < a))
  | .geq => onb (decide (b ≤ a))
  | _ => none

def ashift (op : BinOp) (k : IntKind) (a b : Int) : Option (Prop × TV) :=
  match op with
  | .shl => one ((0 ≤ b ∧ b < (k.bits : Int)) ∧ (arR k (a * 2 ^ b.toNat)).1, (arR k (a * 2 ^ b.toNat)).2)
  | .shr => one (0 ≤ b ∧ b < (k.bits : Int), .int k (a.fdiv (2 ^ b.toNat)))
  | _ => none

def opBin (P : Program) (op : BinOp) (t : TypeId) : TV → TV → Option (Prop × TV)
  | .a (.c (.v (.int k a))), .a (.c (.v (.int k' b))) =>
    if op = .shl ∨ op = .shr then ashift op k a b else if k = k' then abin op k a b else none
  | .a (.c (.v (.bool a))), .a (.c (.v (.bool b))) =>
    match P.underlying t with
    | some .bool => (match op with
      | .eql => onb (a == b)
      | .neq => onb (a != b)
      | _ => none)
    | _ => none
  | _, _ => none

def opUn (op : UnOp) : TV → Option (Prop × TV)
  | .a (.c (.v (.bool b))) => (match op with
    | .not => onb (!b)
    | _ => none)
  | .a (.c (.v (.int k n))) => (match op with
    | .neg => one (arR k (0 - n))
    | _ => none)
  | _ => none

def opIdx (P : Program) (t : TypeId) : TV → TV → Option (Prop × TV)
  | .a (.c (.sl e h off len)), .a (.c (.v (.int _ i))) =>
    (match P.underlying t with
    | some (.slice el) => if sz P el = some e then some (0 ≤ i ∧ i < (len : Int), .a (.c (.ptr h (off + i.toNat) 0))) else none
    | _ => none)
  | _, _ => none

/-- The bound of a slice expression. -/
def opBd (d : Nat) : Option (Option TV) → Option (Prop × Int)
  | none => some (True, (d : Int))
  | some (some (.a (.c (.v (.int _ i))))) => some (True, i)
  | _ => none

def opSl (P : Program) (t : TypeId) (x : TV) (lo hi : Option (Option TV)) : Option (Prop × TV) :=
  match x with
  | .a (.c (.sl e h off len)) =>
    (match P.underlying t, opBd 0 lo, opBd len hi with
    | some (.slice el), some (_, l), some (_, r) =>
      if sz P el = some e then some ((0 ≤ l ∧ l ≤ r) ∧ r ≤ (len : Int), .a (.c (.sl e h (off + l.toNat) (r.toNat - l.toNat)))) else none
    | _, _, _ => none)
  | _ => none

def opLen (P : Program) (t : TypeId) : TV → Option (Prop × TV)
  | .a (.c (.sl _ _ _ len)) => (match P.underlying t with
    | some (.slice _) => one (True, .int .i64 (len : Int))
    | _ => none)
  | .a (.c (.v (.slice a n c))) => (match P.underlying t with
    | some (.slice _) => one (True, .int .i64 (n : Int))
    | _ => none)
  | _ => none

def opMax : TV → TV → Option (Prop × TV)
  | .a (.c (.v (.int k x))), .a (.c (.v (.int _ y))) => one (True, .int k (max x y))
  | _, _ => none
def opMin : TV → TV → Option (Prop × TV)
  | .a (.c (.v (.int k x))), .a (.c (.v (.int _ y))) => one (True, .int k (min x y))
  | _, _ => none

def opConv (P : Program) (s d : TypeId) : TV → Option (Prop × TV)
  | .a (.c (.v (.int k n))) => (match P.underlying s, P.underlying d with
    | some (.int _), some (.int k') => one (arR k' n)
    | _, _ => none)
  | _ => none

def opExt : TV → Nat → Option (Prop × TV)
  | .tup xs, i => (match xs[i]? with
    | some x => some (True, .a x)
    | none => none)
  | _, _ => none

def opFA (P : Program) (s : TypeId) (x : TV) (k : Nat) : Option (Prop × TV) :=
  match x with
  | .a (.c (.ptr h i o)) => (match P.underlying s with
    | some (.struct fs) => (match fs[k]? with
      | some fd => if sz P fd.type = some 1 then some (True, .a (.c (.ptr h i (o + fd.offset)))) else none
      | none => none)
    | _ => none)
  | _ => none

def isAggB (P : Program) (t : TypeId) : Option Bool :=
  match P.underlying t with
  | some (.struct _) => some true
  | some (.array _ _) => some true
  | some _ => some false
  | none => none

def opField (P : Program) (t : TypeId) (x : TV) (k : Nat) : Option (Prop × TV) :=
  match x with
  | .a (.agg cs) => (match P.underlying t with
    | some (.struct fs) => (match fs[k]? with
      | some fd => (match isAggB P fd.type with
        | some false => (match cs[fd.offset]? with
          | some c => some (True, .a (.c c))
          | none => none)
        | _ => none)
      | none => none)
    | _ => none)
  | _ => none

def capsOf (f : F) : List Operand → Option (List (Nat × Nat × Nat))
  | [] => some []
  | x :: xs => match aev f x, capsOf f xs with
    | some (.a (.c (.ptr h i s))), some cs => some ((h, i, s) :: cs)
    | _, _ => none

def Dat.ld : Dat → Nat → Nat → Option (Prop × C)
  | .ints k xs, i, 0 => some (i < xs.length, .v (.int k (xs.getD i 0)))
  | .bools bs, i, 0 => some (i < bs.length, .v (.bool (bs.getD i false)))
  | .recs rs, i, 0 => some (i < rs.length, .v (.int .i64 (rs.getD i (0, 0)).1))
  | .recs rs, i, 1 => some (i < rs.length, .v (.int .i64 (rs.getD i (0, 0)).2))
  | .cells n cs, i, s => (match cs[i * n + s]? with
    | some c => some (True, c)
    | none => none)
  | _, _, _ => none

def Dat.ldn : Dat → Nat → Nat → Nat → Option (Prop × List C)
  | .recs rs, i, 0, 2 => some (i < rs.length, [.v (.int .i64 (rs.getD i (0, 0)).1), .v (.int .i64 (rs.getD i (0, 0)).2)])
  | .cells n cs, i, s, m => if i * n + s + m ≤ cs.length then some (True, (cs.drop (i * n + s)).take m) else none
  | _, _, _, _ => none

def opLd (P : Program) (H : Hp) (t : TypeId) : TV → Option (Prop × TV)
  | .a (.c (.ptr h i s)) => (match H[h]? with
    | some (.r _ d) => (match isAggB P t with
      | some false => (match d.ld i s with
        | some (vc, c) => some (vc, .a (.c c))
        | none => none)
      | some true => (match sz P t with
        | some n => if n = 0 then none else (match d.ldn i s n with
          | some (vc, cs) => some (vc, .a (.agg cs))
          | none => none)
        | none => none)
      | none => none)
    | _ => none)
  | _ => none

def C.isOne : C → Bool
  | .any => false
  | .v x => x.oneCell'
  | _ => true

def Dat.st : Dat → Nat → Nat → List C → Option (Prop × Dat)
  | .ints k xs, i, 0, [.v (.int k' x)] => if k = k' then some (i < xs.length, .ints k (xs.set i x)) else none
  | .bools bs, i, 0, [.v (.bool b)] => some (i < bs.length, .bools (bs.set i b))
  | .recs rs, i, 0, [.v (.int .i64 x), .v (.int .i64 y)] => some (i < rs.length, .recs (rs.set i (x, y)))
  | .recs rs, i, 0, [.v (.int .i64 x)] => some (i < rs.length, .recs (rs.set i (x, (rs.getD i (0, 0)).2)))
  | .recs rs, i, 1, [.v (.int .i64 x)] => some (i < rs.length, .recs (rs.set i ((rs.getD i (0, 0)).1, x)))
  | .cells n cs, i, s, [c] => if i * n + s < cs.length ∧ c.isOne = true then some (True, .cells n (cs.set (i * n + s) c)) else none
  | .cells n cs, i, s, [c, d, e] => if i * n + s + 2 < cs.length ∧ c.isOne = true ∧ d.isOne = true ∧ e.isOne = true then some (True, .cells n (((cs.set (i * n + s) c).set (i * n + s + 1) d).set (i * n + s + 2) e)) else none
  | .cells n cs, i, s, [c, d] => if i * n + s + 1 < cs.length ∧ c.isOne = true ∧ d.isOne = true then some (True, .cells n ((cs.set (i * n + s) c).set (i * n + s + 1) d)) else none
  | _, _, _, _ => none

structure SR where
  vc : Prop
  tv : TV
  H : Hp
  ms : List Nat

def cellsOf : TV → Option (List C)
  | .a (.c c) => if c.isOne = true then some [c] else none
  | .a (.agg cs) => some cs
  | _ => none

def opSt (P : Program) (H : Hp) (t : TypeId) (x v : TV) : Option SR :=
  match x with
  | .a (.c (.ptr h i s)) => (match H[h]?, cellsOf v with
    | some (.r true d), some cs => (match d.st i s cs with
      | some (vc, d') => if sz P t = some cs.length then some ⟨vc, uT, H.set h (.r true d'), [h]⟩ else none
      | none => none)
    | _, _ => none)
  | _ => none

/-- The row that a slice of elements with this zero value has: n of them. -/
def zrow (z : Value) (n : Nat) : Option Dat :=
  match z with
  | .int k 0 => some (.ints k (List.replicate n 0))
  | .bool false => some (.bools (List.replicate n false))
  | .slice none 0 0 => some (.cells 1 (List.replicate n (.v (.slice none 0 0))))
  | _ => none

/-- The zero value of a struct of two ints. -/
def isRec0 : Value → Bool
  | .agg a => (match a.toList with
    | [.int .i64 0, .int .i64 0] => true
    | _ => false)
  | _ => false

def opMk (P : Program) (H : Hp) (t : TypeId) : TV → TV → Option SR
  | .a (.c (.v (.int .i64 l))), .a (.c (.v (.int .i64 c))) =>
    (match P.underlying t with
    | some (.slice e) => (match sz P e, byt P e, zr P e with
      | some 1, some b, some z => (match zrow z l.toNat with
        | some d => some ⟨((0 ≤ l ∧ l = c) ∧ b * l.toNat ≤ 281474976710656) ∧ l ≤ 9223372036854775807, .a (.c (.sl 1 H.length 0 l.toNat)), H ++ [.r true d], []⟩
        | none => none)
      | some 2, some b, some z => if isRec0 z = true then some ⟨((0 ≤ l ∧ l = c) ∧ b * l.toNat ≤ 281474976710656) ∧ l ≤ 9223372036854775807, .a (.c (.sl 2 H.length 0 l.toNat)), H ++ [.r true (.recs (List.replicate l.toNat (0, 0)))], []⟩ else none
      | _, _, _ => none)
    | _ => none)
  | _, _ => none

def isRange (k : Nat) : List Nat → Bool
  | [] => true
  | x :: xs => x == k && isRange (k + 1) xs

/-- A literal slice's row, by its element's zero value. -/
def litrow (z : Value) : List TV → Option Dat
  | ts => match z with
    | .int k 0 => (intsOf k ts).map (Dat.ints k)
    | .bool false => (boolsOf ts).map Dat.bools
    | .agg a => if isRec0 (.agg a) = true then (recsOf ts).map Dat.recs else (aggsOf ts).map (Dat.cells 2)
    | .slice none 0 0 => (slicesOf ts).map (Dat.cells 1)
    | _ => none
where
  intsOf (k : IntKind) : List TV → Option (List Int)
    | [] => some []
    | .a (.c (.v (.int k' x))) :: ts => if k = k' then (match intsOf k ts with | some xs => some (x :: xs) | none => none) else none
    | _ => none
  boolsOf : List TV → Option (List Bool)
    | [] => some []
    | .a (.c (.v (.bool x))) :: ts => (match boolsOf ts with | some xs => some (x :: xs) | none => none)
    | _ => none
  recsOf : List TV → Option (List (Int × Int))
    | [] => some []
    | .a (.agg [.v (.int .i64 x), .v (.int .i64 y)]) :: ts => (match recsOf ts with | some xs => some ((x, y) :: xs) | none => none)
    | _ => none
  slicesOf : List TV → Option (List C)
    | [] => some []
    | .a (.c c) :: ts => if c.isOne = true then (match slicesOf ts with | some xs => some (c :: xs) | none => none) else none
    | _ => none
  aggsOf : List TV → Option (List C)
    | [] => some []
    | .a (.agg [c, d]) :: ts => (match aggsOf ts with | some xs => some (c :: d :: xs) | none => none)
    | _ => none

def opBS (P : Program) (f : F) (H : Hp) (t : TypeId) (len : Nat) (parts : List (Nat × Operand)) : Option SR :=
  match P.underlying t with
  | some (.slice e) => (match sz P e, zr P e, aevs f (parts.map (·.2)) with
    | some s, some z, some ts => (match litrow z ts with
      | some d => if isRange 0 (parts.map (·.1)) = true ∧ parts.length = len ∧ len ≤ 1000 ∧ d.esz = s ∧ z.cells.size = s then
          some ⟨True, .a (.c (.sl s H.length 0 len)), H ++ [.r true d], []⟩ else none
      | none => none)
    | _, _, _ => none)
  | _ => none

def opAl (P : Program) (H : Hp) (t : TypeId) : Option SR :=
  match zr P t with
  | some z => some ⟨True, .a (.c (.ptr H.length 0 0)), H ++ [.r true (.cells z.cells.size (z.cells.toList.map .v))], []⟩
  | none => none

def opBox (H : Hp) (v : TV) : Option SR :=
  match cellsOf v with
  | some cs => some ⟨True, .a (.c (.ptr H.length 0 0)), H ++ [.r true (.cells cs.length cs)], []⟩
  | none => none

/-- What a slice (off, len) of a row holds, onto which another slice is appended. -/
def Dat.part : Dat → Nat → Nat → Option (Prop × Dat)
  | .ints k xs, o, n => some (o + n ≤ xs.length, .ints k ((xs.drop o).take n))
  | .bools xs, o, n => some (o + n ≤ xs.length, .bools ((xs.drop o).take n))
  | .recs xs, o, n => some (o + n ≤ xs.length, .recs ((xs.drop o).take n))
  | .cells 1 cs, o, n => if ((cs.drop o).take n).all C.isOne = true then some (o + n ≤ cs.length, .cells 1 ((cs.drop o).take n)) else none
  | .cells 2 cs, o, n => if ((cs.drop (o * 2)).take (n * 2)).all C.isOne = true then some (o * 2 + n * 2 ≤ cs.length, .cells 2 ((cs.drop (o * 2)).take (n * 2))) else none
  | _, _, _ => none

def Dat.app : Dat → Dat → Option Dat
  | .ints k xs, .ints k' ys => if k = k' then some (.ints k (xs ++ ys)) else none
  | .bools xs, .bools ys => some (.bools (xs ++ ys))
  | .recs xs, .recs ys => some (.recs (xs ++ ys))
  | .cells 1 xs, .cells 1 ys => some (.cells 1 (xs ++ ys))
  | .cells 2 xs, .cells 2 ys => some (.cells 2 (xs ++ ys))
  | _, _ => none

def nilS : TV := .a (.c (.v (.slice none 0 0)))

/-- A slice that is its whole row. -/
def Dat.whole : Dat → Nat → Nat → Option Prop
  | .ints _ xs, 0, n => some (n = xs.length)
  | .bools xs, 0, n => some (n = xs.length)
  | .recs xs, 0, n => some (n = xs.length)
  | .cells 1 cs, 0, n => if cs.all C.isOne = true then some (n = cs.length) else none
  | .cells 2 cs, 0, n => if cs.all C.isOne = true then some (n * 2 = cs.length) else none
  | _, _, _ => none

def opApp (P : Program) (H : Hp) (tys : List TypeId) (x y : TV) : Option SR :=
  match tys with
  | [t1, t2] => (match P.underlying t1, t1 == t2 with
    | some (.slice e), true => (match sz P e, byt P e, zr P e with
      | some s, some b, some z => (match x, y with
        | .a (.c (.sl es h off len)), .a (.c (.sl es' h' off' len')) => (match H[h]?, H[h']? with
          | some (.r true d), some (.r _ d') => (match d.whole off len, d'.part off' len' with
            | some v1, some (v2, d2) => (match d.app d2 with
              | some d3 => if (es = s ∧ es' = s) ∧ z.cells.size = s ∧ d'.esz = s then
                  some ⟨(v1 ∧ v2) ∧ (len + len') * b ≤ 140737488355328 ∧ len + len' ≤ 9223372036854775807, .a (.c (.sl s H.length 0 (len + len'))), H.set h .dead ++ [.r true d3], [h]⟩ else none
              | none => none)
            | _, _ => none)
          | _, _ => none)
        | .a (.c (.v (.slice none 0 0))), .a (.c (.sl es' h' off' len')) => (match H[h']? with
          | some (.r _ d') => (match d'.part off' len' with
            | some (v2, d2) => if es' = s ∧ z.cells.size = s ∧ d'.esz = s then
                some ⟨v2 ∧ len' * b ≤ 140737488355328 ∧ len' ≤ 9223372036854775807, .a (.c (.sl s H.length 0 len')), H ++ [.r true d2], []⟩ else none
            | none => none)
          | _ => none)
        | _, _ => none)
      | _, _, _ => none)
    | _, _ => none)
  | _ => none

def pu : Option (Prop × TV) → Hp → Option SR
  | some (vc, t), H => some ⟨vc, t, H, []⟩
  | none, _ => none

def o2 (x y : Option TV) (g : TV → TV → Option (Prop × TV)) : Option (Prop × TV) :=
  match x, y with
  | some a, some b => g a b
  | _, _ => none
def o1 (x : Option TV) (g : TV → Option (Prop × TV)) : Option (Prop × TV) :=
  match x with
  | some a => g a
  | none => none

def opPick (c x y : TV) : Option (Prop × TV) :=
  match c with
  | .a (.c (.v (.bool b))) => some (True, if b = true then x else y)
  | _ => none

/-- A struct's cells, some of them laid. -/
def opBuildL (P : Program) (fs : Array Field) : List C → List (Nat × TV) → Option (List C)
  | cs, [] => some cs
  | cs, (i, t) :: rest => (match fs[i]?, t with
    | some fd, .a (.c c) => if sz P fd.type = some 1 ∧ c.isOne = true ∧ fd.offset < cs.length then opBuildL P fs (cs.set fd.offset c) rest else none
    | _, _ => none)

def evParts (f : F) : List (Nat × Operand) → Option (List (Nat × TV))
  | [] => some []
  | (i, x) :: xs => match aev f x, evParts f xs with
    | some t, some ts => some ((i, t) :: ts)
    | _, _ => none

def allSz (P : Program) : List Field → Bool
  | [] => true
  | f :: fs => (sz P f.type).isSome && allSz P fs

def opBuild (P : Program) (f : F) (t : TypeId) (parts : List (Nat × Operand)) : Option (Prop × TV) :=
  match P.underlying t, zr P t with
  | some (.struct fs), some z => if allSz P fs.toList = true then (match evParts f parts with
    | some ps => (match opBuildL P fs (z.cells.toList.map .v) ps with
      | some cs => some (True, .a (.agg cs))
      | none => none)
    | none => none) else none
  | _, _ => none

/-- The operations that leave the world alone and do not look at it. -/
def apure (P : Program) (f : F) : Op → Option (Prop × TV)
  | .move x => o1 (aev f x) fun t => some (True, t)
  | .assign x => o1 (aev f x) fun t => some (True, t)
  | .pick c x y => (match aev f c, aev f x, aev f y with
    | some c, some x, some y => opPick c x y
    | _, _, _ => none)
  | .binOp op t x y _ => o2 (aev f x) (aev f y) (opBin P op t)
  | .unOp op _ x => o1 (aev f x) (opUn op)
  | .extract t i => o1 (aev f t) fun t => opExt t i
  | .indexAddr t x i => o2 (aev f x) (aev f i) (opIdx P t)
  | .slice t x lo hi none => o1 (aev f x) fun x => opSl P t x (lo.map (aev f)) (hi.map (aev f))
  | .fieldAddr s x k => o1 (aev f x) fun x => opFA P s x k
  | .field s x k => o1 (aev f x) fun x => opField P s x k
  | .convert s d x => o1 (aev f x) (opConv P s d)
  | .makeFunc (.func k) first caps => if first.size = 0 then (match capsOf f caps.toList with
    | some cs => some (True, .a (.c (.fn k cs)))
    | none => none) else none
  | .nilCheck x => o1 (aev f x) fun t => (match t with
    | .a (.c (.ptr h i s)) => some (True, .a (.c (.ptr h i s)))
    | _ => none)
  | .call { callee := .builtin .len, args, argTypes } => (match args.toList, argTypes.toList with
    | [x], [t] => o1 (aev f x) (opLen P t)
    | _, _ => none)
  | .call { callee := .builtin .max, args, .. } => (match args.toList with
    | [x, y] => o2 (aev f x) (aev f y) opMax
    | _ => none)
  | .call { callee := .builtin .min, args, .. } => (match args.toList with
    | [x, y] => o2 (aev f x) (aev f y) opMin
    | _ => none)
  | .build t parts => opBuild P f t parts.toList
  | _ => none

/-- The operations that write, or that make memory. -/
def aeff (P : Program) (f : F) (H : Hp) : Op → Option SR
  | .store t x v => (match aev f x, aev f v with
    | some x, some v => opSt P H t x v
    | _, _ => none)
  | .makeSlice t l c => (match aev f l, aev f c with
    | some l, some c => opMk P H t l c
    | _, _ => none)
  | .buildSlice t len parts => opBS P f H t len parts.toList
  | .alloc t => opAl P H t
  | .box _ v => (match aev f v with
    | some v => opBox H v
    | none => none)
  | .call { callee := .builtin .append, args, argTypes } => (match args.toList with
    | [x, y] => (match aev f x, aev f y with
      | some x, some y => opApp P H argTypes.toList x y
      | _, _ => none)
    | _ => none)
  | _ => none

def aload (P : Program) (f : F) (H : Hp) : Op → Option (Prop × TV)
  | .load t x => o1 (aev f x) (opLd P H t)
  | _ => none

inductive Kd | pure | load | eff | call

def kd : Op → Kd
  | .load .. => .load
  | .store .. => .eff
  | .makeSlice .. => .eff
  | .buildSlice .. => .eff
  | .alloc .. => .eff
  | .box .. => .eff
  | .call { callee := .builtin .append, .. } => .eff
  | .call { callee := .value _, .. } => .call
  | _ => .pure

/-! ### Calls -/

def Enters (P : Program) (k : FuncId) : Prop := ∃ fn, P.funcs[k]? = some fn ∧ (fn.name == "runtime.NumGoroutine") = false ∧ fn.body.isNone = false

/-- A call of function k with these arguments, in this heap, may turn the rows ms, and ends with R. -/
def ACalls (P : Program) (k : FuncId) (args : List TV) (ms : List Nat) (H : Hp) (R : TV → Hp → Prop) : Prop :=
  Enters P k ∧ (∀ m ∈ ms, ∃ d, H[m]? = some (.r true d)) ∧
  ∀ (φ : List Pl) (Wr : Nat → Prop) (w : World) (vs : List Value), RH φ Wr H w → (∀ b, w.heap.size ≤ b → Wr b) → F2 (TR φ) args vs →
    Calls P k vs.toArray w fun e w' => ∃ φ' ret v H', e = .returned v ∧ φ <+: φ' ∧ TR φ' ret v ∧ RH φ' Wr H' w' ∧ Keep φ ms w w' ∧ R ret H'

def ptrT (c : Nat × Nat × Nat) : TV := .a (.c (.ptr c.1 c.2.1 c.2.2))

def callOf (f : F) : Op → Option (FuncId × List TV)
  | .call { callee := .value g, args, .. } => (match aev f g, aevs f args.toList with
    | some (.a (.c (.fn k caps))), some ts => some (k, ts ++ caps.map ptrT)
    | _, _ => none)
  | _ => none

/-- One operation, what follows behind K. -/
def aop (P : Program) (dst : Option Nat) (op : Op) (K : F → Hp → Prop) (f : F) (H : Hp) : Prop :=
  match kd op with
  | .pure => (match apure P f op with
    | some (vc, t) => vc ∧ K (put f dst t) H
    | none => False)
  | .load => (match aload P f H op with
    | some (vc, t) => vc ∧ K (put f dst t) H
    | none => False)
  | .eff => (match aeff P f H op with
    | some r => r.vc ∧ K (put f dst r.tv) r.H
    | none => False)
  | .call => (match callOf f op with
    | some (k, ts) => ∃ ms, ACalls P k ts ms H (fun t H' => K (put f dst t) H')
    | none => False)

/-- What the guard's temporary holds: some (some b), a Bool; some none: it was skipped. -/
def agd (all : List Oper) (f : F) (j : Nat) : Option (Option Bool) :=
  match all[j]? with
  | some o => (match o.dst with
    | some d => (match get f d with
      | some (.a (.c (.v (.bool b)))) => some (some b)
      | some (.a (.c (.v (.tuple _)))) => some none
      | _ => none)
    | none => none)
  | none => none

def aguard (all : List Oper) (o : Oper) (f : F) (yes no : Prop) : Prop :=
  match o.guard with
  | none => yes
  | some (j, want) => (match agd all f j with
    | some (some b) => if b = want then yes else no
    | some none => no
    | none => False)

def awpOps (P : Program) (all : List Oper) (Q : F → Hp → Prop) : List Oper → F → Hp → Prop
  | [], f, H => Q f H
  | o :: rest, f, H => aguard all o f (aop P o.dst o.op (awpOps P all Q rest) f H) (awpOps P all Q rest (put f o.dst uT) H)

/-- A region whose sums may wrap. -/
def w64 (r : Int) : Int := IntKind.i64.wrap r

def wAdd : Option TV → Option TV → Option (Prop × TV)
  | some (.a (.c (.v (.int .i64 a)))), some (.a (.c (.v (.int .i64 b)))) => some (True, .a (.c (.v (.int .i64 (w64 (a + b))))))
  | _, _ => none
def wSub : Option TV → Option TV → Option (Prop × TV)
  | some (.a (.c (.v (.int .i64 a)))), some (.a (.c (.v (.int .i64 b)))) => some (True, .a (.c (.v (.int .i64 (w64 (a - b))))))
  | _, _ => none

def apureW (f : F) : Op → Option (Prop × TV)
  | .binOp .add _ x y _ => wAdd (aev f x) (aev f y)
  | .binOp .sub _ x y _ => wSub (aev f x) (aev f y)
  | _ => none

def aopW (P : Program) (dst : Option Nat) (op : Op) (K : F → Hp → Prop) (f : F) (H : Hp) : Prop :=
  match apureW f op with
  | some (vc, t) => vc ∧ K (put f dst t) H
  | none => aop P dst op K f H

def awpOpsW (P : Program) (all : List Oper) (Q : F → Hp → Prop) : List Oper → F → Hp → Prop
  | [], f, H => Q f H
  | o :: rest, f, H => aguard all o f (aopW P o.dst o.op (awpOpsW P all Q rest) f H) (awpOpsW P all Q rest (put f o.dst uT) H)

/-- How an operation of a region that draws its order is taken: it alone may come up; it may be taken first, for nobody in the region touches what it looks at; it may be taken first, for whatever writes waits for it. -/
inductive Tk
  | only
  | held
  | now

/-- An order: an operation after the other; two that may both come up, and an order behind each. -/
inductive DT
  | nil
  | op (i : Nat) (t : Tk) (r : DT)
  | two (i j : Nat) (a b : DT)
  | free (r : DT)

/-- A region that draws its order: the handles that it may turn, and an order. -/
structure DR where
  ms : List Nat
  ord : DT

def isQ (o : Op) : Bool :=
  match kd o with
  | .pure => true
  | .load => true
  | _ => false

/-- Those that wait for number i. -/
def mkB (ops : Array Oper) (l : Array Bool) (i : Nat) : List Nat :=
  (List.range ops.size).foldl (fun b j => if j == i || (!(l.getD j true) && (match ops[j]? with
    | some o => o.after.any (fun e => Region.binds .any e && b.contains e.on)
    | none => false)) then j :: b else b) []

def nowOK (ops : Array Oper) (l : Array Bool) (i : Nat) (b : List Nat) : Bool :=
  (b.contains i && b.all (fun j => decide (j < ops.size))) && (l.size == ops.size) && (List.range ops.size).all fun j => (match ops[j]? with
    | none => true
    | some o => if b.contains j then !(l.getD j true) && (j == i || o.after.any fun e => Region.binds .any e && b.contains e.on) else l.getD j true || isQ o.op)

def tkOK (ops : Array Oper) (l : Array Bool) (i : Nat) : Tk → Bool
  | .only => Region.ready .any ops l == [i]
  | .held => (Region.ready .any ops l).contains i && Region.free .any ops l i
  | .now => ((Region.ready .any ops l).contains i && Region.free .any ops l i) && nowOK ops l i (mkB ops l i)

def drawFrom (ops : Array Oper) : Nat → DT → Array Bool → Bool
  | _, .nil, l => (Region.ready .any ops l).isEmpty
  | n + 1, .op i t r, l => tkOK ops l i t && drawFrom ops n r (l.setIfInBounds i true)
  | n + 1, .two i j a b, l => (Region.ready .any ops l == [i, j]) && (drawFrom ops n a (l.setIfInBounds i true) && drawFrom ops n b (l.setIfInBounds j true))
  | _, .free _, _ => false
  | 0, _, _ => false

/-- An order that leaves open which handles its region turns: that is said where the region is walked. -/
def DT.core : DT → DT
  | .free r => r
  | r => r

def drawOK (ops : Array Oper) (ord : DT) : Bool :=
  Region.noSelect ops && drawFrom ops ops.size ord.core (Array.replicate ops.size false)

def ldC (t : Tk) (p : Prop) : Prop :=
  match t with
  | .held => p
  | _ => True

def onC : Tk → Prop
  | .only => True
  | _ => False

/-- A load that may be taken first: of a row that is as it was at the region's start and that the region does not turn. -/
def ldHeld (f : F) (ms : List Nat) (H1 H : Hp) : Op → Prop
  | .load _ x => (match aev f x with
    | some (.a (.c (.ptr h _ _))) => h < H1.length ∧ ¬ h ∈ ms
    | _ => False)
  | _ => False

/-- The rows of the region's start that it does not turn are as they were. -/
def sameFrom (ms : List Nat) : Nat → Hp → Hp → Prop
  | _, [], _ => True
  | i, _ :: H1, [] => i ∈ ms ∧ sameFrom ms (i + 1) H1 []
  | i, r :: H1, r' :: H => (i ∈ ms ∨ r' = r) ∧ sameFrom ms (i + 1) H1 H

def msOwn (H : Hp) : List Nat → Prop
  | [] => True
  | m :: ms => (match H[m]? with
    | some (.r true _) => True
    | _ => False) ∧ msOwn H ms

def msIn (ms : List Nat) (n0 : Nat) : List Nat → Prop
  | [] => True
  | m :: l => (m ∈ ms ∨ n0 ≤ m) ∧ msIn ms n0 l

/-- One operation of a region that draws. -/
def aopD (P : Program) (ms : List Nat) (H1 : Hp) (tk : Tk) (dst : Option Nat) (op : Op) (K : F → Hp → Prop) (f : F) (H : Hp) : Prop :=
  match kd op with
  | .pure => (match apure P f op with
    | some (vc, t) => vc ∧ K (put f dst t) H
    | none => False)
  | .load => (match aload P f H op with
    | some (vc, t) => ldC tk (ldHeld f ms H1 H op) ∧ vc ∧ K (put f dst t) H
    | none => False)
  | .eff => (match aeff P f H op with
    | some r => onC tk ∧ msIn ms H1.length r.ms ∧ sameFrom ms 0 H1 r.H ∧ r.vc ∧ K (put f dst r.tv) r.H
    | none => False)
  | .call => (match callOf f op with
    | some (k, ts) => onC tk ∧ ∃ ms', msIn ms H1.length ms' ∧ ACalls P k ts ms' H (fun t H' => sameFrom ms 0 H1 H' ∧ K (put f dst t) H')
    | none => False)

def awpOrd (P : Program) (all : List Oper) (ms : List Nat) (H1 : Hp) (Q : F → Hp → Prop) : DT → F → Hp → Prop
  | .nil, f, H => Q f H
  | .op i t rest, f, H => (match all[i]? with
    | some o => aguard all o f (aopD P ms H1 t o.dst o.op (awpOrd P all ms H1 Q rest) f H) (awpOrd P all ms H1 Q rest (put f o.dst uT) H)
    | none => False)
  | .two i j a b, f, H => (match all[i]?, all[j]? with
    | some o, some o' => aguard all o f (aopD P ms H1 .only o.dst o.op (awpOrd P all ms H1 Q a) f H) (awpOrd P all ms H1 Q a (put f o.dst uT) H) ∧
        aguard all o' f (aopD P ms H1 .only o'.dst o'.op (awpOrd P all ms H1 Q b) f H) (awpOrd P all ms H1 Q b (put f o'.dst uT) H)
    | _, _ => False)
  | .free _, _, _ => False

/-! ### Forgetting: a state seen as another, by a list that says for each new handle which old one it is -/

def C.ren (ρ : List Nat) : C → C
  | .any => .any
  | .v x => .v x
  | .sl e h o n => .sl e (ρ.getD h 0) o n
  | .ptr h i s => .ptr (ρ.getD h 0) i s
  | .fn f cs => .fn f (cs.map fun c => (ρ.getD c.1 0, c.2))

def AV.ren (ρ : List Nat) : AV → AV
  | .c x => .c (x.ren ρ)
  | .agg xs => .agg (xs.map (C.ren ρ))

def TV.ren (ρ : List Nat) : TV → TV
  | .a x => .a (x.ren ρ)
  | .tup xs => .tup (xs.map (AV.ren ρ))

def C.hs : C → List Nat
  | .any => []
  | .v _ => []
  | .sl _ h _ _ => [h]
  | .ptr h _ _ => [h]
  | .fn _ cs => cs.map (·.1)

def AV.hs : AV → List Nat
  | .c x => x.hs
  | .agg xs => xs.flatMap C.hs

def TV.hs : TV → List Nat
  | .a x => x.hs
  | .tup xs => xs.flatMap AV.hs

def Dat.ren (ρ : List Nat) : Dat → Dat
  | .cells n cs => .cells n (cs.map (C.ren ρ))
  | d => d

def Dat.hs : Dat → List Nat
  | .cells _ cs => cs.flatMap C.hs
  | _ => []

/-- The new row, seen through ρ, says no more than the old one. -/
def rowLe (ρ : List Nat) : Row → Option Row → Prop
  | .dead, _ => True
  | .r own d, some (.r own' d') => (own = true → own' = true) ∧ d' = d.ren ρ ∧ ∀ h ∈ d.hs, h < ρ.length
  | .r own d, none => own = false ∧ d.den = [] ∧ False
  | .r _ _, some .dead => False

def rowsLe (ρ : List Nat) (H : Hp) : List Nat → Hp → Prop
  | [], [] => True
  | h :: hs, row :: rows => rowLe ρ row H[h]? ∧ rowsLe ρ H hs rows
  | _, _ => False

def tvLe (ρ : List Nat) (t : TV) (old : Option TV) : Prop :=
  match t with
  | .a (.c .any) => old ≠ none
  | t => old = some (t.ren ρ) ∧ ∀ h ∈ t.hs, h < ρ.length

def slotsLe (ρ : List Nat) (f : F) : F → Prop
  | [] => True
  | (k, t) :: l => tvLe ρ t (get f k) ∧ slotsLe ρ f l

structure Weak (m : Nat) (ρ : List Nat) (f : F) (H : Hp) (f' : F) (H' : Hp) : Prop where
  fix : ρ.take m = List.range m
  nodup : ρ.Nodup
  inb : ∀ h ∈ ρ, h < H.length
  rows : rowsLe ρ H ρ H'
  slots : slotsLe ρ f f'

/-! ### Code -/

def tQ (n : F → Hp → Prop) (Q : Exit → F → Hp → Prop) (e : Exit) (f : F) (H : Hp) : Prop :=
  match e with
  | .normal => n f H
  | e => Q e f H

def bQ (id : Nat) (Q : Exit → F → Hp → Prop) (e : Exit) (f : F) (H : Hp) : Prop :=
  match e with
  | .exit i => if i = id then Q .normal f H else Q (.exit i) f H
  | e => Q e f H

def ALoop (m : Nat) (body : (Exit → F → Hp → Prop) → F → Hp → Prop) (Q : Exit → F → Hp → Prop) (f : F) (H : Hp) : Prop :=
  ∃ (σ : Type) (st : σ → F × Hp) (J : σ → Prop) (μ : σ → Nat), (∃ s ρ, J s ∧ Weak m ρ f H (st s).1 (st s).2) ∧
    ∀ s, J s → body (tQ (fun f' H' => ∃ s' ρ, (J s' ∧ μ s' < μ s) ∧ Weak m ρ f' H' (st s').1 (st s').2) Q) (st s).1 (st s).2

def ABr (b : Bool) (x y : Prop) : Prop := (b = true → x) ∧ (b = false → y)

def awp (P : Program) (m : Nat) (D : Nat → Option DR) : Code → (Exit → F → Hp → Prop) → F → Hp → Prop
  | .skip, Q, f, H => Q .normal f H
  | .region id ops draw, Q, f, H =>
    if draw = true then (match D id with
      | some ⟨_, .free ord⟩ => ∃ ms, msOwn H ms ∧ awpOrd P ops.toList ms H (Q .normal) ord f H
      | some ⟨ms, ord⟩ => msOwn H ms ∧ awpOrd P ops.toList ms H (Q .normal) ord f H
      | none => False)
    else (match D id with
      | none => awpOps P ops.toList (Q .normal) ops.toList f H
      | some _ => awpOpsW P ops.toList (Q .normal) ops.toList f H)
  | .seq a b, Q, f, H => awp P m D a (tQ (awp P m D b Q) Q) f H
  | .cond c x y, Q, f, H => (match aev f c with
    | some (.a (.c (.v (.bool b)))) => ABr b (awp P m D x Q f H) (awp P m D y Q f H)
    | _ => False)
  | .block id c, Q, f, H => awp P m D c (bQ id Q) f H
  | .loop c, Q, f, H => ALoop m (awp P m D c) Q f H
  | .exit id, Q, f, H => Q (.exit id) f H
  | .ret, Q, f, H => Q .ret f H
  | _, _, _, _ => False

/-! ### A function's end -/

def rtv : List AV → TV
  | [x] => .a x
  | xs => .tup xs

def zipSlots : List Nat → List AV → F
  | k :: ks, x :: xs => (k, .a x) :: zipSlots ks xs
  | _, _ => []

/-- Every temporary that the code writes is one of the n. -/
def drawsOK (D : Nat → Option DR) (id : Nat) (ops : Array Oper) (draw : Bool) : Bool :=
  if draw then (match D id with
    | some d => drawOK ops d.ord
    | none => true) else true

def codeOK (D : Nat → Option DR) (n : Nat) : Code → Bool
  | .region id ops draw => drawsOK D id ops draw && ops.all fun o => match o.dst with | some d => decide (d < n) | none => true
  | .seq a b => codeOK D n a && codeOK D n b
  | .cond _ a b => codeOK D n a && codeOK D n b
  | .block _ c => codeOK D n c
  | .loop c => codeOK D n c
  | _ => true

def AFin (m : Nat) (slots : List Nat) (R : TV → Hp → Prop) (e : Exit) (f : F) (H : Hp) : Prop :=
  (e = .ret ∨ e = .normal) ∧ ∃ ρ xs H', xs.length = slots.length ∧ Weak m ρ f H (zipSlots slots xs) H' ∧ R (rtv xs) H'

/-- Where a result lies: in a temporary, or in the variable that a temporary points to. -/
inductive RS
  | t (s : Nat)
  | c (s : Nat) (ty : TypeId)
def RS.slot : RS → Nat
  | .t s => s
  | .c s _ => s
def RS.rv : RS → ResultVar
  | .t s => .tmp s
  | .c s ty => .cell s ty

/-- The results that lie in variables, loaded. -/
def lres (P : Program) (H : Hp) : List RS → F → Option (Prop × F)
  | [], f => some (True, f)
  | .t _ :: rs, f => lres P H rs f
  | .c s ty :: rs, f => (match get f s with
    | some x => (match opLd P H ty x with
      | some (vc, t) => (match lres P H rs ((s, t) :: f) with
        | some (vc2, f2) => some (vc ∧ vc2, f2)
        | none => none)
      | none => none)
    | none => none)

def AFinC (P : Program) (m : Nat) (rs : List RS) (R : TV → Hp → Prop) (e : Exit) (f : F) (H : Hp) : Prop :=
  match lres P H rs f with
  | some (vc, f') => vc ∧ AFin m (rs.map RS.slot) R e f' H
  | none => False

def initF : Nat → List TV → F
  | _, [] => []
  | k, t :: ts => (k, t) :: initF (k + 1) ts

end Go.Ax
