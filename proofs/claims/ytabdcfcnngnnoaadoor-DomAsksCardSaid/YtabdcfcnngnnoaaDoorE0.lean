/- An evaluator of functions on values: slices that are only read as lists, memory of a call's own as rows. Definitions. -/
import Derived.WalkKit
import Derived.KernelRfl
set_option linter.unusedVariables false
namespace Go.Proofs.YtabdcfcnngnnoaaDoor.E
open Go

/-- A value as the evaluator knows it. -/
inductive AV where
  | v (x : Value)
  | nil
  | sl (xs : List (List AV))
  | cl (xs : List (List AV))
  | os (t off len : Nat)
  | pt (t i j : Nat)
  | rp (cells : List AV)
  | mp (t : Nat)
  | clo (f : FuncId) (caps : List AV)
  | agg (cells : List AV)
  | tup (xs : List AV)
  | dead
  deriving Inhabited

/-- A piece of memory of the call's own. -/
inductive Row where
  | arr (sz : Nat) (xs : List (List AV))
  | box (cells : List AV)
  | map (kd : Bool × List IntKind) (L : List (List Int × Value))
  | dead
  deriving Inhabited

/-- Nothing of it can change any more. -/
def frozen : AV → Bool
  | .v (.tuple _) | .v (.agg _) => false
  | .v _ | .nil | .sl _ => true
  | _ => false

def leaf : Value → AV
  | .slice none 0 0 => .nil
  | x => .v x
def constA : Value → AV
  | .agg cs => .agg (cs.toList.map leaf)
  | .tuple _ => .dead
  | x => leaf x

mutual
/-- References to the tokens of ts fall away. -/
def killV (ts : List Nat) : AV → AV
  | .os t off len => if ts.contains t then .dead else .os t off len
  | .pt t i j => if ts.contains t then .dead else .pt t i j
  | .mp t => if ts.contains t then .dead else .mp t
  | .rp cells => .rp (killL ts cells)
  | .clo f caps => .clo f (killL ts caps)
  | .agg cells => .agg (killL ts cells)
  | .tup xs => .tup (killL ts xs)
  | x => x
def killL (ts : List Nat) : List AV → List AV
  | [] => []
  | x :: r => killV ts x :: killL ts r
end
def killR (ts : List Nat) : Row → Row
  | .box cells => .box (killL ts cells)
  | r => r

mutual
/-- Tokens are called otherwise. -/
def nameV (g : Nat → Nat) : AV → AV
  | .os t off len => .os (g t) off len
  | .pt t i j => .pt (g t) i j
  | .mp t => .mp (g t)
  | .rp cells => .rp (nameL g cells)
  | .clo f caps => .clo f (nameL g caps)
  | .agg cells => .agg (nameL g cells)
  | .tup xs => .tup (nameL g xs)
  | x => x
def nameL (g : Nat → Nat) : List AV → List AV
  | [] => []
  | x :: r => nameV g x :: nameL g r
end
def nameR (g : Nat → Nat) : Row → Row
  | .box cells => .box (nameL g cells)
  | r => r

mutual
/-- The tokens that a value names. -/
def toksV : AV → List Nat
  | .os t _ _ | .pt t _ _ | .mp t => [t]
  | .rp cells | .clo _ cells | .agg cells | .tup cells => toksL cells
  | _ => []
def toksL : List AV → List Nat
  | [] => []
  | x :: r => toksV x ++ toksL r
end
def toksR : Row → List Nat
  | .box cells => toksL cells
  | _ => []

mutual
/-- nil as an empty list. -/
def weakV : AV → AV
  | .nil => .sl []
  | .agg cells => .agg (weakL cells)
  | .tup xs => .tup (weakL xs)
  | x => x
def weakL : List AV → List AV
  | [] => []
  | x :: r => weakV x :: weakL r
end

/-- The tokens of 'todo', and all that are led to, each once, in order. -/
def reach (sto : List Row) : Nat → List Nat → List Nat → List Nat
  | 0, _, acc => acc
  | _, [], acc => acc
  | n + 1, t :: r, acc => if acc.contains t then reach sto n r acc else reach sto n (r ++ (match sto[t]? with | some row => toksR row | none => [])) (acc ++ [t])

def cellsA : AV → List AV
  | .agg l => l
  | x => [x]
def isAggT (P : Program) (t : TypeId) : Bool :=
  match P.underlying t with
  | some (.struct _) | some (.array _ _) => true
  | _ => false
def esz (P : Program) (t : TypeId) : Option Nat := (P.info? t).map (·.size)
def zeroA (P : Program) (t : TypeId) : Option (List AV) := ((P.info? t).bind (·.zero)).map fun z => z.cells.toList.map leaf
/-- What an append, or a new slice, asks of its elements' type: their cells, and a zero one. -/
def elemA (P : Program) (e : TypeId) : Option (Nat × List AV) :=
  (P.info? e).bind fun i => (zeroA P e).bind fun z => if 0 < i.size ∧ z.length = i.size ∧ z.all frozen ∧ i.bytes ≤ 1048576 ∧ 0 < i.bytes then some (i.size, z) else none
/-- A value of type t out of cells. -/
def loadA (P : Program) (t : TypeId) (cells : List AV) : Option AV :=
  match P.underlying t with
  | none => none
  | some _ => if isAggT P t then (esz P t).bind fun n => if n ≤ cells.length then some (.agg (cells.take n)) else none else cells.head?
def splice (row : List AV) (j : Nat) (cs : List AV) : List AV := row.take j ++ cs ++ row.drop (j + cs.length)
/-- The cells from a pointer on. -/
def cellsAt (sto : List Row) : AV → Option (List AV)
  | .rp cells => some cells
  | .pt t i j =>
    match sto[t]? with
    | some (.arr sz xs) => (xs[i]?).map (·.drop j)
    | some (.box cs) => if i = 0 then some (cs.drop j) else none
    | _ => none
  | _ => none
/-- A slice's elements. -/
def listOf (sto : List Row) : AV → Option (List (List AV))
  | .nil => some []
  | .sl xs => some xs
  | .os t off len =>
    match sto[t]? with
    | some (.arr sz xs) => some ((xs.drop off).take len)
    | _ => none
  | .v (.slice _ 0 _) => some []
  | _ => none
/-- What can't change any more, out of what may; and the tokens that are given up for it. -/
def freezeV (sto : List Row) : AV → Option (AV × List Nat)
  | .os t off len =>
    match sto[t]? with
    | some (.arr sz xs) => some (.sl ((xs.drop off).take len), [t])
    | _ => none
  | .nil => some (.sl [], [])
  | .v x => if frozen (.v x) then some (.v x, []) else none
  | .sl xs => some (.sl xs, [])
  | _ => none
def freezeL (sto : List Row) : List AV → Option (List AV × List Nat)
  | [] => some ([], [])
  | x :: r => (freezeV sto x).bind fun a => (freezeL sto r).bind fun b => some (a.1 :: b.1, a.2 ++ b.2)
def freezeLL (sto : List Row) : List (List AV) → Option (List (List AV) × List Nat)
  | [] => some ([], [])
  | x :: r => (freezeL sto x).bind fun a => (freezeLL sto r).bind fun b => some (a.1 :: b.1, a.2 ++ b.2)
/-- The rows of these tokens are no more, nor what names them. -/
def giveUp (ts : List Nat) (sto : List Row) : List Row :=
  if ts.isEmpty then sto else (ts.foldl (fun s t => s.set t .dead) sto).map (killR ts)

/-- What an operation comes to: its value, the memory, the tokens that stand no more for what they stood for, whether memory of one's own has changed. -/
structure Out where
  val : AV
  sto : List Row
  mv : List Nat
  w : Bool

def cmpI (op : BinOp) (a b : Int) : Option Bool :=
  match op with
  | .eql => some (a == b)
  | .neq => some (a != b)
  | .lss => some (decide (a < b))
  | .leq => some (decide (a ≤ b))
  | .gtr => some (decide (a > b))
  | .geq => some (decide (a ≥ b))
  | _ => none
/-- Bit by bit. -/
def bitI (op : BinOp) (k : IntKind) (a b : Int) : Int :=
  match op with
  | .and => k.wrap ((BitVec.ofInt k.bits a &&& BitVec.ofInt k.bits b).toNat)
  | .or => k.wrap ((BitVec.ofInt k.bits a ||| BitVec.ofInt k.bits b).toNat)
  | .xor => k.wrap ((BitVec.ofInt k.bits a ^^^ BitVec.ofInt k.bits b).toNat)
  | _ => k.wrap ((BitVec.ofInt k.bits a &&& ~~~ BitVec.ofInt k.bits b).toNat)
def shlI (k : IntKind) (a b : Int) : Int := k.wrap (a * 2 ^ (min b.toNat k.bits))
def shrI (k : IntKind) (a b : Int) : Int := a.fdiv (2 ^ (min b.toNat k.bits))
def arithI (op : BinOp) (k : IntKind) (a b : Int) : Option Int :=
  match op with
  | .add => some (k.wrap (a + b))
  | .sub => some (k.wrap (a - b))
  | .mul => some (k.wrap (a * b))
  | .quo => if b = 0 then none else some (k.wrap (a.tdiv b))
  | .rem => if b = 0 then none else some (a.tmod b)
  | .and => some (bitI .and k a b)
  | .or => some (bitI .or k a b)
  | .xor => some (bitI .xor k a b)
  | .andNot => some (bitI .andNot k a b)
  | _ => none
def shiftI (op : BinOp) (k : IntKind) (a b : Int) : Option Int :=
  if b < 0 then none else
  match op with
  | .shl => some (shlI k a b)
  | .shr => some (shrI k a b)
  | _ => none
def eqFields (P : Program) (eq : TypeId → List AV → List AV → Option Bool) (xs ys : List AV) : List Field → Option Bool
  | [] => some true
  | f :: r =>
    if f.name = "_" then none else
    (esz P f.type).bind fun s => (eq f.type ((xs.drop f.offset).take s) ((ys.drop f.offset).take s)).bind fun b => if b then eqFields P eq xs ys r else some false
/-- Equality of what is equal by its numbers and bools, of type t; 'n': how deep it is looked. -/
def eqA (P : Program) : Nat → TypeId → List AV → List AV → Option Bool
  | 0, _, _, _ => none
  | n + 1, t, xs, ys =>
    match P.underlying t with
    | some (.int _) => match xs, ys with | [.v (.int k a)], [.v (.int k' b)] => if k = k' then some (a == b) else none | _, _ => none
    | some .bool => match xs, ys with | [.v (.bool a)], [.v (.bool b)] => some (a == b) | _, _ => none
    | some (.struct fs) => if P.stoodInHeld t then none else eqFields P (eqA P n) xs ys fs.toList
    | _ => none
def binA (P : Program) (op : BinOp) (t : TypeId) (x y : AV) : Option AV :=
  match op, x, y with
  | .shl, .v (.int k a), .v (.int _ b) => (shiftI .shl k a b).map fun n => .v (.int k n)
  | .shr, .v (.int k a), .v (.int _ b) => (shiftI .shr k a b).map fun n => .v (.int k n)
  | op, .v (.int k a), .v (.int k' b) =>
    if k ≠ k' then none else
    match op with
    | .add | .sub | .mul | .quo | .rem | .and | .or | .xor | .andNot => (arithI op k a b).map fun n => .v (.int k n)
    | _ => (cmpI op a b).map fun r => .v (.bool r)
  | .eql, .v (.bool a), .v (.bool b) => match P.underlying t with | some .bool => some (.v (.bool (a == b))) | _ => none
  | .neq, .v (.bool a), .v (.bool b) => match P.underlying t with | some .bool => some (.v (.bool (!(a == b)))) | _ => none
  | .eql, .v (.string a), .v (.string b) => some (.v (.bool (a.toList == b.toList)))
  | .neq, .v (.string a), .v (.string b) => some (.v (.bool (!(a.toList == b.toList))))
  | .eql, .agg xs, .agg ys => match P.underlying t with | some (.struct _) => if P.eqGuardType P.depth t then none else (eqA P 100 t xs ys).map fun r => .v (.bool r) | _ => none
  | .neq, .agg xs, .agg ys => match P.underlying t with | some (.struct _) => if P.eqGuardType P.depth t then none else (eqA P 100 t xs ys).map fun r => .v (.bool (!r)) | _ => none
  | _, _, _ => none
def isNilC : Operand → Bool
  | .const (.slice none 0 0) => true
  | _ => false
def asNil (op : BinOp) (b : Bool) : Option AV :=
  match op with
  | .eql => some (.v (.bool b))
  | .neq => some (.v (.bool (!b)))
  | _ => none
/-- Is a slice nil? -/
def nilTest (P : Program) (op : BinOp) (t : TypeId) (x : AV) : Option AV :=
  match P.underlying t with
  | some (.slice _) => match x with
    | .sl xs => if 0 < xs.length then asNil op false else none
    | .os _ _ len => if 0 < len then asNil op false else none
    | .v (.slice none _ _) => asNil op true
    | .v (.slice (some _) _ _) => asNil op false
    | _ => none
  | _ => none
def unA (op : UnOp) (x : AV) : Option AV :=
  match op, x with
  | .neg, .v (.int k n) => some (.v (.int k (k.wrap (0 - n))))
  | .not, .v (.bool b) => some (.v (.bool !b))
  | .xor, .v (.int k n) => some (.v (.int k (k.wrap ((BitVec.ofInt k.bits (if k.signed then -1 else k.max) ^^^ BitVec.ofInt k.bits n).toNat))))
  | _, _ => none
def convA (P : Program) (src dst : TypeId) (x : AV) : Option AV :=
  match P.underlying src, P.underlying dst, x with
  | some (.int _), some (.int k), .v (.int _ n) => some (.v (.int k (k.wrap n)))
  | _, _, _ => none
def boundA (lim : Nat) : Option AV → Nat → Option Nat
  | none, d => some d
  | some (.v (.int _ n)), _ => if 0 ≤ n ∧ n ≤ lim then some n.toNat else none
  | _, _ => none
def rowsOk (sz : Nat) (xs : List (List AV)) : Bool := xs.all fun r => r.length == sz
/-- x[lo:hi]. -/
def sliceA (P : Program) (sto : List Row) (t : TypeId) (x : AV) (lo hi : Option AV) : Option AV :=
  match P.underlying t, x with
  | some (.slice e), .nil => (esz P e).bind fun s => (boundA 0 hi 0).bind fun h => (boundA h lo 0).bind fun l => some .nil
  | some (.slice e), .sl xs => (esz P e).bind fun s => if rowsOk s xs then (boundA xs.length hi xs.length).bind fun h => (boundA h lo 0).bind fun l => some (.sl ((xs.take h).drop l)) else none
  | some (.slice e), .os k off len =>
    match sto[k]? with
    | some (.arr sz xs) => (esz P e).bind fun s => if sz = s then (boundA (xs.length - off) hi len).bind fun h => (boundA h lo 0).bind fun l => some (.os k (off + l) (h - l)) else none
    | _ => none
  | some .string, .v (.string s) => (boundA s.size hi s.size).bind fun h => (boundA h lo 0).bind fun l => some (.v (.string (s.extract l h)))
  | _, _ => none
def fillA (cells : List AV) : List (Nat × Nat × List AV) → Option (List AV)
  | [] => some cells
  | (off, sz, cs) :: r => if cs.length = sz ∧ off + sz ≤ cells.length then fillA (splice cells off cs) r else none
/-- The most elements of a row that grows. -/
def LIM : Nat := 1000000
def lenA : AV → Option Nat
  | .nil => some 0
  | .sl xs => some xs.length
  | .os _ _ len => some len
  | .v (.slice _ l _) => some l
  | _ => none
def capA : AV → Option Nat
  | .nil => some 0
  | _ => none
def goI (n : Int) : AV := .v (.int .i64 n)
def mm2 (mx : Bool) : AV → AV → Option AV
  | .v (.int k a), .v (.int _ b) => some (.v (.int k (if mx then (if a < b then b else a) else (if b < a then b else a))))
  | _, _ => none
def mmL (mx : Bool) : AV → List AV → Option AV
  | x, [] => some x
  | x, y :: r => (mm2 mx x y).bind fun z => mmL mx z r
def minmaxA (mx : Bool) : List AV → Option AV
  | [] => none
  | x :: r => mmL mx x r
/-- Fresh memory, as the hint says: kept as row 'base + k', or seen as a list from now on. -/
def freshArr (base : Nat) (own : List Nat) (s : Nat) (xs : List (List AV)) (sto : List Row) : Option Out :=
  match own with
  | [] => some ⟨.sl xs, sto, [], false⟩
  | [k] => if base + k < sto.length then some ⟨.os (base + k) 0 xs.length, (giveUp [base + k] sto).set (base + k) (.arr s xs), [base + k], true⟩ else none
  | _ => none
def freshBox (base : Nat) (own : List Nat) (cells : List AV) (sto : List Row) : Option Out :=
  match own with
  | [] => some ⟨.rp cells, sto, [], false⟩
  | [k] => if base + k < sto.length ∧ (toksL cells).contains (base + k) = false then some ⟨.pt (base + k) 0 0, (giveUp [base + k] sto).set (base + k) (.box cells), [base + k], true⟩ else none
  | _ => none
def appendO (base : Nat) (own : List Nat) (s : Nat) (sto : List Row) (x : AV) (ys : List (List AV)) : Option Out :=
  match x with
  | .cl xs => if rowsOk s xs = true ∧ (0 < ys.length ∨ xs.length = 0) ∧ xs.length + ys.length ≤ LIM then freshArr base own s (xs ++ ys) sto else none
  | .nil => if ys.length ≤ LIM then freshArr base own s ys sto else none
  | .os k off len =>
    match sto[k]? with
    | some (.arr sz xs) =>
      if sz = s then
        if off + len + ys.length ≤ xs.length then some ⟨.os k off (len + ys.length), sto.set k (.arr s (xs.take (off + len) ++ ys ++ xs.drop (off + len + ys.length))), [], true⟩
        else if off + len = xs.length ∧ len + ys.length ≤ LIM then some ⟨.os k 0 (len + ys.length), (giveUp [k] sto).set k (.arr s (xs.drop off ++ ys)), [k], true⟩
        else none
      else none
    | _ => none
  | _ => none
/-- At the end of a row of one's own; what is appended may be nothing. -/
def atEnd (s : Nat) (sto : List Row) (x : AV) (ys : List (List AV)) : Option Out :=
  match x with
  | .os k off len => match sto[k]? with
    | some (.arr sz xs) => if sz = s ∧ off = 0 ∧ len = xs.length ∧ len + ys.length ≤ LIM then some ⟨.os k 0 (len + ys.length), (giveUp [k] sto).set k (.arr s (xs ++ ys)), [k], true⟩ else none
    | _ => none
  | _ => none
/-- The sign, among an operation's own pieces, of an append behind which the row ends. -/
def TRIM : Nat := 1000003
/-- Behind what is told of the row, whatever stood there. -/
def appendR (s : Nat) (sto : List Row) (x : AV) (ys : List (List AV)) : Option Out :=
  match x with
  | .os k off len => match sto[k]? with
    | some (.arr sz xs) => if sz = s ∧ off + len ≤ xs.length ∧ len + ys.length ≤ LIM then some ⟨.os k 0 (len + ys.length), (giveUp [k] sto).set k (.arr s ((xs.drop off).take len ++ ys)), [k], true⟩ else none
    | _ => none
  | _ => none
def appendA0 (base : Nat) (own : List Nat) (s : Nat) (sto : List Row) (x : AV) (ys : List (List AV)) : Option Out :=
  match atEnd s sto x ys with
  | some o => some o
  | none => appendO base own s sto x ys
def appendA (base : Nat) (own : List Nat) (s : Nat) (sto : List Row) (x : AV) (ys : List (List AV)) : Option Out :=
  if own = [TRIM] then appendR s sto x ys else appendA0 base own s sto x ys
def copyA (s : Nat) (sto : List Row) (x : AV) (ys : List (List AV)) : Option Out :=
  match x with
  | .os k off len =>
    match sto[k]? with
    | some (.arr sz xs) => if sz = s then some ⟨goI ((min ys.length len : Nat) : Int), sto.set k (.arr s (xs.take off ++ ys.take len ++ xs.drop (off + min ys.length len))), [], true⟩ else none
    | _ => none
  | .nil => some ⟨goI 0, sto, [], false⟩
  | _ => none
def clearA (s : Nat) (z : List AV) (sto : List Row) (x : AV) : Option Out :=
  match x with
  | .os k off len =>
    match sto[k]? with
    | some (.arr sz xs) => if sz = s then some ⟨.dead, sto.set k (.arr s (xs.take off ++ List.replicate len z ++ xs.drop (off + len))), [], true⟩ else none
    | _ => none
  | .nil => some ⟨.dead, sto, [], false⟩
  | _ => none
/-! Maps of the call's own: keys are integers, or structs of integers. -/
def encKey (kd : Bool × List IntKind) (x : List Int) : Value :=
  if kd.1 then .agg ((kd.2.zip x).map fun p => Value.int p.1 p.2).toArray
  else match kd.2, x with
    | [q], [a] => .int q a
    | _, _ => .tuple #[]
def goodKey : List IntKind → List Int → Bool
  | [], [] => true
  | q :: qs, a :: r => decide (q.min ≤ a) && decide (a ≤ q.max) && goodKey qs r
  | _, _ => false
def intsA : List IntKind → List AV → Option (List Int)
  | [], [] => some []
  | q :: qs, .v (.int q' a) :: r => if q = q' then (intsA qs r).map (a :: ·) else none
  | _, _ => none
/-- The integers of a key. -/
def keyA (kd : Bool × List IntKind) (x : AV) : Option (List Int) :=
  if kd.1 then match x with
    | .agg cells => intsA kd.2 cells
    | _ => none
  else intsA kd.2 [x]
/-- Where a key stands. -/
def posL (key : List Int) : List (List Int × Value) → Option Nat
  | [] => none
  | p :: r => if p.1 = key then some 0 else (posL key r).map (· + 1)
def valL (key : List Int) : List (List Int × Value) → Option Value
  | [] => none
  | p :: r => if p.1 = key then some p.2 else valL key r
/-- A key gets an element. -/
def updL (key : List Int) (v : Value) : List (List Int × Value) → List (List Int × Value)
  | [] => [(key, v)]
  | p :: r => if p.1 = key then (key, v) :: r else p :: updL key v r
/-- A key is there, with what it had, or with z. -/
def entL (key : List Int) (z : Value) : List (List Int × Value) → List (List Int × Value)
  | [] => [(key, z)]
  | p :: r => if p.1 = key then p :: r else p :: entL key z r
/-- The n-th one's element. -/
def setL (n : Nat) (v : Value) (L : List (List Int × Value)) : List (List Int × Value) := L.modify n fun p => (p.1, v)
def keyKinds (P : Program) (k : TypeId) : Option (Bool × List IntKind) :=
  match P.underlying k with
  | some (.int q) => some (false, [q])
  | some (.struct fs) =>
    match fs.toList with
    | [f0, f1] => match P.underlying f0.type, P.underlying f1.type with
      | some (.int q0), some (.int q1) =>
        if k < P.types.size ∧ 1 < P.types.size ∧ P.keyTypeAt 2 k = true ∧ P.keyType k = true ∧ P.cellsOf k = 2 ∧ P.cellsOf f0.type = 1 ∧ P.cellsOf f1.type = 1 ∧ f0.name ≠ "_" ∧ f1.name ≠ "_" ∧ f0.offset = 0 ∧ f1.offset = 1 then some (true, [q0, q1]) else none
      | _, _ => none
    | _ => none
  | _ => none
def elemV : AV → Option Value
  | .v (.tuple _) | .v (.agg _) => none
  | .v x => some x
  | _ => none
def mapTy (P : Program) (t : TypeId) : Option ((Bool × List IntKind) × Value) :=
  match P.underlying t with
  | some (.map k e) => (keyKinds P k).bind fun kd => ((P.info? e).bind (·.zero)).bind fun z => (elemV (.v z)).map fun z => (kd, z)
  | _ => none
def makeMapA (P : Program) (base : Nat) (own : List Nat) (t : TypeId) (sto : List Row) : Option Out :=
  match own with
  | [k] => if base + k < sto.length then (mapTy P t).map fun q => ⟨.mp (base + k), (giveUp [base + k] sto).set (base + k) (.map q.1 []), [base + k], true⟩ else none
  | _ => none
/-- The map, the key, the zero element. -/
def atMap (P : Program) (t : TypeId) (sto : List Row) (m x : AV) : Option (Nat × (Bool × List IntKind) × List (List Int × Value) × List Int × Value) :=
  (mapTy P t).bind fun q => match m with
    | .mp k => match sto[k]? with
      | some (.map kd L) => if kd = q.1 then (keyA kd x).map fun key => (k, kd, L, key, q.2) else none
      | _ => none
    | _ => none
def lookupA (P : Program) (t : TypeId) (sto : List Row) (m x : AV) (ok : Bool) : Option AV :=
  (atMap P t sto m x).bind fun q => if goodKey q.2.1.2 q.2.2.2.1 then
    some (if ok then .tup [.v ((valL q.2.2.2.1 q.2.2.1).getD q.2.2.2.2), .v (.bool (valL q.2.2.2.1 q.2.2.1).isSome)] else .v ((valL q.2.2.2.1 q.2.2.1).getD q.2.2.2.2)) else none
def mapUpdateA (P : Program) (t : TypeId) (sto : List Row) (m x v : AV) : Option Out :=
  (atMap P t sto m x).bind fun q => (elemV v).bind fun v => if goodKey q.2.1.2 q.2.2.2.1 then
    some ⟨.dead, sto.set q.1 (.map q.2.1 (updL q.2.2.2.1 v q.2.2.1)), [], true⟩ else none
def mapEntryA (P : Program) (t : TypeId) (sto : List Row) (m x : AV) : Option Out :=
  (atMap P t sto m x).bind fun q => if goodKey q.2.1.2 q.2.2.2.1 then
    some ⟨.tup [.v ((valL q.2.2.2.1 q.2.2.1).getD q.2.2.2.2), goI (((posL q.2.2.2.1 q.2.2.1).getD q.2.2.1.length : Nat) : Int)], sto.set q.1 (.map q.2.1 (entL q.2.2.2.1 q.2.2.2.2 q.2.2.1)), [], true⟩ else none
def entryStoreA (sto : List Row) (m s v : AV) : Option Out :=
  match m, s with
  | .mp k, .v (.int .i64 n) => match sto[k]? with
    | some (.map kd L) => (elemV v).bind fun v => if 0 ≤ n ∧ n.toNat < L.length then some ⟨.dead, sto.set k (.map kd (setL n.toNat v L)), [], true⟩ else none
    | _ => none
  | _, _ => none
/-- What is known of a call: function, arguments, memory; its value, the memory, the tokens that moved, whether memory that was there has changed. -/
abbrev CallF := FuncId → List AV → List Row → Option (AV × List Row × List Nat)
def idxOf (ts : List Nat) (t : Nat) : Nat := ts.idxOf t
/-- Rows are written back under their tokens. -/
def putBack : List Nat → List Row → List Row → List Row
  | t :: ts, r :: rs, sto => putBack ts rs (sto.set t r)
  | _, _, sto => sto
mutual
/-- What is fresh (from token n on) is seen as lists from now on. -/
def settleV (n : Nat) (full : List Row) : AV → Option AV
  | .agg l => (settleL n full l).map .agg
  | .tup l => (settleL n full l).map .tup
  | x => if (toksV x).all (fun t => decide (t < n)) then some x else (freezeV full x).map (·.1)
def settleL (n : Nat) (full : List Row) : List AV → Option (List AV)
  | [] => some []
  | x :: r => (settleV n full x).bind fun y => (settleL n full r).map (y :: ·)
end
/-- What a call hands over is closed: each token once, and all that they lead to. -/
def closedA (ts : List Nat) (args : List AV) (sto : List Row) : Bool :=
  decide ts.Nodup && ts.all (fun t => decide (t < sto.length)) && (toksL args).all (fun t => ts.contains t) && ts.all fun t => match sto[t]? with | some row => (toksR row).all fun u => ts.contains u | none => false
def getT (TS : List Nat) (i : Nat) : Nat := TS.getD i 0
/-- A call that hands over more of the caller's own memory. -/
def callB (call : CallF) (base : Nat) (own : List Nat) (f : FuncId) (args : List AV) (ts : List Nat) (sto : List Row) : Option Out :=
  let m := ts.length
  if closedA ts args sto then
    match call f (nameL (idxOf ts) args) (ts.map fun t => nameR (idxOf ts) (sto.getD t .dead)) with
    | none => none
    | some (r, s1, mv) =>
      if m ≤ s1.length ∧ (toksV r).all (fun t => decide (t < s1.length)) ∧ s1.all (fun row => (toksR row).all fun t => decide (t < s1.length)) then
        let mv' := mv.map (getT ts)
        match own with
        | [] =>
          if s1.length = m then some ⟨nameV (getT ts) r, putBack ts (s1.map (nameR (getT ts))) (if mv'.isEmpty then sto else sto.map (killR mv')), mv', true⟩
          else
            let ft := List.range' sto.length (s1.length - m)
            let TS := ts ++ ft
            let full := putBack TS (s1.map (nameR (getT TS))) ((sto ++ List.replicate (s1.length - m) Row.dead).map (killR (mv' ++ ft)))
            (settleV sto.length full (nameV (getT TS) r)).map fun r => ⟨r, (giveUp ft full).take sto.length, mv', true⟩
        | ks =>
          let ts2 := ks.map (base + ·)
          let TS := ts ++ ts2
          if TS.length = s1.length ∧ TS.Nodup ∧ ts2.all (fun t => decide (t < sto.length)) then some ⟨nameV (getT TS) r, putBack TS (s1.map (nameR (getT TS))) (sto.map (killR (mv' ++ ts2))), mv' ++ ts2, true⟩
          else none
      else none
  else none
/-- The sign, among an operation's own pieces, of a call that is handed nil as nil. -/
def KEEPN : Nat := 1000002
def weakO (own : List Nat) (args : List AV) : List AV := if own.head? = some KEEPN then args else weakL args
def ownO (own : List Nat) : List Nat := if own.head? = some KEEPN then own.tail else own
def callS (call : CallF) (base : Nat) (own : List Nat) (f : FuncId) (args0 : List AV) (sto : List Row) : Option Out :=
  let args := weakO own args0
  if (toksL args).isEmpty ∧ own.isEmpty then
    (call f args []).bind fun q => (settleV 0 q.2.1 q.1).map fun r => ⟨r, sto, [], false⟩
  else callB call base (ownO own) f args (reach sto (2 * sto.length + 2 * args.length + 4) (toksL args) []) sto

/-! A call that is lent what it reads, and hands back nothing of it. -/
def scalarA : AV → Bool
  | .v _ => true
  | _ => false
def scalars (xs : List (List AV)) : Bool := xs.all fun r => r.all scalarA
def lendW (sto : List Row) (x : AV) : Option (AV × List Nat) :=
  if (toksV x).isEmpty then some (x, []) else
  match x with
  | .agg l => (freezeL sto l).map fun b => (.agg b.1, b.2)
  | x => freezeV sto x
def lendL (sto : List Row) : List AV → Option (List AV × List Nat)
  | [] => some ([], [])
  | x :: r => (lendW sto x).bind fun a => (lendL sto r).bind fun b => some (a.1 :: b.1, a.2 ++ b.2)
def lentV (full : List Row) : AV → Option AV
  | .v x => some (.v x)
  | .sl [] => some (.sl [])
  | .os k off len => match full[k]? with
    | some (.arr sz xs) => if scalars xs then some (.sl ((xs.drop off).take len)) else none
    | _ => none
  | _ => none
def lentL (full : List Row) : List AV → Option (List AV)
  | [] => some []
  | x :: r => (lentV full x).bind fun y => (lentL full r).map (y :: ·)
def lentR (full : List Row) : AV → Option AV
  | .tup l => (lentL full l).map .tup
  | .agg l => (lentL full l).map .agg
  | x => lentV full x
def lendA (call : CallF) (base : Nat) (own : List Nat) (f : FuncId) (args0 : List AV) (sto : List Row) : Option Out :=
  (lendL sto (weakL args0)).bind fun fz => (call f fz.1 []).bind fun q =>
    match own with
    | [] => (lentR q.2.1 q.1).map fun r => ⟨r, sto, [], false⟩
    | [k] => match q.1 with
      | .os t off len => match q.2.1[t]? with
        | some (.arr sz xs) => if base + k < sto.length ∧ scalars xs then some ⟨.os (base + k) off len, (giveUp [base + k] sto).set (base + k) (.arr sz xs), [base + k], true⟩ else none
        | _ => none
      | .nil => some ⟨.nil, sto, [], false⟩
      | _ => none
    | _ => none
/-- The sign, among an operation's own pieces, of a call that lends. -/
def LEND : Nat := 1000000
def callA (call : CallF) (base : Nat) (own : List Nat) (f : FuncId) (args0 : List AV) (sto : List Row) : Option Out :=
  if own.head? = some LEND then lendA call base own.tail f args0 sto else callS call base own f args0 sto
end Go.Proofs.YtabdcfcnngnnoaaDoor.E
