/- The evaluator: operations, regions, code, functions. -/
import Derived.Test.YtabdcfcnngnnoaaDoorE0
set_option linter.unusedVariables false
namespace Go.Proofs.YtabdcfcnngnnoaaDoor.E
open Go

/-- Hints to a function: how many pieces of memory it keeps; which slot's operation makes which of them; at a loop (by the number of its first region) which slots alone are still looked at, and which pieces no more; behind a loop, which slots alone are, and which pieces no more (where it was left by an exit; by a return). They change no answer: only whether there is one. 'nils': at a loop, slots whose nil slices become empty ones of one's own (slot, piece, cells of an element). 'strong': a nil slice is handed back as one. 'prim': what the function comes to, where that is known otherwise. 'cuts': ahead of what begins with this region, in a row of code, which slots alone are still looked at, and which pieces no more. 'joins': as 'nils', ahead of what begins with this region, in a row of code. -/
structure FH where
  ntok : Nat := 0
  own : List (Nat × List Nat) := []
  kill : List (Nat × List Nat × List Nat) := []
  past : List (Nat × List Nat × List Nat × List Nat × List Nat) := []
  nils : List (Nat × List (Nat × Nat × Nat)) := []
  strong : Bool := false
  prim : Option (List AV → List Row → Option (AV × List Row × List Nat)) := none
  cuts : List (Nat × List Nat × List Nat) := []
  joins : List (Nat × List (Nat × Nat × Nat)) := []
  deriving Inhabited

def firstReg : Code → Nat
  | .region id _ _ => id
  | .seq a _ => firstReg a
  | .cond _ a _ => firstReg a
  | .block _ c => firstReg c
  | .loop c => firstReg c
  | _ => 0

/-- Does it fill one cell? -/
def cell1 : AV → Bool
  | .dead | .tup _ | .agg _ | .v (.tuple _) | .v (.agg _) => false
  | _ => true
/-- Can it be put into memory as it is? -/
def boxable (x : AV) : Bool := (cellsA x).all cell1
def undefA : AV := .v (.tuple #[])
def optA (ea : Operand → Option AV) : Option Operand → Option (Option AV)
  | none => some none
  | some o => (ea o).map some
def mapA (ea : Operand → Option AV) : List Operand → Option (List AV)
  | [] => some []
  | o :: r => (ea o).bind fun x => (mapA ea r).map (x :: ·)
def mapParts (ea : Operand → Option AV) : List (Nat × Operand) → Option (List (Nat × AV))
  | [] => some []
  | (i, o) :: r => (ea o).bind fun x => (mapParts ea r).map ((i, x) :: ·)
/-- The parts of a struct, with their places. -/
def places (P : Program) (fs : Array Field) : List (Nat × AV) → Option (List (Nat × Nat × List AV))
  | [] => some []
  | (i, x) :: r => if boxable x then (fs[i]?).bind fun f => (esz P f.type).bind fun s => (places P fs r).map ((f.offset, s, cellsA x) :: ·) else none
/-- The elements of a slice that is written out. -/
def fillRows (s : Nat) (xs : List (List AV)) : List (Nat × AV) → Option (List (List AV))
  | [] => some xs
  | (i, x) :: r => if boxable x ∧ i < xs.length ∧ (cellsA x).length = s then fillRows s (xs.set i (cellsA x)) r else none
/-- The hint at an empty list without room behind it. -/
def CLIP : Nat := 1000001
def buildSliceA (P : Program) (base : Nat) (own : List Nat) (t : TypeId) (len : Nat) (parts : List (Nat × AV)) (sto : List Row) : Option Out :=
  if own = [CLIP] then match parts with
    | [] => if len = 0 then match P.underlying t with
      | some (.slice e) => (elemA P e).map fun _ => ⟨.cl [], sto, [], false⟩
      | _ => none else none
    | _ => none else
  match P.underlying t with
  | some (.slice e) =>
    (elemA P e).bind fun q =>
      if len * q.1 ≤ 16777216 then
        (fillRows q.1 (List.replicate len q.2) parts).bind fun xs => (freezeLL sto xs).bind fun fz =>
          (freshArr base own q.1 fz.1 (giveUp fz.2 sto)).map fun o => { o with mv := fz.2 ++ o.mv, w := o.w || !fz.2.isEmpty }
      else none
  | _ => none
def storeA (P : Program) (t : TypeId) (sto : List Row) (p x : AV) : Option Out :=
  if boxable x then
    let cs := cellsA x
    (esz P t).bind fun s =>
      if cs.length = s then
        match p with
        | .pt k i j =>
          match sto[k]? with
          | some (.box row) => if i = 0 ∧ j + cs.length ≤ row.length ∧ (toksL cs).contains k = false then some ⟨.dead, sto.set k (.box (splice row j cs)), [], true⟩ else none
          | some (.arr sz xs) =>
            (freezeL sto cs).bind fun fz =>
              if fz.2.contains k then none else
              match xs[i]? with
              | some row => if j + cs.length ≤ row.length then some ⟨.dead, (giveUp fz.2 sto).set k (.arr sz (xs.set i (splice row j fz.1))), fz.2, true⟩ else none
              | none => none
          | _ => none
        | _ => none
      else none
  else none
def makeSliceA (P : Program) (base : Nat) (own : List Nat) (t : TypeId) (l c : AV) (sto : List Row) : Option Out :=
  match P.underlying t, l, c with
  | some (.slice e), .v (.int _ n), .v (.int _ m) =>
    (elemA P e).bind fun q => if 0 ≤ n ∧ n ≤ m ∧ m ≤ LIM then freshArr base own q.1 (List.replicate n.toNat q.2) sto else none
  | _, _, _ => none
def fieldAddrA (P : Program) (s : TypeId) (x : AV) (f : Nat) : Option AV :=
  match P.underlying s with
  | some (.struct fs) =>
    (fs[f]?).bind fun f => (esz P f.type).bind fun n =>
      if n = 0 then none else
      match x with
      | .rp cells => some (.rp (cells.drop f.offset))
      | .pt t i j => some (.pt t i (j + f.offset))
      | _ => none
  | _ => none
def fieldA (P : Program) (t : TypeId) (x : AV) (f : Nat) : Option AV :=
  match P.underlying t, x with
  | some (.struct fs), .agg cells => (fs[f]?).bind fun f => loadA P f.type (cells.drop f.offset)
  | _, _ => none
def indexAddrA (P : Program) (sto : List Row) (t : TypeId) (x i : AV) : Option AV :=
  match P.underlying t, i with
  | some (.slice e), .v (.int _ n) =>
    (esz P e).bind fun s =>
      match x with
      | .sl xs => if 0 ≤ n ∧ n < xs.length then (xs[n.toNat]?).bind fun row => if row.length = s then some (.rp row) else none else none
      | .os k off len =>
        match sto[k]? with
        | some (.arr sz xs) => if 0 ≤ n ∧ n < len ∧ sz = s then (xs[off + n.toNat]?).bind fun row => some (.pt k (off + n.toNat) 0) else none
        | _ => none
      | _ => none
  | some (.array len e), .v (.int _ n) =>
    (esz P e).bind fun s =>
      if 0 ≤ n ∧ n < len then
        match x with
        | .rp cells => some (.rp (cells.drop (n.toNat * s)))
        | .pt t i j => some (.pt t i (j + n.toNat * s))
        | _ => none
      else none
  | _, _ => none
def indexA (P : Program) (t : TypeId) (x i : AV) : Option AV :=
  match P.underlying t, x, i with
  | some (.array len e), .agg cells, .v (.int _ n) => if 0 ≤ n ∧ n < len then (esz P e).bind fun s => loadA P e (cells.drop (n.toNat * s)) else none
  | some .string, .v (.string s), .v (.int _ n) => if 0 ≤ n then (s[n.toNat]?).map fun b => .v (.int .u8 b.toNat) else none
  | _, _, _ => none
/-- x[:n:n], of all of x. -/
def clipA (xs : List (List AV)) (hi mx : Option AV) : Option AV :=
  match hi, mx with
  | some _, some _ => (boundA xs.length mx 0).bind fun m => (boundA m hi 0).bind fun h => if m = xs.length ∧ h = xs.length then some (.cl xs) else none
  | _, _ => none
def slice3A (P : Program) (sto : List Row) (t : TypeId) (x : AV) (lo hi mx : Option AV) : Option AV :=
  match P.underlying t with
  | some (.slice e) =>
    (esz P e).bind fun _ =>
    match x, lo with
    | .sl xs, none => clipA xs hi mx
    | x, lo =>
    let n := match x with
      | .sl xs => some xs.length
      | .nil => some 0
      | .os k off _ => match sto[k]? with | some (.arr sz xs) => some (xs.length - off) | _ => none
      | _ => none
    n.bind fun n => (boundA n mx n).bind fun m => match hi with
      | none => none
      | some _ => (boundA m hi 0).bind fun h => (boundA h lo 0).bind fun l => if m = l then some .nil else some .dead
  | _ => none
/-- At the end of a row of one's own, so many zero elements. -/
def appendZ (P : Program) (e : TypeId) (sto : List Row) (x y : AV) : Option Out :=
  match x, y with
  | .os k 0 len, .v (.int .i64 n) => (elemA P e).bind fun q => match sto[k]? with
    | some (.arr sz xs) => if sz = q.1 ∧ len = xs.length ∧ 0 ≤ n ∧ len + n.toNat ≤ LIM then some ⟨.os k 0 (len + n.toNat), (giveUp [k] sto).set k (.arr sz (xs ++ List.replicate n.toNat q.2)), [k], true⟩ else none
    | _ => none
  | _, _ => none
def builtinA (P : Program) (base : Nat) (own : List Nat) (b : Builtin) (ts : List TypeId) (args : List AV) (sto : List Row) : Option Out :=
  match b, ts, args with
  | .append, t :: _, [x, y] =>
    match P.underlying t with
    | some (.slice e) => match ts with
      | [_, u] => match P.underlying u with
        | some (.slice _) =>
          (elemA P e).bind fun q => (listOf sto y).bind fun ys => if rowsOk q.1 ys then appendA base own q.1 sto x ys else none
        | some (.int _) => appendZ P e sto x y
        | _ => none
      | _ => none
    | _ => none
  | .copy, t :: _, [x, y] => match P.underlying t with
    | some (.slice e) => (elemA P e).bind fun q => (listOf sto y).bind fun ys => if rowsOk q.1 ys then copyA q.1 sto x ys else none
    | _ => none
  | .clear, t :: _, [x] => match P.underlying t with
    | some (.slice e) => (elemA P e).bind fun q => clearA q.1 q.2 sto x
    | _ => none
  | _, _, _ => none
/-- Builtins that look at no memory. -/
def pureB (P : Program) (b : Builtin) (ts : List TypeId) (args : List AV) : Option AV :=
  match b, ts, args with
  | .len, [t], [x] =>
    match P.underlying t with
    | some (.slice _) => (lenA x).map fun (n : Nat) => goI (n : Int)
    | some .string => match x with
      | .v (.string s) => some (goI (s.size : Int))
      | _ => none
    | _ => none
  | .min, _, xs => minmaxA false xs
  | .max, _, xs => minmaxA true xs
  | _, _, _ => none
def touchesB : Builtin → Bool
  | .len | .min | .max => false
  | _ => true
/-- By a bool. -/
def ifA {α : Type} (v : Option AV) (x y : Option α) : Option α :=
  match v with
  | some (.v (.bool t)) => if t = true then x else y
  | _ => none
def pickA (c x y : Option AV) : Option AV := ifA c x y
def nilA : AV → Option AV
  | .rp cells => some (.rp cells)
  | .pt t i j => some (.pt t i j)
  | .clo f cs => some (.clo f cs)
  | _ => none
def extractA (x : AV) (i : Nat) : Option AV :=
  match x with
  | .tup xs => xs[i]?
  | _ => none
def buildA (P : Program) (t : TypeId) (ps : List (Nat × AV)) : Option AV :=
  match P.underlying t with
  | some (.struct fs) =>
    if fs.toList.all (fun f => (esz P f.type).isSome) = false then none else
    (places P fs ps).bind fun qs => (zeroA P t).bind fun z => (fillA z qs).map .agg
  | _ => none

def evOp (P : Program) (call : CallF) (base : Nat) (own : List Nat) (ea : Operand → Option AV) (sto : List Row) (op : Op) : Option Out :=
  let ret (x : Option AV) : Option Out := x.map fun x => ⟨x, sto, [], false⟩
  match op with
  | .move x | .assign x => ret (ea x)
  | .pick c a b => ret (pickA (ea c) (ea a) (ea b))
  | .alloc e => (zeroA P e).bind fun cs => freshBox base own cs sto
  | .box e x => (ea x).bind fun x => if boxable x then freshBox base own (cellsA x) sto else none
  | .build t parts => (mapParts ea parts.toList).bind fun ps => ret (buildA P t ps)
  | .buildSlice t len parts => (mapParts ea parts.toList).bind fun ps => buildSliceA P base own t len ps sto
  | .load t a => (ea a).bind fun a => (cellsAt sto a).bind fun cs => ret (loadA P t cs)
  | .store t a x => (ea a).bind fun a => (ea x).bind fun x => storeA P t sto a x
  | .nilCheck x => (ea x).bind fun x => ret (nilA x)
  | .binOp op t x y _ => if isNilC y then (ea x).bind fun x => ret (nilTest P op t x) else (ea x).bind fun x => (ea y).bind fun y => ret (binA P op t x y)
  | .unOp op _ x => (ea x).bind fun x => ret (unA op x)
  | .convert s d x => (ea x).bind fun x => ret (convA P s d x)
  | .makeFunc (.func f) first caps => if first.isEmpty then (mapA ea caps.toList).bind fun cs => ret (some (.clo f cs)) else none
  | .makeSlice t l c => (ea l).bind fun l => (ea c).bind fun c => makeSliceA P base own t l c sto
  | .slice t x lo hi mx => (ea x).bind fun x => (optA ea lo).bind fun lo => (optA ea hi).bind fun hi => (optA ea mx).bind fun mx =>
    match mx with
    | none => ret (sliceA P sto t x lo hi)
    | some m => ret (slice3A P sto t x lo hi (some m))
  | .fieldAddr s x f => (ea x).bind fun x => ret (fieldAddrA P s x f)
  | .field t x f => (ea x).bind fun x => ret (fieldA P t x f)
  | .indexAddr t x i => (ea x).bind fun x => (ea i).bind fun i => ret (indexAddrA P sto t x i)
  | .index t x i => (ea x).bind fun x => (ea i).bind fun i => ret (indexA P t x i)
  | .extract x i => (ea x).bind fun x => ret (extractA x i)
  | .call c => match c.callee with
    | .builtin b => (mapA ea c.args.toList).bind fun args => if touchesB b then builtinA P base own b c.argTypes.toList args sto else ret (pureB P b c.argTypes.toList args)
    | .value f => (ea f).bind fun f => match f with
      | .clo g caps => (mapA ea c.args.toList).bind fun args => callA call base own g (args ++ caps) sto
      | _ => none
    | _ => none
  | .makeMap t none => makeMapA P base own t sto
  | .lookup t m x ok => (ea m).bind fun m => (ea x).bind fun x => ret (lookupA P t sto m x ok)
  | .mapUpdate t m x v => (ea m).bind fun m => (ea x).bind fun x => (ea v).bind fun v => mapUpdateA P t sto m x v
  | .mapEntry t m x => (ea m).bind fun m => (ea x).bind fun x => mapEntryA P t sto m x
  | .entryStore t m s v => (ea m).bind fun m => (ea s).bind fun s => (ea v).bind fun v => entryStoreA sto m s v
  | _ => none

/-- A function's state: its slots, the memory, which of what came in stand no more for what they stood for. -/
structure St where
  env : List AV
  sto : List Row
  mv : List Nat

inductive Ex where
  | normal
  | exit (id : Nat)
  | ret
  deriving DecidableEq

def evA (env : List AV) : Operand → Option AV
  | .tmp t => env[t]?
  | .const v => some (constA v)
  | .global _ => none
  | .func f => some (.clo f [])
def addMv (base : Nat) (mv new : List Nat) : List Nat := new.foldl (fun m t => if t < base then (if m.contains t then m else m ++ [t]) else m) mv
def putA (env : List AV) : Option Nat → AV → List AV
  | none, _ => env
  | some d, x => env.set d x
def killE (ts : List Nat) (env : List AV) : List AV := if ts.isEmpty then env else killL ts env
def ownOf (hs : FH) (o : Oper) : List Nat := match o.dst with | some d => (hs.own.lookup d).getD [] | none => []
/-- Does an operation look at memory? -/
def touches : Op → Bool
  | .move _ | .assign _ | .pick .. | .build .. | .nilCheck _ | .binOp .. | .unOp .. | .convert .. | .makeFunc .. | .fieldAddr .. | .field .. | .index .. | .extract .. => false
  | .call c => match c.callee with | .builtin b => touchesB b | _ => true
  | _ => true
def isOs : Option AV → Bool
  | some (.nil) | some (.sl _) | some (.v _) | some (.rp _) => false
  | _ => true
def isRp : Option AV → Bool
  | some (.rp _) => true
  | _ => false
/-- Does it, at what it is given? -/
def partsFree (ea : Operand → Option AV) (parts : Array (Nat × Operand)) : Bool :=
  parts.toList.all fun p => match ea p.2 with
    | some x => (toksV x).isEmpty
    | none => false
/-- Does it append, to a list without room behind it, a list that can't change? -/
def appFree (ea : Operand → Option AV) (c : Call) : Bool :=
  match c.callee, c.args.toList with
  | .builtin .append, [x, y] => (match ea x with | some (.cl _) => true | _ => false) && (match ea y with | some (.sl _) => true | _ => false)
  | _, _ => false
def touchV (own : List Nat) (ea : Operand → Option AV) (op : Op) : Bool :=
  match op with
  | .buildSlice _ _ parts => !((own.isEmpty || own == [CLIP]) && partsFree ea parts)
  | .call c => !(own.isEmpty && appFree ea c) && touches (.call c)
  | .slice _ x _ _ _ => isOs (ea x)
  | .indexAddr _ x _ => isOs (ea x)
  | .load _ x => !isRp (ea x)
  | op => touches op
/-- What is kept of a step in a region: has memory changed, which tokens have moved, its value, whether it looked at memory. -/
structure Fl where
  w : Bool
  mv : List Nat
  v : AV
  t : Bool
  fr : Option (Nat × Row)
  n : Nat
  ad : Option Nat
  st : Option Nat
  deriving Inhabited
def noFl : Fl := ⟨false, [], undefA, false, none, 0, none, none⟩
/-- The piece of memory that is stored into. -/
def stOf (ea : Operand → Option AV) : Op → Option Nat
  | .store _ a _ => match ea a with
    | some (.pt t _ _) => some t
    | _ => none
  | _ => none
/-- The piece of memory that is looked at. -/
def adOf (ea : Operand → Option AV) : Op → Option Nat
  | .load _ a => match ea a with
    | some (.pt t _ _) => some t
    | _ => none
  | .indexAddr _ a _ => match ea a with
    | some (.os t _ _) => some t
    | _ => none
  | _ => none
mutual
def noDeadV : AV → Bool
  | .dead => false
  | .rp cells | .clo _ cells | .agg cells | .tup cells => noDeadL cells
  | _ => true
def noDeadL : List AV → Bool
  | [] => true
  | x :: r => noDeadV x && noDeadL r
end
def freshKind : Op → Bool
  | .alloc _ | .makeSlice .. | .makeMap _ none => true
  | .call c => match c.callee with | .value _ => true | _ => false
  | _ => false
def argsFree (ea : Operand → Option AV) : Op → Bool
  | .call c => match c.callee with
    | .value f => match ea f with
      | some (.clo g caps) => match mapA ea c.args.toList with
        | some args => (toksL (weakL (args ++ caps))).isEmpty
        | none => false
      | _ => false
    | _ => false
  | _ => true
/-- A row that is new, and has nothing to do with the others. -/
def frOf (base : Nat) (own : List Nat) (ea : Operand → Option AV) (op : Op) (r : Out) : Option (Nat × Row) :=
  match own with
  | [k] =>
    if freshKind op = true ∧ argsFree ea op = true ∧ k < LEND ∧ r.mv = [base + k] ∧ (toksV r.val).contains (base + k) = true then
      match r.sto[base + k]? with
      | some row => if (toksR row).isEmpty = true then some (base + k, row) else none
      | none => none
    else none
  | _ => none
/-- One operation: the state behind it, and what is kept of it. -/
def evStep (P : Program) (h : FH) (call : CallF) (base : Nat) (o : Oper) (st : St) : Option (St × Fl) :=
  (evOp P call base (ownOf h o) (evA st.env) st.sto o.op).map fun r =>
    (⟨putA (killE r.mv st.env) o.dst r.val, r.sto, addMv base st.mv r.mv⟩, ⟨r.w, r.mv, r.val, touchV (ownOf h o) (evA st.env) o.op && (frOf base (ownOf h o) (evA st.env) o.op r).isNone, frOf base (ownOf h o) (evA st.env) o.op r, r.sto.length, adOf (evA st.env) o.op, stOf (evA st.env) o.op⟩)
def guardA (ops : Array Oper) (env : List AV) (o : Oper) : Option Bool :=
  match o.guard with
  | none => some true
  | some (j, want) =>
    match (ops[j]?).bind (·.dst) with
    | some d => match env[d]? with
      | some (.v (.bool b)) => some (b == want)
      | some (.v (.tuple _)) => some false
      | _ => none
    | none => none
def evOps (P : Program) (h : FH) (call : CallF) (base : Nat) (ops : Array Oper) : List Oper → St → Option (St × List Fl)
  | [], st => some (st, [])
  | o :: r, st =>
    match guardA ops st.env o with
    | some b =>
      if b = true then (evStep P h call base o st).bind fun s => (evOps P h call base ops r s.1).map fun q => (q.1, s.2 :: q.2)
      else (evOps P h call base ops r { st with env := putA st.env o.dst undefA }).map fun q => (q.1, noFl :: q.2)
    | none => none
def looksA (ops : Array Oper) (o : Oper) : List Nat :=
  (o.op.operands.toList.filterMap fun | .tmp t => some t | _ => none) ++ (match o.guard with | some (g, _) => ((ops[g]?).bind (·.dst)).toList | none => [])
/-- The first one, a look at a map, comes to the same behind the other one. -/
def immune (a b : Oper) : Bool :=
  match a.op, b.op with
  | .lookup t _ _ false, .mapEntry t' _ _ => t == t'
  | _, _ => false
/-- Does a value name none of these tokens? -/
def apart (mv : List Nat) (x : AV) : Bool := (toksV x).all fun t => !mv.contains t
def apartO (mv : List Nat) : Option AV → Bool
  | some x => apart mv x
  | none => true
/-- An operation (the j-th) has nothing to do with these tokens. -/
def freeOf (ops : Array Oper) (env : List AV) (ws : List Fl) (mv : List Nat) (j : Nat) (b : Oper) : Bool :=
  apart mv (ws.getD j noFl).v && (looksA ops b).all fun s => apartO mv env[s]? && (ops.toList.zipIdx).all fun z => !(z.1.dst == some s) || apart mv (ws.getD z.2 noFl).v
/-- The second one, an address of an element, comes to the same ahead of and behind the first one, a store. -/
def mild (a b : Oper) (f : Fl) : Bool :=
  match a.op, b.op with
  | .store .., .indexAddr .. => f.mv.isEmpty
  | _, _ => false
/-- The first one makes a new row, or stores into a row, the second one looks at another one. -/
def calm (fx fy : Fl) : Bool :=
  match fx.fr, fy.ad with
  | some (u, _), some t => !(t == u) && apart [u] fy.v && noDeadV fy.v
  | none, some t => match fx.st with
    | some k => !(t == k) && fx.mv.isEmpty
    | none => false
  | _, _ => false
/-- Must one come ahead of the other one? -/
def clash (ops : Array Oper) (env : List AV) (ws : List Fl) (i j : Nat) (a b : Oper) : Bool :=
  (match a.dst with | some d => (looksA ops b).contains d || b.dst == some d | none => false) ||
  (match b.dst with | some d => (looksA ops a).contains d | none => false) ||
  ((ws.getD i noFl).w && ((ws.getD j noFl).t && !(mild a b (ws.getD i noFl) || calm (ws.getD i noFl) (ws.getD j noFl)))) || ((ws.getD j noFl).w && ((ws.getD i noFl).t && !(immune a b || (mild b a (ws.getD j noFl) || calm (ws.getD j noFl) (ws.getD i noFl))))) ||
  (!(ws.getD i noFl).mv.isEmpty && !freeOf ops env ws (ws.getD i noFl).mv j b) || (!(ws.getD j noFl).mv.isEmpty && !freeOf ops env ws (ws.getD j noFl).mv i a)
/-- What each operation waits for, as bits. -/
def bitsL : List Oper → List Nat → List Nat
  | [], acc => acc
  | o :: r, acc => bitsL r (acc ++ [o.after.toList.foldl (fun s e => if Region.binds .any e then s ||| 2 ^ e.on ||| acc.getD e.on 0 else s) 0])
/-- Whatever order is drawn, it comes to the same: what clashes is in one order alone. -/
def drawOk (ops : Array Oper) (env : List AV) (n : Nat) (ws : List Fl) : Bool :=
  let l := ops.toList.zipIdx
  let B := bitsL ops.toList []
  (ws.all fun f => !f.w || f.n == n) &&
  (l.all fun x => x.1.after.toList.all fun e => !Region.binds .any e || decide (e.on < x.2)) &&
  l.all fun y => l.all fun x => decide (y.2 ≤ x.2) || !clash ops env ws x.2 y.2 x.1 y.1 || (B.getD y.2 0).testBit x.2
def evRegion (P : Program) (h : FH) (call : CallF) (base : Nat) (ops : Array Oper) (draw : Bool) (st : St) : Option St :=
  (evOps P h call base ops ops.toList st).bind fun q => if !draw || drawOk ops st.env st.sto.length q.2 then some q.1 else none
/-- Slots but these fall away. -/
def keepE (ks : List Nat) : Nat → List AV → List AV
  | _, [] => []
  | i, x :: r => (if ks.contains i then x else .dead) :: keepE ks (i + 1) r
def killX (base : Nat) (h : FH) (c : Code) (q : Ex × St) : Ex × St :=
  match h.past.lookup (firstReg c) with
  | some (a, ta, b, tb) =>
    let ts := (match q.1 with | .ret => tb | _ => ta).map (base + ·)
    (q.1, ⟨keepE (match q.1 with | .ret => b | _ => a) 0 (killE ts q.2.env), giveUp ts q.2.sto, q.2.mv⟩)
  | none => q
/-- A slot's nil as an empty list; or those in the row that a slot names. -/
def weakAt (st : St) (i : Nat) : St :=
  match st.env[i]? with
  | some .nil => { st with env := st.env.set i (.sl []) }
  | some (.os t _ _) => match st.sto[t]? with
    | some (.arr sz xs) => { st with sto := st.sto.set t (.arr sz (xs.map weakL)) }
    | _ => st
  | _ => st
/-- The sign of a hint that a slot, or its row, be weakened. -/
def WEAK : Nat := 999
/-- A nil slice becomes an empty one of one's own: a slot's, or (cells + 100 * (n + 1)) cell n's of the box that it points to. -/
def nilAt (base : Nat) (st : St) (x : Nat × Nat × Nat) : St :=
  if x.2.2 = WEAK then weakAt st x.1 else
  match st.env[x.1]? with
  | some .nil => if base + x.2.1 < st.sto.length then ⟨(killE [base + x.2.1] st.env).set x.1 (.os (base + x.2.1) 0 0), (giveUp [base + x.2.1] st.sto).set (base + x.2.1) (.arr x.2.2 []), st.mv⟩ else st
  | some (.pt t 0 0) => match st.sto[t]? with
    | some (.box cells) => match cells[x.2.2 / 100 - 1]? with
      | some .nil => if base + x.2.1 < st.sto.length ∧ base + x.2.1 ≠ t then ⟨killE [base + x.2.1] st.env, ((giveUp [base + x.2.1] st.sto).set (base + x.2.1) (.arr (x.2.2 % 100) [])).set t (.box ((killL [base + x.2.1] cells).set (x.2.2 / 100 - 1) (.os (base + x.2.1) 0 0))), st.mv⟩ else st
      | _ => st
    | _ => st
  | _ => st
def joinAt0 (base : Nat) (h : FH) (c : Code) (st : St) : St :=
  match h.cuts.lookup (firstReg c) with
  | some (slots, toks) =>
    let ts := toks.map (base + ·)
    ⟨keepE slots 0 (killE ts st.env), giveUp ts st.sto, st.mv⟩
  | none => st
/-- Ahead of what comes next in a row of code. -/
def joinAt (base : Nat) (h : FH) (c : Code) (st : St) : St := ((h.joins.lookup (firstReg c)).getD []).foldl (nilAt base) (joinAt0 base h c st)
def evC (P : Program) (h : FH) (call : CallF) (base : Nat) (loop : Code → St → Option (Ex × St)) : Code → St → Option (Ex × St)
  | .skip, st => some (.normal, st)
  | .region _ ops draw, st => (evRegion P h call base ops draw st).map fun st => (.normal, st)
  | .seq a b, st =>
    match evC P h call base loop a st with
    | some (.normal, st) => evC P h call base loop b (joinAt base h b st)
    | r => r
  | .cond c a b, st =>
    ifA (evA st.env c) (evC P h call base loop a st) (evC P h call base loop b st)
  | .block id c, st =>
    match evC P h call base loop c st with
    | some (.exit j, st) => if j = id then some (.normal, st) else some (.exit j, st)
    | r => r
  | .loop c, st => (loop c st).map (killX base h c)
  | .exit id, st => some (.exit id, st)
  | .ret, st => some (.ret, st)
  | _, _ => none
def killAt0 (base : Nat) (h : FH) (c : Code) (st : St) : St :=
  match h.kill.lookup (firstReg c) with
  | some (slots, toks) =>
    let ts := toks.map (base + ·)
    ⟨keepE slots 0 (killE ts st.env), giveUp ts st.sto, st.mv⟩
  | none => st
def killAt (base : Nat) (h : FH) (c : Code) (st : St) : St := ((h.nils.lookup (firstReg c)).getD []).foldl (nilAt base) (killAt0 base h c st)
def evLoop (P : Program) (h : FH) (call : CallF) (base : Nat) : Nat → Code → St → Option (Ex × St)
  | 0, _, _ => none
  | k + 1, c, st =>
    match evC P h call base (evLoop P h call base k) c (killAt base h c st) with
    | some (.normal, st) => evLoop P h call base k c st
    | r => r
def resA (P : Program) (st : St) : List ResultVar → Option (List AV)
  | [] => some []
  | .tmp t :: r => (st.env[t]?).bind fun x => (resA P st r).map (x :: ·)
  | .cell a t :: r => (st.env[a]?).bind fun p => (cellsAt st.sto p).bind fun cs => (loadA P t cs).bind fun x => (resA P st r).map (x :: ·)
/-- One result, or several. -/
def packA : List AV → AV
  | [x] => weakV x
  | vs => .tup (weakL vs)
/-- What a call hands back: of the memory that it made what the answer leads to. -/
def packB (sg : Bool) (vs : List AV) : AV := if sg then (match vs with | [x] => x | vs => .tup vs) else packA vs
def finish (P : Program) (sg : Bool) (base : Nat) (fn : Func) (st : St) : Option (AV × List Row × List Nat) :=
  (resA P st fn.results.toList).bind fun vs =>
    let r := packB sg vs
    let ts := reach st.sto (2 * st.sto.length + 4) (toksV r) []
    let fresh := ts.filter fun t => base ≤ t
    let nm (t : Nat) : Nat := if t < base then t else base + fresh.idxOf t
    if base ≤ st.sto.length ∧ fresh.Nodup ∧ (st.sto.take base).all (fun row => (toksR row).all (· < base)) ∧ (fresh.all fun t => (match st.sto[t]? with | some row => (toksR row).all fun u => u < base || fresh.contains u | none => false)) ∧ (toksV r).all (fun t => t < base || fresh.contains t) then
      some (nameV nm r, st.sto.take base ++ fresh.map (fun t => nameR nm ((st.sto[t]?).getD .dead)), st.mv)
    else none
def evFn (P : Program) (H : FuncId → FH) : Nat → CallF
  | 0, _, _, _ => none
  | k + 1, f, args, sto =>
    match (H f).prim with
    | some p => p args sto
    | none =>
    match P.funcs[f]? with
    | none => none
    | some fn =>
      match fn.body with
      | none => none
      | some c =>
        let h := H f
        let base := sto.length
        match evC P h (evFn P H k) base (evLoop P h (evFn P H k) base k) c ⟨args ++ List.replicate (fn.ntmps - args.length) .dead, sto ++ List.replicate h.ntok .dead, []⟩ with
        | some (.normal, st) | some (.ret, st) => finish P h.strong base fn st
        | _ => none
end Go.Proofs.YtabdcfcnngnnoaaDoor.E
