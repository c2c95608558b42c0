/- The evaluator once more, on values that are known in part: what it asks of them it asks for as a premise. Definitions. -/
import Derived.Test.YtnmnaomfohlmcaaE20
set_option linter.unusedVariables false
namespace Go.Proofs.Ytnmnaomfohlmcaa.E
open Go
def goB (b : Bool) : AV := .v (.bool b)
/-- What must hold for it to come to something that answers as Q says. -/
abbrev M (α : Type) := (α → Prop) → Prop
def rt {α : Type} (x : α) : M α := fun Q => Q x
def bd {α β : Type} (m : M α) (f : α → M β) : M β := fun Q => m fun a => f a Q
def op? {α : Type} (o : Option α) : M α := fun Q => match o with | some x => Q x | none => False
def rq {α : Type} (p : Prop) (m : M α) : M α := fun Q => p ∧ m Q
/-- By a bool. -/
def TB (b : Bool) (X Y : Prop) : Prop := match b with | true => X | false => Y
def intOf : AV → Int | .v (.int _ n) => n | _ => 0
def boolOf : AV → Bool | .v (.bool b) => b | _ => false
def strOf : AV → ByteArray | .v (.string s) => s | _ => ⟨#[]⟩
def slOf : AV → List (List AV) | .sl xs => xs | _ => []
/-- x, as one of the kind of the zero value z. -/
def rdI (row : List AV) (j : Nat) : Int := intOf (row.getD j .dead)
def rdB (row : List AV) (j : Nat) : Bool := boolOf (row.getD j .dead)
def rdS (row : List AV) (j : Nat) : ByteArray := strOf (row.getD j .dead)
def rdL (row : List AV) (j : Nat) : List (List AV) := slOf (row.getD j .dead)
def rowAt (xs : List (List AV)) (n : Nat) : List AV := xs.getD n []
def coA : AV → List AV → Nat → AV
  | .v (.int k _), row, j => .v (.int k (rdI row j))
  | .v (.bool _), row, j => .v (.bool (rdB row j))
  | .v (.string _), row, j => .v (.string (rdS row j))
  | .nil, row, j => .sl (rdL row j)
  | _, row, j => row.getD j .dead
def coL : List AV → List AV → Nat → List AV
  | [], _, _ => []
  | z :: r, row, j => coA z row j :: coL r row (j + 1)
def cellT (P : Program) (t : TypeId) (row : List AV) (j : Nat) : List AV := coL ((zeroA P t).getD []) row j
def eqFieldsT (P : Program) (eq : TypeId → List AV → List AV → Option Bool) (xs ys : List AV) : List Field → Option Bool
  | [] => some true
  | f :: r =>
    if f.name = "_" then none else
    (esz P f.type).bind fun s => (eq f.type ((xs.drop f.offset).take s) ((ys.drop f.offset).take s)).bind fun b => (eqFieldsT P eq xs ys r).map fun c => b && c
def eqT (P : Program) : Nat → TypeId → List AV → List AV → Option Bool
  | 0, _, _, _ => none
  | n + 1, t, xs, ys =>
    match P.underlying t with
    | some (.int _) => match xs, ys with | [.v (.int k a)], [.v (.int k' b)] => if k = k' then some (a == b) else none | _, _ => none
    | some .bool => match xs, ys with | [.v (.bool a)], [.v (.bool b)] => some (a == b) | _, _ => none
    | some (.struct fs) => if P.stoodInHeld t then none else eqFieldsT P (eqT P n) xs ys fs.toList
    | _ => none
def binT (P : Program) (op : BinOp) (t : TypeId) (x y : AV) : M AV :=
  match op, x, y with
  | .shl, .v (.int k a), .v (.int _ b) => rq (0 ≤ b) (rt (.v (.int k (k.wrap (a * 2 ^ (min b.toNat k.bits))))))
  | .shr, .v (.int k a), .v (.int _ b) => rq (0 ≤ b) (rt (.v (.int k (a.fdiv (2 ^ (min b.toNat k.bits))))))
  | .quo, .v (.int k a), .v (.int k' b) => if k = k' then rq (b ≠ 0) (rt (.v (.int k (k.wrap (a.tdiv b))))) else op? none
  | .rem, .v (.int k a), .v (.int k' b) => if k = k' then rq (b ≠ 0) (rt (.v (.int k (a.tmod b)))) else op? none
  | .eql, .agg xs, .agg ys => match P.underlying t with | some (.struct _) => if P.eqGuardType P.depth t then op? none else op? ((eqT P 100 t xs ys).map fun r => .v (.bool r)) | _ => op? none
  | .neq, .agg xs, .agg ys => match P.underlying t with | some (.struct _) => if P.eqGuardType P.depth t then op? none else op? ((eqT P 100 t xs ys).map fun r => .v (.bool (!r))) | _ => op? none
  | op, x, y => op? (binA P op t x y)
def boundT (lim : Nat) : Option AV → Nat → M Nat
  | none, d => rt d
  | some (.v (.int _ n)), _ => rq (0 ≤ n ∧ n ≤ lim) (rt n.toNat)
  | _, _ => op? none
def sliceT (P : Program) (sto : List Row) (t : TypeId) (x : AV) (lo hi : Option AV) : M AV :=
  match P.underlying t, x with
  | some (.slice e), .nil => bd (op? (esz P e)) fun s => bd (boundT 0 hi 0) fun h => bd (boundT h lo 0) fun l => rt .nil
  | some (.slice e), .sl xs => bd (op? (esz P e)) fun s => rq (rowsOk s xs = true) (bd (boundT xs.length hi xs.length) fun h => bd (boundT h lo 0) fun l => rt (.sl ((xs.take h).drop l)))
  | some (.slice e), .os k off len =>
    match sto[k]? with
    | some (.arr sz xs) => bd (op? (esz P e)) fun s => if sz = s then bd (boundT (xs.length - off) hi len) fun h => bd (boundT h lo 0) fun l => rt (.os k (off + l) (h - l)) else op? none
    | _ => op? none
  | some .string, .v (.string s) => bd (boundT s.size hi s.size) fun h => bd (boundT h lo 0) fun l => rt (.v (.string (s.extract l h)))
  | _, _ => op? none
/-- An integer (a sign for the parser). -/
@[simp] def iz (n : Int) : Int := n
/-- Cells of a row. -/
def cutAt (n j : Nat) (o : Option (List AV)) : Option (List AV) := o.map fun r => (r.drop j).take n
def loadT (P : Program) (t : TypeId) (sto : List Row) (a : AV) : M AV :=
  match a with
  | .pt k i j =>
    match sto[k]? with
    | some (.arr sz xs) =>
      if esz P t = some (cellT P t [] 0).length then
        rq (cutAt (cellT P t [] 0).length j xs[i]? = some (cellT P t (rowAt xs i) j)) (op? (loadA P t (cellT P t (rowAt xs i) j)))
      else op? none
    | _ => bd (op? (cellsAt sto a)) fun cs => op? (loadA P t cs)
  | _ => bd (op? (cellsAt sto a)) fun cs => op? (loadA P t cs)
def storeT (P : Program) (t : TypeId) (sto : List Row) (p x : AV) : M Out :=
  match p with
  | .pt k i j =>
    match sto[k]? with
    | some (.arr sz xs) =>
      if boxable x then
        let cs := cellsA x
        bd (op? (esz P t)) fun s =>
          if cs.length = s then
            bd (op? (freezeL sto cs)) fun fz =>
              if fz.2.contains k then op? none else
              if j + cs.length ≤ sz then
                rq ((xs[i]?).map List.length = some sz)
                  (if j = 0 ∧ fz.1.length = sz then rt ⟨.dead, (giveUp fz.2 sto).set k (.arr sz (xs.set i fz.1)), fz.2, true⟩
                  else rt ⟨.dead, (giveUp fz.2 sto).set k (.arr sz (xs.set i (splice (rowAt xs i) j fz.1))), fz.2, true⟩)
              else op? none
          else op? none
      else op? none
    | _ => op? (storeA P t sto p x)
  | _ => op? (storeA P t sto p x)
def makeSliceT (P : Program) (base : Nat) (own : List Nat) (t : TypeId) (l c : AV) (sto : List Row) : M Out :=
  match P.underlying t, l, c with
  | some (.slice e), .v (.int _ n), .v (.int _ m) =>
    bd (op? (elemA P e)) fun q => rq (0 ≤ n ∧ n ≤ m ∧ m ≤ LIM) (op? (freshArr base own q.1 (List.replicate n.toNat q.2) sto))
  | _, _, _ => op? none
def indexAddrT (P : Program) (sto : List Row) (t : TypeId) (x i : AV) : M AV :=
  match P.underlying t, i with
  | some (.slice e), .v (.int _ n) =>
    bd (op? (esz P e)) fun s =>
      match x with
      | .sl xs =>
        if s = (cellT P e [] 0).length then rq (0 ≤ n ∧ xs[n.toNat]? = some (cellT P e (rowAt xs n.toNat) 0)) (rt (.rp (cellT P e (rowAt xs n.toNat) 0)))
        else op? none
      | .os k off len =>
        match sto[k]? with
        | some (.arr sz xs) => if sz = s then rq (0 ≤ n ∧ n < len ∧ off + n.toNat < xs.length) (rt (.pt k (off + n.toNat) 0)) else op? none
        | _ => op? none
      | _ => op? none
  | some (.array len e), .v (.int _ n) =>
    bd (op? (esz P e)) fun s =>
      rq (0 ≤ n ∧ n < len)
        (match x with
        | .rp cells => rt (.rp (cells.drop (n.toNat * s)))
        | .pt t i j => rt (.pt t i (j + n.toNat * s))
        | _ => op? none)
  | _, _ => op? none
def indexT (P : Program) (t : TypeId) (x i : AV) : M AV :=
  match P.underlying t, x, i with
  | some (.array len e), .agg cells, .v (.int _ n) =>
    if esz P e = some (cellT P e [] 0).length then
      rq (0 ≤ n ∧ n < len ∧ (cells.drop (n.toNat * (cellT P e [] 0).length)).take (cellT P e [] 0).length = cellT P e cells (n.toNat * (cellT P e [] 0).length)) (op? (loadA P e (cellT P e cells (n.toNat * (cellT P e [] 0).length))))
    else op? none
  | some .string, .v (.string s), .v (.int _ n) => rq (0 ≤ n ∧ n.toNat < s.size) (rt (.v (.int .u8 ((s[n.toNat]?).getD 0).toNat)))
  | _, _, _ => op? none
/-- 'cut': does it append to what has room behind it? -/
def tb {α : Type} (b : Bool) (m n : M α) : M α := fun Q => TB b (m Q) (n Q)
def appendT (cut : Bool) (base : Nat) (own : List Nat) (s : Nat) (sto : List Row) (x : AV) (ys : List (List AV)) : M Out :=
  match x with
  | .cl xs => rq (rowsOk s xs = true ∧ (0 < ys.length ∨ xs.length = 0) ∧ xs.length + ys.length ≤ LIM) (op? (freshArr base own s (xs ++ ys) sto))
  | .nil => rq (ys.length ≤ LIM) (op? (freshArr base own s ys sto))
  | .os k off len =>
    match sto[k]? with
    | some (.arr sz xs) =>
      if sz = s then
        if cut then rq (off + len + ys.length ≤ xs.length ∧ (off ≠ 0 ∨ len ≠ xs.length ∨ LIM < len + ys.length)) (rt ⟨.os k off (len + ys.length), sto.set k (.arr s (xs.take (off + len) ++ ys ++ xs.drop (off + len + ys.length))), [], true⟩)
        else if off = 0 then rq (len = xs.length ∧ len + ys.length ≤ LIM) (rt ⟨.os k 0 (len + ys.length), (giveUp [k] sto).set k (.arr s (xs ++ ys)), [k], true⟩)
        else tb ((ys.length : Int) == 0) (rq (off + len = xs.length) (rt ⟨.os k off len, sto, [], true⟩))
          (rq (off + len = xs.length ∧ len + ys.length ≤ LIM) (rt ⟨.os k 0 (len + ys.length), (giveUp [k] sto).set k (.arr s (xs.drop off ++ ys)), [k], true⟩))
      else op? none
    | _ => op? none
  | _ => op? none
def builtinT (P : Program) (cut : Bool) (base : Nat) (own : List Nat) (b : Builtin) (ts : List TypeId) (args : List AV) (sto : List Row) : M Out :=
  match b, ts, args with
  | .append, t :: _, [x, y] =>
    match P.underlying t with
    | some (.slice e) => match ts with
      | [_, u] => match P.underlying u with
        | some (.slice _) =>
          bd (op? (elemA P e)) fun q => bd (op? (listOf sto y)) fun ys => rq (rowsOk q.1 ys = true) (appendT cut base own q.1 sto x ys)
        | _ => op? none
      | _ => op? none
    | _ => op? none
  | .copy, t :: _, [x, y] => match P.underlying t with
    | some (.slice e) => bd (op? (elemA P e)) fun q => bd (op? (listOf sto y)) fun ys => rq (rowsOk q.1 ys = true) (op? (copyA q.1 sto x ys))
    | _ => op? none
  | b, ts, args => op? (builtinA P base own b ts args sto)
/-- Slots, of which some alone hold something. -/
def mkE : Nat → Nat → List (Nat × AV) → List AV
  | 0, _, _ => []
  | n + 1, i, [] => .dead :: mkE n (i + 1) []
  | n + 1, i, (j, x) :: r => if i = j then x :: mkE n (i + 1) r else .dead :: mkE n (i + 1) ((j, x) :: r)
/-- A state with n slots. -/
def mkS (n : Nat) (l : List (Nat × AV)) (sto : List Row := []) (mv : List Nat := []) : St := ⟨mkE n 0 l, sto, mv⟩
/-- What is asked of a key, and what stands there. -/
def kindV : Value → Value → Value
  | .int k _, x => .int k (intOf (.v x))
  | .bool _, x => .bool (boolOf (.v x))
  | _, x => x
def atKeyV (key : List Int) (z : Value) (L : List (List Int × Value)) : Value := (valL key L).getD z
def lookupT (P : Program) (t : TypeId) (sto : List Row) (m x : AV) (ok : Bool) : M AV :=
  bd (op? (atMap P t sto m x)) fun q => rq (goodKey q.2.1.2 q.2.2.2.1 = true)
    (rq (atKeyV q.2.2.2.1 q.2.2.2.2 q.2.2.1 = kindV q.2.2.2.2 (atKeyV q.2.2.2.1 q.2.2.2.2 q.2.2.1))
      (rt (if ok then .tup [.v (kindV q.2.2.2.2 (atKeyV q.2.2.2.1 q.2.2.2.2 q.2.2.1)), .v (.bool (valL q.2.2.2.1 q.2.2.1).isSome)] else .v (kindV q.2.2.2.2 (atKeyV q.2.2.2.1 q.2.2.2.2 q.2.2.1)))))
def mapUpdateT (P : Program) (t : TypeId) (sto : List Row) (m x v : AV) : M Out :=
  bd (op? (atMap P t sto m x)) fun q => bd (op? (elemV v)) fun v => rq (goodKey q.2.1.2 q.2.2.2.1 = true)
    (rt ⟨.dead, sto.set q.1 (.map q.2.1 (updL q.2.2.2.1 v q.2.2.1)), [], true⟩)
def mapEntryT (P : Program) (t : TypeId) (sto : List Row) (m x : AV) : M Out :=
  bd (op? (atMap P t sto m x)) fun q => rq (goodKey q.2.1.2 q.2.2.2.1 = true)
    (rq (atKeyV q.2.2.2.1 q.2.2.2.2 q.2.2.1 = kindV q.2.2.2.2 (atKeyV q.2.2.2.1 q.2.2.2.2 q.2.2.1))
      (rt ⟨.tup [.v (kindV q.2.2.2.2 (atKeyV q.2.2.2.1 q.2.2.2.2 q.2.2.1)), goI (((posL q.2.2.2.1 q.2.2.1).getD q.2.2.1.length : Nat) : Int)], sto.set q.1 (.map q.2.1 (entL q.2.2.2.1 q.2.2.2.2 q.2.2.1)), [], true⟩))
def entryStoreT (sto : List Row) (m s v : AV) : M Out :=
  match m, s with
  | .mp k, .v (.int .i64 n) => match sto[k]? with
    | some (.map kd L) => bd (op? (elemV v)) fun v => rq (0 ≤ n ∧ n.toNat < L.length) (rt ⟨.dead, sto.set k (.map kd (setL n.toNat v L)), [], true⟩)
    | _ => op? none
  | _, _ => op? none
/-- What is known of calls. -/
abbrev CallM := FuncId → List AV → List Row → M (AV × List Row × List Nat)
def callBT (call : CallM) (base : Nat) (own : List Nat) (f : FuncId) (args : List AV) (ts : List Nat) (sto : List Row) : M Out :=
  if closedA ts args sto then
    bd (call f (nameL (idxOf ts) args) (ts.map fun t => nameR (idxOf ts) (sto.getD t .dead))) fun q =>
      op? (callB (fun _ _ _ => some q) base own f args ts sto)
  else op? none
def callST (call : CallM) (base : Nat) (own : List Nat) (f : FuncId) (args0 : List AV) (sto : List Row) : M Out :=
  let args := weakL args0
  if (toksL args).isEmpty ∧ own.isEmpty then
    bd (call f args []) fun q => op? ((settleV 0 q.2.1 q.1).map fun r => ⟨r, sto, [], false⟩)
  else callBT call base own f args (reach sto (2 * sto.length + 2 * args.length + 4) (toksL args) []) sto
def lentVT (full : List Row) : AV → M AV
  | .v x => rt (.v x)
  | .sl [] => rt (.sl [])
  | .os k off len => match full[k]? with
    | some (.arr sz xs) => rq (scalars xs = true) (rt (.sl ((xs.drop off).take len)))
    | _ => op? none
  | _ => op? none
def lentLT (full : List Row) : List AV → M (List AV)
  | [] => rt []
  | x :: r => bd (lentVT full x) fun y => bd (lentLT full r) fun l => rt (y :: l)
def lentRT (full : List Row) : AV → M AV
  | .tup l => bd (lentLT full l) fun l => rt (.tup l)
  | .agg l => bd (lentLT full l) fun l => rt (.agg l)
  | x => lentVT full x
def lendT (call : CallM) (base : Nat) (own : List Nat) (f : FuncId) (args0 : List AV) (sto : List Row) : M Out :=
  bd (op? (lendL sto (weakL args0))) fun fz => bd (call f fz.1 []) fun q =>
    match own with
    | [k] => match q.1 with
      | .os t off len => match q.2.1[t]? with
        | some (.arr sz xs) => if base + k < sto.length then rq (scalars xs = true) (rt ⟨.os (base + k) off len, (giveUp [base + k] sto).set (base + k) (.arr sz xs), [base + k], true⟩) else op? none
        | _ => op? none
      | .nil => rt ⟨.nil, sto, [], false⟩
      | _ => op? none
    | [] => bd (lentRT q.2.1 q.1) fun r => rt ⟨r, sto, [], false⟩
    | _ => op? none
def callT (call : CallM) (base : Nat) (own : List Nat) (f : FuncId) (args0 : List AV) (sto : List Row) : M Out :=
  if own.head? = some LEND then lendT call base own.tail f args0 sto else callST call base own f args0 sto
def nilTestT (P : Program) (op : BinOp) (t : TypeId) (x : AV) : M AV :=
  match P.underlying t, x with
  | some (.slice _), .sl xs => rq (0 < xs.length) (op? (asNil op false))
  | some (.slice _), .os _ _ len => rq (0 < len) (op? (asNil op false))
  | _, x => op? (nilTest P op t x)
def clipT (xs : List (List AV)) (hi mx : Option AV) : M AV :=
  match hi, mx with
  | some _, some _ => bd (boundT xs.length mx 0) fun m => bd (boundT m hi 0) fun h => rq (m = xs.length ∧ h = xs.length) (rt (.cl xs))
  | _, _ => op? none
def slice3T (P : Program) (sto : List Row) (t : TypeId) (x : AV) (lo hi mx : Option AV) : M AV :=
  match P.underlying t with
  | some (.slice e) =>
    bd (op? (esz P e)) fun _ =>
    match x, lo with
    | .sl xs, none => clipT xs hi mx
    | x, lo =>
    bd (op? (match x with
      | .sl xs => some xs.length
      | .nil => some 0
      | .os k off _ => match sto[k]? with | some (.arr sz xs) => some (xs.length - off) | _ => none
      | _ => none)) fun n => bd (boundT n mx n) fun m => match hi with
      | none => op? none
      | some _ => bd (boundT m hi 0) fun h => bd (boundT h lo 0) fun l => rt (if m = l then .nil else .dead)
  | _ => op? none
def evOpT (P : Program) (call : CallM) (cut : Bool) (base : Nat) (own : List Nat) (ea : Operand → Option AV) (sto : List Row) (op : Op) : M Out :=
  let ret (x : M AV) : M Out := bd x fun x => rt ⟨x, sto, [], false⟩
  match op with
  | .load t a => bd (op? (ea a)) fun a => ret (loadT P t sto a)
  | .store t a x => bd (op? (ea a)) fun a => bd (op? (ea x)) fun x => storeT P t sto a x
  | .binOp op t x y _ => if isNilC y then bd (op? (ea x)) fun x => ret (nilTestT P op t x) else bd (op? (ea x)) fun x => bd (op? (ea y)) fun y => ret (binT P op t x y)
  | .makeSlice t l c => bd (op? (ea l)) fun l => bd (op? (ea c)) fun c => makeSliceT P base own t l c sto
  | .slice t x lo hi mx => bd (op? (ea x)) fun x => bd (op? (optA ea lo)) fun lo => bd (op? (optA ea hi)) fun hi => bd (op? (optA ea mx)) fun mx =>
    match mx with
    | none => ret (sliceT P sto t x lo hi)
    | some m => ret (slice3T P sto t x lo hi (some m))
  | .indexAddr t x i => bd (op? (ea x)) fun x => bd (op? (ea i)) fun i => ret (indexAddrT P sto t x i)
  | .index t x i => bd (op? (ea x)) fun x => bd (op? (ea i)) fun i => ret (indexT P t x i)
  | .call c => match c.callee with
    | .builtin b => bd (op? (mapA ea c.args.toList)) fun args => if touchesB b then builtinT P cut base own b c.argTypes.toList args sto else ret (op? (pureB P b c.argTypes.toList args))
    | .value f => bd (op? (ea f)) fun f => match f with
      | .clo g caps => bd (op? (mapA ea c.args.toList)) fun args => callT call base own g (args ++ caps) sto
      | _ => op? none
    | _ => op? none
  | .lookup t m x ok => bd (op? (ea m)) fun m => bd (op? (ea x)) fun x => ret (lookupT P t sto m x ok)
  | .mapUpdate t m x v => bd (op? (ea m)) fun m => bd (op? (ea x)) fun x => bd (op? (ea v)) fun v => mapUpdateT P t sto m x v
  | .mapEntry t m x => bd (op? (ea m)) fun m => bd (op? (ea x)) fun x => mapEntryT P t sto m x
  | .entryStore t m s v => bd (op? (ea m)) fun m => bd (op? (ea s)) fun s => bd (op? (ea v)) fun v => entryStoreT sto m s v
  | op => op? (evOp P (fun _ _ _ => none) base own ea sto op)
/-- A slot's bool becomes one that is known. -/
def tellT (env : List AV) (d : Nat) : M (List AV) :=
  match env[d]? with
  | some (.v (.bool b)) => fun Q => TB b (Q (env.set d (.v (.bool true)))) (Q (env.set d (.v (.bool false))))
  | _ => rt env
def guardSlot (ops : Array Oper) (o : Oper) : Option Nat :=
  match o.guard with
  | none => none
  | some (j, _) => (ops[j]?).bind (·.dst)
def tellO (d : Option Nat) (st : St) : M St :=
  match d with
  | some d => bd (tellT st.env d) fun env => rt { st with env := env }
  | none => rt st
def pickSlot : Op → Option Nat
  | .pick (.tmp d) _ _ => some d
  | _ => none
def evStepT (P : Program) (h : FH) (call : CallM) (cut : Bool) (base : Nat) (o : Oper) (st : St) : M (St × Fl) :=
  bd (tellO (pickSlot o.op) st) fun st => bd (evOpT P call cut base (ownOf h o) (evA st.env) st.sto o.op) fun r =>
    rt (⟨putA (killE r.mv st.env) o.dst r.val, r.sto, addMv base st.mv r.mv⟩, ⟨r.w, r.mv, r.val, touchV (ownOf h o) (evA st.env) o.op && (frOf base (ownOf h o) (evA st.env) o.op r).isNone, frOf base (ownOf h o) (evA st.env) o.op r, r.sto.length, adOf (evA st.env) o.op, stOf (evA st.env) o.op⟩)
def evOpsT (P : Program) (h : FH) (call : CallM) (cut : Bool) (base : Nat) (ops : Array Oper) : List Oper → St → List Fl → M (St × List Fl)
  | [], st, fl => rt (st, fl)
  | o :: r, st, fl =>
    bd (tellO (guardSlot ops o) st) fun st => bd (op? (guardA ops st.env o)) fun b =>
      if b = true then bd (evStepT P h call cut base o st) fun s => evOpsT P h call cut base ops r s.1 (fl ++ [s.2])
      else evOpsT P h call cut base ops r { st with env := putA st.env o.dst undefA } (fl ++ [noFl])
def opSlot : Operand → Option Nat
  | .tmp d => some d
  | _ => none
/-- What is known of loops. -/
abbrev LoopM := Code → St → M (Ex × St)
def evCT (P : Program) (h : FH) (call : CallM) (cut : Bool) (base : Nat) (loop part : LoopM) : Code → St → M (Ex × St)
  | .skip, st => rt (.normal, st)
  | .region _ ops draw, st => bd (evOpsT P h call cut base ops ops.toList st []) fun q => if !draw || drawOk ops st.env st.sto.length q.2 then rt (.normal, q.1) else op? none
  | .seq a b, st => bd (evCT P h call cut base loop part a st) fun q => match q.1 with
    | .normal => match h.cuts.lookup (firstReg b) with
      | some _ => part b (joinAt base h b q.2)
      | none => evCT P h call cut base loop part b (joinAt base h b q.2)
    | _ => rt q
  | .cond c a b, st => bd (tellO (opSlot c) st) fun st => match evA st.env c with
    | some (.v (.bool t)) => if t = true then evCT P h call cut base loop part a st else evCT P h call cut base loop part b st
    | _ => op? none
  | .block id c, st => bd (evCT P h call cut base loop part c st) fun q => match q.1 with
    | .exit j => if j = id then rt (.normal, q.2) else rt q
    | _ => rt q
  | .loop c, st => loop c st
  | .exit id, st => rt (.exit id, st)
  | .ret, st => rt (.ret, st)
  | _, _ => op? none
/-- What the author says a call comes to. -/
inductive CT where
  | is (r : AV × List Row × List Nat)
  | by (b : Bool) (x y : CT)
  | no
def CT.ask (o Q : AV × List Row × List Nat → Prop) : CT → Prop
  | .is r => o r ∧ Q r
  | .by b x y => TB b (x.ask o Q) (y.ask o Q)
  | .no => False
abbrev CallT := FuncId → List AV → List Row → CT
def CT.of : Option (AV × List Row × List Nat) → CT
  | some r => .is r
  | none => .no
instance : Coe CallF CallT := ⟨fun F f args sto => CT.of (F f args sto)⟩
def callsM (P : Program) (H : FuncId → FH) (F : CallT) : CallM := fun f args sto Q => (F f args sto).ask (fun r => Wf P H f args sto = some r) Q
/-- What the author says a loop comes to: by bools. -/
inductive LT where
  | is (ex : Ex) (st : St)
  | by (b : Bool) (x y : LT)
  | no
def LT.ask (o Q : Ex × St → Prop) : LT → Prop
  | .is ex st => o (ex, st) ∧ Q (ex, st)
  | .by b x y => TB b (x.ask o Q) (y.ask o Q)
  | .no => False
/-- From every state that is s once what is no more looked at has fallen away the loop comes to r. -/
structure LoopTo (P : Program) (H : FuncId → FH) (h : FH) (base : Nat) (c : Code) (s : St) (r : Ex × St) : Prop where
  go : ∀ st, killAt base h c st = s → (Lf P H h base c st).map (killX base h c) = some r
/-- What comes next in a row of code comes from state s to r. -/
structure PartTo (P : Program) (H : FuncId → FH) (h : FH) (base : Nat) (c : Code) (s : St) (r : Ex × St) : Prop where
  go : evC P h (Wf P H) base (Lf P H h base) c s = some r
/-- The sign of what comes next, among the loops. -/
def NEXT : Nat := 1000000
def partsM (P : Program) (H : FuncId → FH) (h : FH) (base : Nat) (L : Nat → St → LT) : LoopM := fun c st Q => (L (NEXT + firstReg c) st).ask (PartTo P H h base c st) Q
def loopsM (P : Program) (H : FuncId → FH) (h : FH) (base : Nat) (L : Nat → St → LT) : LoopM := fun c st Q => (L (firstReg c) (killAt base h c st)).ask (LoopTo P H h base c (killAt base h c st)) Q
end Go.Proofs.Ytnmnaomfohlmcaa.E
