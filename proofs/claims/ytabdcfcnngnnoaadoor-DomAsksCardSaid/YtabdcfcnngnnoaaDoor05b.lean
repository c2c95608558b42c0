/- Functions, by what the evaluator asks; the theorems t.. were printed by show.txt, a program of this session. -/
import Derived.Test.YtabdcfcnngnnoaaDoor05a
set_option linter.unusedVariables false
set_option linter.unusedSectionVars false
set_option linter.unusedSimpArgs false
set_option maxRecDepth 100000
namespace Go.Proofs.YtabdcfcnngnnoaaDoor.E
open Go
namespace U
/-- The blocks that come next. -/
def next (x : XI) : List Int := if x.op = 21 then [x.n] else if x.op = 22 then (if x.n = x.m then [x.n] else if x.m < x.n then [x.m, x.n] else [x.n, x.m]) else []
def uses1 (op a b : Int) : List Int := (if has op 65 then [a] else []) ++ (if has op 66 then [b] else [])
def uses (x : XI) : List Int := uses1 x.op x.a x.b ++ (if has x.op 76 then x.args else [])
def bare (x : XI) : Bool :=
  (x.d == 0 || has x.op 68) && (x.a == 0 || has x.op 65) && (x.b == 0 || has x.op 66) && (x.n == 0 || (has x.op 78 || has x.op 110)) && (x.m == 0 || has x.op 77) && ((x.args.length : Int) == 0 || has x.op 76)
end U
def F82 : CallT := fun f args sto => match f, args with
 | 101, [.v (.int _ n), .v (.int _ c)] => .is (goB (U.has n c), [], [])
 | _, _ => .no
def L438 (a : List XF) (n : Int) (i : Nat) : Nat → St → LT := fun id st => .is (.exit 2) (mkS 90 [(1, .pt 0 0 0), (3, goI n), (4, goI i)] st.sto)
def L4312 (i k : Nat) (n : Int) : Nat → St → LT := fun id st => .is (.exit 4) (mkS 90 [(1, .pt 0 0 0), (3, goI n), (4, goI i), (5, .pt 1 0 0), (6, goI k)] st.sto)

theorem t82 (op : Int) (d : Int) (a : Int) (b : Int) (n : Int) (m : Int) (l : List Int) (r : AV × List Row × List Nat) : (runT Tryd.prog H F82 L0 false 82 [AV.agg [goI op, goI d, goI a, goI b, goI n, goI m, AV.sl (List.map encI l)]] []
 fun q => q = r) = (Wf Tryd.prog H 101 [goI op, AV.v (Value.int IntKind.u8 68)] [] = some (goB (U.has op 68), [], []) ∧
 TB (!U.has op 68) ((AV.tup [goI 0, goB false], [], []) = r) ((AV.tup [goI d, goB true], [], []) = r)) := by kernel_rfl
theorem t46 (op : Int) (d : Int) (a : Int) (b : Int) (n : Int) (m : Int) (l : List Int) (r : AV × List Row × List Nat) : (runT Tryd.prog H F82 L0 false 77 [AV.agg [goI op, goI d, goI a, goI b, goI n, goI m, AV.sl (List.map encI l)]] []
 fun q => q = r) = (TB (op == 21) ((AV.sl [[goI n]], [], []) = r)
 (TB (op == 22)
 (TB (n == m) ((AV.sl [[goI n]], [], []) = r)
 ((AV.sl
 [[goI (if false = true then if n < m then m else n else if m < n then m else n)],
 [goI (if true = true then if n < m then m else n else if m < n then m else n)]],
 [], []) =
 r))
 ((AV.sl [], [], []) = r))) := by kernel_rfl
theorem t57 (op : Int) (d : Int) (a : Int) (b : Int) (n : Int) (m : Int) (l : List Int) (r : AV × List Row × List Nat) : (runT Tryd.prog H F82 L0 false 81 [AV.agg [goI op, goI d, goI a, goI b, goI n, goI m, AV.sl (List.map encI l)]] []
 fun q => q = r) = (Wf Tryd.prog H 101 [goI op, AV.v (Value.int IntKind.u8 65)] [] = some (goB (U.has op 65), [], []) ∧
 TB (U.has op 65)
 (true = true ∧
 1 ≤ 1000000 ∧
 Wf Tryd.prog H 101 [goI op, AV.v (Value.int IntKind.u8 66)] [] = some (goB (U.has op 66), [], []) ∧
 TB (U.has op 66)
 (true = true ∧
 (1 = 1 ∧ 2 ≤ 1000000) ∧
 Wf Tryd.prog H 101 [goI op, AV.v (Value.int IntKind.u8 76)] [] = some (goB (U.has op 76), [], []) ∧
 TB (U.has op 76)
 (rowsOk 1 (List.map encI l) = true ∧
 (2 = 2 ∧ 2 + List.length (List.map encI l) ≤ 1000000) ∧
 (AV.os 0 0 (2 + List.length (List.map encI l)),
 [Row.arr 1 ([goI a] :: [goI b] :: List.append._f [] PUnit.unit (List.map encI l))], []) =
 r)
 ((AV.os 0 0 2, [Row.arr 1 [[goI a], [goI b]]], []) = r))
 (Wf Tryd.prog H 101 [goI op, AV.v (Value.int IntKind.u8 76)] [] = some (goB (U.has op 76), [], []) ∧
 TB (U.has op 76)
 (rowsOk 1 (List.map encI l) = true ∧
 (1 = 1 ∧ 1 + List.length (List.map encI l) ≤ 1000000) ∧
 (AV.os 0 0 (1 + List.length (List.map encI l)),
 [Row.arr 1 ([goI a] :: List.append._f [] PUnit.unit (List.map encI l))], []) =
 r)
 ((AV.os 0 0 1, [Row.arr 1 [[goI a]]], []) = r)))
 (Wf Tryd.prog H 101 [goI op, AV.v (Value.int IntKind.u8 66)] [] = some (goB (U.has op 66), [], []) ∧
 TB (U.has op 66)
 (true = true ∧
 1 ≤ 1000000 ∧
 Wf Tryd.prog H 101 [goI op, AV.v (Value.int IntKind.u8 76)] [] = some (goB (U.has op 76), [], []) ∧
 TB (U.has op 76)
 (rowsOk 1 (List.map encI l) = true ∧
 (1 = 1 ∧ 1 + List.length (List.map encI l) ≤ 1000000) ∧
 (AV.os 0 0 (1 + List.length (List.map encI l)),
 [Row.arr 1 ([goI b] :: List.append._f [] PUnit.unit (List.map encI l))], []) =
 r)
 ((AV.os 0 0 1, [Row.arr 1 [[goI b]]], []) = r))
 (Wf Tryd.prog H 101 [goI op, AV.v (Value.int IntKind.u8 76)] [] = some (goB (U.has op 76), [], []) ∧
 TB (U.has op 76)
 (rowsOk 1 (List.map encI l) = true ∧
 List.length (List.map encI l) ≤ 1000000 ∧
 (AV.os 0 0 (List.length (List.map encI l)), [Row.arr 1 (List.map encI l)], []) = r)
 ((AV.nil, [], []) = r)))) := by kernel_rfl
theorem t43 (a : List XF) (n : Int) (r : AV × List Row × List Nat) : (runT Tryd.prog H (fun f args sto => CT.of (F0 f args sto))
 (fun id st => LT.is (Ex.exit 0) (mkS 90 [(3, goI n)] [Row.box [AV.sl (List.map encF a)], Row.dead])) false 36
 [AV.agg [AV.sl (List.map encF a)]] [] fun q => q = r) = (LoopTo Tryd.prog H (H 36) 0 (loopOf Tryd.prog 36 3)
 (mkS 90 [(1, AV.pt 0 0 0), (3, goI (↑(List.length (List.map encF a)) : Int)), (4, goI 0)]
 [Row.box [AV.sl (List.map encF a)], Row.dead])
 (Ex.exit 0, mkS 90 [(3, goI n)] [Row.box [AV.sl (List.map encF a)], Row.dead]) ∧
 (goB (decide (n > 3000)), [], []) = r) := by kernel_rfl
theorem t43_3 (a : List XF) (n : Int) (i : Nat) (n' : Int) (r : Ex × St) : (turnT Tryd.prog H (fun f args sto => CT.of (F0 f args sto)) (L438 a n' i) false (H 36) 0 (loopOf Tryd.prog 36 3)
 (mkS 90 [(1, AV.pt 0 0 0), (3, goI n), (4, goI (↑i : Int))] [Row.box [AV.sl (List.map encF a)], Row.dead]) r) = (TB (decide ((↑i : Int) < (↑(List.length (List.map encF a)) : Int)))
 (TB (decide (n ≤ 3000))
 ((0 ≤ (↑i : Int) ∧
 (List.map encF a)[i]? =
 some
 [AV.sl (rdL (rowAt (List.map encF a) i) 0), AV.sl (rdL (rowAt (List.map encF a) i) 1),
 goI (rdI (rowAt (List.map encF a) i) 2), goI (rdI (rowAt (List.map encF a) i) 3),
 AV.sl (rdL (rowAt (List.map encF a) i) 4)]) ∧
 LoopTo Tryd.prog H (H 36) 0 (loopOf Tryd.prog 36 8)
 (mkS 90
 [(1, AV.pt 0 0 0),
 (3,
 goI
 (IntKind.wrap IntKind.i64
 (IntKind.wrap IntKind.i64
 (IntKind.wrap IntKind.i64 (n + (↑(List.length (rdL (rowAt (List.map encF a) i) 0)) : Int)) +
 (↑(List.length (rdL (rowAt (List.map encF a) i) 1)) : Int)) +
 (↑(List.length (rdL (rowAt (List.map encF a) i) 4)) : Int)))),
 (4, goI (↑i : Int)), (5, AV.pt 1 0 0), (6, goI 0)]
 [Row.box [AV.sl (List.map encF a)],
 Row.box
 [AV.sl (rdL (rowAt (List.map encF a) i) 0), AV.sl (rdL (rowAt (List.map encF a) i) 1),
 goI (rdI (rowAt (List.map encF a) i) 2), goI (rdI (rowAt (List.map encF a) i) 3),
 AV.sl (rdL (rowAt (List.map encF a) i) 4)]])
 (Ex.exit 2,
 mkS 90 [(1, AV.pt 0 0 0), (3, goI n'), (4, goI (↑i : Int))]
 [Row.box [AV.sl (List.map encF a)],
 Row.box
 [AV.sl (rdL (rowAt (List.map encF a) i) 0), AV.sl (rdL (rowAt (List.map encF a) i) 1),
 goI (rdI (rowAt (List.map encF a) i) 2), goI (rdI (rowAt (List.map encF a) i) 3),
 AV.sl (rdL (rowAt (List.map encF a) i) 4)]]) ∧
 LoopTo Tryd.prog H (H 36) 0 (loopOf Tryd.prog 36 3)
 (mkS 90 [(1, AV.pt 0 0 0), (3, goI n'), (4, goI (IntKind.wrap IntKind.i64 ((↑i : Int) + 1)))]
 [Row.box [AV.sl (List.map encF a)], Row.dead])
 r)
 ((Ex.exit 0, mkS 90 [(3, goI n)] [Row.box [AV.sl (List.map encF a)], Row.dead]) = r))
 ((Ex.exit 0, mkS 90 [(3, goI n)] [Row.box [AV.sl (List.map encF a)], Row.dead]) = r)) := by kernel_rfl
theorem t43_8 (X : Row) (ks : List (List AV)) (bs : List (List AV)) (p : Int) (q : Int) (bl : List XB) (n : Int) (i : Nat) (k : Nat) (n' : Int) (r : Ex × St) : (turnT Tryd.prog H (fun f args sto => CT.of (F0 f args sto)) (L4312 i k n') false (H 36) 0 (loopOf Tryd.prog 36 8)
 (mkS 90 [(1, AV.pt 0 0 0), (3, goI n), (4, goI (↑i : Int)), (5, AV.pt 1 0 0), (6, goI (↑k : Int))]
 [X, Row.box [AV.sl ks, AV.sl bs, goI p, goI q, AV.sl (List.map encB bl)]])
 r) = (TB (decide ((↑k : Int) < (↑(List.length (List.map encB bl)) : Int)))
 (TB (decide (n ≤ 3000))
 ((0 ≤ (↑k : Int) ∧ (List.map encB bl)[k]? = some [AV.sl (rdL (rowAt (List.map encB bl) k) 0)]) ∧
 LoopTo Tryd.prog H (H 36) 0 (loopOf Tryd.prog 36 12)
 (mkS 90
 [(1, AV.pt 0 0 0),
 (3, goI (IntKind.wrap IntKind.i64 (n + (↑(List.length (rdL (rowAt (List.map encB bl) k) 0)) : Int)))),
 (4, goI (↑i : Int)), (5, AV.pt 1 0 0), (6, goI (↑k : Int)), (7, goI 0)]
 [X, Row.box [AV.sl ks, AV.sl bs, goI p, goI q, AV.sl (List.map encB bl)]])
 (Ex.exit 4,
 mkS 90 [(1, AV.pt 0 0 0), (3, goI n'), (4, goI (↑i : Int)), (5, AV.pt 1 0 0), (6, goI (↑k : Int))]
 [X, Row.box [AV.sl ks, AV.sl bs, goI p, goI q, AV.sl (List.map encB bl)]]) ∧
 LoopTo Tryd.prog H (H 36) 0 (loopOf Tryd.prog 36 8)
 (mkS 90
 [(1, AV.pt 0 0 0), (3, goI n'), (4, goI (↑i : Int)), (5, AV.pt 1 0 0),
 (6, goI (IntKind.wrap IntKind.i64 ((↑k : Int) + 1)))]
 [X, Row.box [AV.sl ks, AV.sl bs, goI p, goI q, AV.sl (List.map encB bl)]])
 r)
 ((Ex.exit 2,
 mkS 90 [(1, AV.pt 0 0 0), (3, goI n), (4, goI (↑i : Int))]
 [X, Row.box [AV.sl ks, AV.sl bs, goI p, goI q, AV.sl (List.map encB bl)]]) =
 r))
 ((Ex.exit 2,
 mkS 90 [(1, AV.pt 0 0 0), (3, goI n), (4, goI (↑i : Int))]
 [X, Row.box [AV.sl ks, AV.sl bs, goI p, goI q, AV.sl (List.map encB bl)]]) =
 r)) := by kernel_rfl
theorem t43_12 (X : Row) (ks : List (List AV)) (bs : List (List AV)) (p : Int) (q : Int) (bl : List XB) (n : Int) (i : Nat) (k : Nat) (j : Nat) (r : Ex × St) : (turnT Tryd.prog H (fun f args sto => CT.of (F0 f args sto)) L0 false (H 36) 0 (loopOf Tryd.prog 36 12)
 (mkS 90
 [(1, AV.pt 0 0 0), (3, goI n), (4, goI (↑i : Int)), (5, AV.pt 1 0 0), (6, goI (↑k : Int)), (7, goI (↑j : Int))]
 [X, Row.box [AV.sl ks, AV.sl bs, goI p, goI q, AV.sl (List.map encB bl)]])
 r) = ((0 ≤ (↑k : Int) ∧ (List.map encB bl)[k]? = some [AV.sl (rdL (rowAt (List.map encB bl) k) 0)]) ∧
 TB (decide ((↑j : Int) < (↑(List.length (rdL (rowAt (List.map encB bl) k) 0)) : Int)))
 (TB (decide (n ≤ 3000))
 ((0 ≤ (↑k : Int) ∧ (List.map encB bl)[k]? = some [AV.sl (rdL (rowAt (List.map encB bl) k) 0)]) ∧
 (0 ≤ (↑j : Int) ∧
 (rdL (rowAt (List.map encB bl) k) 0)[j]? =
 some
 [goI (rdI (rowAt (rdL (rowAt (List.map encB bl) k) 0) j) 0),
 goI (rdI (rowAt (rdL (rowAt (List.map encB bl) k) 0) j) 1),
 goI (rdI (rowAt (rdL (rowAt (List.map encB bl) k) 0) j) 2),
 goI (rdI (rowAt (rdL (rowAt (List.map encB bl) k) 0) j) 3),
 goI (rdI (rowAt (rdL (rowAt (List.map encB bl) k) 0) j) 4),
 goI (rdI (rowAt (rdL (rowAt (List.map encB bl) k) 0) j) 5),
 AV.sl (rdL (rowAt (rdL (rowAt (List.map encB bl) k) 0) j) 6)]) ∧
 LoopTo Tryd.prog H (H 36) 0 (loopOf Tryd.prog 36 12)
 (mkS 90
 [(1, AV.pt 0 0 0),
 (3,
 goI
 (IntKind.wrap IntKind.i64
 (n + (↑(List.length (rdL (rowAt (rdL (rowAt (List.map encB bl) k) 0) j) 6)) : Int)))),
 (4, goI (↑i : Int)), (5, AV.pt 1 0 0), (6, goI (↑k : Int)),
 (7, goI (IntKind.wrap IntKind.i64 ((↑j : Int) + 1)))]
 [X, Row.box [AV.sl ks, AV.sl bs, goI p, goI q, AV.sl (List.map encB bl)]])
 r)
 ((Ex.exit 4,
 mkS 90 [(1, AV.pt 0 0 0), (3, goI n), (4, goI (↑i : Int)), (5, AV.pt 1 0 0), (6, goI (↑k : Int))]
 [X, Row.box [AV.sl ks, AV.sl bs, goI p, goI q, AV.sl (List.map encB bl)]]) =
 r))
 ((Ex.exit 4,
 mkS 90 [(1, AV.pt 0 0 0), (3, goI n), (4, goI (↑i : Int)), (5, AV.pt 1 0 0), (6, goI (↑k : Int))]
 [X, Row.box [AV.sl ks, AV.sl bs, goI p, goI q, AV.sl (List.map encB bl)]]) =
 r)) := by kernel_rfl
theorem wf82 (op d a b n m : Int) (l : List Int) : Wf Tryd.prog H 82 [.agg [goI op, goI d, goI a, goI b, goI n, goI m, .sl (l.map encI)]] [] = some (if U.has op 68 then .tup [goI d, goB true] else .tup [goI 0, goB false], [], []) := by
  refine runK (t82 op d a b n m l _) ⟨wf81 op 68, ?_⟩
  cases U.has op 68 with
  | true => exact rfl
  | false => exact rfl
theorem wf46 (x : XI) : Wf Tryd.prog H 77 [.agg (encIn x)] [] = some (.sl ((U.next x).map encI), [], []) := by
  refine runK (t46 x.op x.d x.a x.b x.n x.m x.args _) ?_
  unfold U.next
  by_cases h1 : x.op = 21
  · rw [if_pos h1, beq_iff_eq.2 h1]; exact rfl
  rw [if_neg h1, beq_eq_false_iff_ne.2 h1]
  by_cases h2 : x.op = 22
  · rw [if_pos h2, beq_iff_eq.2 h2]
    by_cases h3 : x.n = x.m
    · rw [if_pos h3, beq_iff_eq.2 h3]; exact rfl
    · rw [if_neg h3, beq_eq_false_iff_ne.2 h3]
      show (_ : AV × List Row × List Nat) = _
      by_cases h4 : x.m < x.n
      · have h5 : ¬ x.n < x.m := by omega
        rw [if_pos h4, if_pos h4, if_neg h5]; exact rfl
      · have h5 : x.n < x.m := by omega
        rw [if_neg h4, if_neg h4, if_pos h5]; exact rfl
  · rw [if_neg h2, beq_eq_false_iff_ne.2 h2]; exact rfl
theorem rowsOkI (l : List Int) : rowsOk 1 (l.map encI) = true := rowsOk_of (enc := encI) (s := 1) (fun a => rfl) l
/-- What Uses comes to: nil, where nothing is asked for; else new memory. -/
def usesT (l : List Int) (b : Bool) : AV × List Row × List Nat := if b then (.os 0 0 l.length, [.arr 1 (l.map encI)], []) else (.nil, [], [])
def U.some (x : XI) : Bool := U.has x.op 65 || U.has x.op 66 || U.has x.op 76
theorem wf57 (x : XI) (hl : x.args.length ≤ 3000) : Wf Tryd.prog H 81 [.agg (encIn x)] [] = some (usesT (U.uses x) (U.some x)) := by
  refine runK (t57 x.op x.d x.a x.b x.n x.m x.args _) ⟨wf81 x.op 65, ?_⟩
  have k1 := wf81 x.op 66
  have k2 := wf81 x.op 76
  have hr := rowsOkI x.args
  have h0 : (x.args.map encI).length = x.args.length := List.length_map _
  unfold usesT U.uses U.uses1 U.some
  cases ha : U.has x.op 65 with
  | true =>
    refine ⟨rfl, by decide, k1, ?_⟩
    cases hb : U.has x.op 66 with
    | true =>
      refine ⟨rfl, ⟨rfl, by decide⟩, k2, ?_⟩
      cases hc : U.has x.op 76 with
      | true =>
        refine ⟨hr, ⟨rfl, by rw [h0]; omega⟩, ?_⟩
        simp
        exact ⟨by omega, rfl, rfl⟩
      | false => exact rfl
    | false =>
      refine ⟨k2, ?_⟩
      cases hc : U.has x.op 76 with
      | true =>
        refine ⟨hr, ⟨rfl, by rw [h0]; omega⟩, ?_⟩
        simp
        exact ⟨by omega, rfl⟩
      | false => exact rfl
  | false =>
    refine ⟨k1, ?_⟩
    cases hb : U.has x.op 66 with
    | true =>
      refine ⟨rfl, by decide, k2, ?_⟩
      cases hc : U.has x.op 76 with
      | true =>
        refine ⟨hr, ⟨rfl, by rw [h0]; omega⟩, ?_⟩
        simp
        exact ⟨by omega, rfl⟩
      | false => exact rfl
    | false =>
      refine ⟨k2, ?_⟩
      cases hc : U.has x.op 76 with
      | true =>
        refine ⟨hr, by rw [h0]; omega, ?_⟩
        simp
      | false => exact rfl
theorem loop43_12 (X : Row) (ks bs : List (List AV)) (p q : Int) (bl : List XB) (i k : Nat) (hk : k < bl.length) (hb : HandB (U.blk bl k)) : ∀ (d j : Nat) (n : Int), j + d = (U.blk bl k).code.length → 0 ≤ n → n ≤ 3000 + 140737488355328 →
    LoopTo Tryd.prog H (H 36) 0 (loopOf Tryd.prog 36 12) (mkS 90 [(1, .pt 0 0 0), (3, goI n), (4, goI i), (5, .pt 1 0 0), (6, goI k), (7, goI j)] [X, .box [.sl ks, .sl bs, goI p, goI q, .sl (bl.map encB)]])
      (.exit 4, mkS 90 [(1, .pt 0 0 0), (3, goI (U.gI ((U.blk bl k).code.drop j) n)), (4, goI i), (5, .pt 1 0 0), (6, goI k)] [X, .box [.sl ks, .sl bs, goI p, goI q, .sl (bl.map encB)]])
  | 0, j, n, hd, h0, hn => by
    refine turnK (t43_12 X ks bs p q bl n i k j _) ?_
    rw [rowB hk, getB hk]
    simp only [encB, rdL, slOf, List.getD_cons_zero, List.length_map]
    refine ⟨⟨by omega, by trivial⟩, ?_⟩
    rw [decide_eq_false (by omega), List.drop_eq_nil_of_le (by omega)]
    exact rfl
  | d + 1, j, n, hd, h0, hn => by
    have hj : j < (U.blk bl k).code.length := by omega
    have hx : (U.ins (U.blk bl k).code j).args.length ≤ 140737488355328 := hb.2 _ (ins_mem hj)
    have hl : (U.blk bl k).code.length ≤ 140737488355328 := hb.1
    refine turnK (t43_12 X ks bs p q bl n i k j _) ?_
    have w0 : IntKind.i64.wrap ((j : Int) + 1) = ((j + 1 : Nat) : Int) := by rw [wrap64] <;> omega
    rw [rowB hk, getB hk, w0]
    simp only [encB, rdL, slOf, List.getD_cons_zero, List.length_map]
    refine ⟨⟨by omega, by trivial⟩, ?_⟩
    rw [decide_eq_true (by omega), dropIn hj]
    by_cases h3 : n ≤ 3000
    · rw [decide_eq_true h3, show U.gI (U.ins (U.blk bl k).code j :: (U.blk bl k).code.drop (j + 1)) n = U.gI ((U.blk bl k).code.drop (j + 1)) (n + (U.ins (U.blk bl k).code j).args.length) from if_pos h3]
      have ih := loop43_12 X ks bs p q bl i k hk hb d (j + 1) (n + (U.ins (U.blk bl k).code j).args.length) (by omega) (by omega) (by omega)
      rw [rowIn hj, getIn hj]
      simp only [encIn, rdI, rdL, slOf, List.getD_cons_zero, List.getD_cons_succ, int_goI, List.length_map]
      have w1 : IntKind.i64.wrap (n + ((U.ins (U.blk bl k).code j).args.length : Int)) = n + ((U.ins (U.blk bl k).code j).args.length : Int) := by rw [wrap64] <;> omega
      rw [w1]
      exact ⟨⟨by omega, by trivial⟩, ⟨by omega, by trivial⟩, ih⟩
    · rw [decide_eq_false h3, show U.gI (U.ins (U.blk bl k).code j :: (U.blk bl k).code.drop (j + 1)) n = n from if_neg h3]
      exact rfl
theorem loop43_8 (X : Row) (ks bs : List (List AV)) (p q : Int) (bl : List XB) (i : Nat) (hb : ∀ b ∈ bl, HandB b) (hl : Long bl.length) : ∀ (d k : Nat) (n : Int), k + d = bl.length → 0 ≤ n →
    LoopTo Tryd.prog H (H 36) 0 (loopOf Tryd.prog 36 8) (mkS 90 [(1, .pt 0 0 0), (3, goI n), (4, goI i), (5, .pt 1 0 0), (6, goI k)] [X, .box [.sl ks, .sl bs, goI p, goI q, .sl (bl.map encB)]])
      (.exit 2, mkS 90 [(1, .pt 0 0 0), (3, goI (U.gB (bl.drop k) n)), (4, goI i)] [X, .box [.sl ks, .sl bs, goI p, goI q, .sl (bl.map encB)]])
  | 0, k, n, hd, h0 => by
    refine turnK (t43_8 X ks bs p q bl n i k 0 _) ?_
    rw [List.length_map, decide_eq_false (by omega), List.drop_eq_nil_of_le (by omega)]
    exact rfl
  | d + 1, k, n, hd, h0 => by
    have hk : k < bl.length := by omega
    have hx := hb _ (blk_mem hk)
    have hx1 : (U.blk bl k).code.length ≤ 140737488355328 := hx.1
    have hl1 : bl.length ≤ 140737488355328 := hl
    refine turnK (t43_8 X ks bs p q bl n i k (U.gI (U.blk bl k).code (n + (U.blk bl k).code.length)) _) ?_
    have w0 : IntKind.i64.wrap ((k : Int) + 1) = ((k + 1 : Nat) : Int) := by rw [wrap64] <;> omega
    rw [List.length_map, decide_eq_true (by omega), w0, dropB hk, rowB hk, getB hk]
    by_cases h3 : n ≤ 3000
    · rw [decide_eq_true h3, show U.gB (U.blk bl k :: bl.drop (k + 1)) n = U.gB (bl.drop (k + 1)) (U.gI (U.blk bl k).code (n + (U.blk bl k).code.length)) from if_pos h3]
      have h1 := loop43_12 X ks bs p q bl i k hk hx (U.blk bl k).code.length 0 (n + (U.blk bl k).code.length) (by omega) (by omega) (by omega)
      rw [List.drop_zero] at h1
      have ih := loop43_8 X ks bs p q bl i hb hl d (k + 1) (U.gI (U.blk bl k).code (n + (U.blk bl k).code.length)) (by omega) (by have := gI_ge (U.blk bl k).code (n + (U.blk bl k).code.length); omega)
      simp only [encB, rdL, slOf, List.getD_cons_zero, List.length_map]
      have w1 : IntKind.i64.wrap (n + ((U.blk bl k).code.length : Int)) = n + ((U.blk bl k).code.length : Int) := by rw [wrap64] <;> omega
      rw [w1]
      exact ⟨⟨by omega, by trivial⟩, h1, ih⟩
    · rw [decide_eq_false h3, show U.gB (U.blk bl k :: bl.drop (k + 1)) n = n from if_neg h3]
      exact rfl
theorem loop43_3 (a : List XF) (hb : ∀ f ∈ a, HandF f) (hl : Long a.length) : ∀ (d i : Nat) (n : Int), i + d = a.length → 0 ≤ n →
    LoopTo Tryd.prog H (H 36) 0 (loopOf Tryd.prog 36 3) (mkS 90 [(1, .pt 0 0 0), (3, goI n), (4, goI i)] [.box [.sl (a.map encF)], .dead])
      (.exit 0, mkS 90 [(3, goI (U.gF (a.drop i) n))] [.box [.sl (a.map encF)], .dead])
  | 0, i, n, hd, h0 => by
    refine turnK (t43_3 a n i 0 _) ?_
    rw [List.length_map, decide_eq_false (by omega), List.drop_eq_nil_of_le (by omega)]
    exact rfl
  | d + 1, i, n, hd, h0 => by
    have hi : i < a.length := by omega
    obtain ⟨g1, g2, g3, g4⟩ := hb _ (fun_mem hi)
    have g1' : (U.fun_ a i).kinds.length ≤ 140737488355328 := g1
    have g2' : (U.fun_ a i).base.length ≤ 140737488355328 := g2
    have g3' : (U.fun_ a i).blocks.length ≤ 140737488355328 := g3
    have hl1 : a.length ≤ 140737488355328 := hl
    refine turnK (t43_3 a n i (U.gB (U.fun_ a i).blocks (n + (U.fun_ a i).kinds.length + (U.fun_ a i).base.length + (U.fun_ a i).blocks.length)) _) ?_
    have w0 : IntKind.i64.wrap ((i : Int) + 1) = ((i + 1 : Nat) : Int) := by rw [wrap64] <;> omega
    rw [List.length_map, decide_eq_true (by omega), w0, dropF hi, rowF hi, getF hi]
    by_cases h3 : n ≤ 3000
    · rw [decide_eq_true h3, show U.gF (U.fun_ a i :: a.drop (i + 1)) n = U.gF (a.drop (i + 1)) (U.gB (U.fun_ a i).blocks (n + (U.fun_ a i).kinds.length + (U.fun_ a i).base.length + (U.fun_ a i).blocks.length)) from if_pos h3]
      have h1 := loop43_8 (.box [.sl (a.map encF)]) ((U.fun_ a i).kinds.map encI) ((U.fun_ a i).base.map encI) (U.fun_ a i).params (U.fun_ a i).result (U.fun_ a i).blocks i g4 g3 (U.fun_ a i).blocks.length 0 (n + (U.fun_ a i).kinds.length + (U.fun_ a i).base.length + (U.fun_ a i).blocks.length) (by omega) (by omega)
      rw [List.drop_zero] at h1
      have ih := loop43_3 a hb hl d (i + 1) (U.gB (U.fun_ a i).blocks (n + (U.fun_ a i).kinds.length + (U.fun_ a i).base.length + (U.fun_ a i).blocks.length)) (by omega) (by have := gB_ge (U.fun_ a i).blocks (n + (U.fun_ a i).kinds.length + (U.fun_ a i).base.length + (U.fun_ a i).blocks.length); omega)
      simp only [encF, rdI, rdL, slOf, List.getD_cons_zero, List.getD_cons_succ, int_goI, List.length_map]
      have w1 : IntKind.i64.wrap (n + ((U.fun_ a i).kinds.length : Int)) = n + ((U.fun_ a i).kinds.length : Int) := by rw [wrap64] <;> omega
      have w2 : IntKind.i64.wrap (n + ((U.fun_ a i).kinds.length : Int) + ((U.fun_ a i).base.length : Int)) = n + ((U.fun_ a i).kinds.length : Int) + ((U.fun_ a i).base.length : Int) := by rw [wrap64] <;> omega
      have w3 : IntKind.i64.wrap (n + ((U.fun_ a i).kinds.length : Int) + ((U.fun_ a i).base.length : Int) + ((U.fun_ a i).blocks.length : Int)) = n + ((U.fun_ a i).kinds.length : Int) + ((U.fun_ a i).base.length : Int) + ((U.fun_ a i).blocks.length : Int) := by rw [wrap64] <;> omega
      rw [w1, w2, w3]
      exact ⟨⟨by omega, by trivial⟩, h1, ih⟩
    · rw [decide_eq_false h3, show U.gF (U.fun_ a i :: a.drop (i + 1)) n = n from if_neg h3]
      exact rfl
theorem wf43 (p : XP) (hp : HandP p) : Wf Tryd.prog H 36 [.agg (encP p)] [] = some (goB (U.great p), [], []) := by
  have h := loop43_3 p.funcs hp.2 hp.1 p.funcs.length 0 p.funcs.length (by omega) (by omega)
  rw [List.drop_zero] at h
  refine runK (t43 p.funcs (U.gF p.funcs p.funcs.length) _) ⟨?_, rfl⟩
  rw [List.length_map]
  exact h
end Go.Proofs.YtabdcfcnngnnoaaDoor.E
