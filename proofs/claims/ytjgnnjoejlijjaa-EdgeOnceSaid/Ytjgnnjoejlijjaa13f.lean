/- Functions, by what the evaluator asks; the theorems t.. were printed by show.txt, a program of this session. -/
import Derived.Test.Ytjgnnjoejlijjaa13e
set_option linter.unusedVariables false
set_option linter.unusedSimpArgs false
set_option maxRecDepth 100000
namespace Go.Proofs.Ytjgnnjoejlijjaa.E
open Go
namespace U
/-- A program, split. -/
def splitF (f : XF) : XF := ⟨f.kinds, f.base, f.params, f.result, splits f.blocks (crit f.blocks)⟩
def big (f : XF) : Bool := decide (f.blocks.length + (crit f.blocks).length > 40)
def wholeErr (P : List XF) : Bool := P.any big
def whole (P : List XF) : List XF := P.map splitF
def splitR (bl : List (List AV)) : List (List AV) := (splits (bl.map decB) (crit (bl.map decB))).map encB
def bigR (bl : List (List AV)) : Bool := decide (bl.length + (crit (bl.map decB)).length > 40)
def errR (P : List (List AV)) : Bool := wholeErr (P.map decF)
def wholeR (P : List (List AV)) : List (List AV) := (whole (P.map decF)).map encF
end U
def FT : CallT := fun f args sto => match f, args with
 | 14, _ => .is (goB true, [], [])
 | 54, _ => .is (goB true, [], [])
 | 30, _ => .is (goB true, [], [])
 | _, _ => .no
set_option maxHeartbeats 4000000
def L30 (i : Nat) : Nat → St → LT := fun id st => match id with
 | 4 => .is (.exit 0) (mkS 86 [] [.dead, .dead])
 | _ => .is (.exit 2) (mkS 86 [(2, .pt 0 0 0), (3, .pt 1 0 0), (5, goI i)] st.sto)
def F31 : CallT := fun f args sto => match f, args with
 | 27, [.agg [a0, a1, a2, a3, .sl bl]] => .by (U.bigR bl) (.is (.tup [.agg [.sl [], .sl [], goI 0, goI 0, .sl []], goI 9], [], [])) (.is (.tup [.agg [a0, a1, a2, a3, .os 0 0 (U.splitR bl).length], goI 0], [.arr 1 (U.splitR bl)], []))
 | _, _ => .no
def L31 (e : Bool) (q : List XF) : Nat → St → LT := fun id st => .by e (.is .ret (mkS 33 [(2, .pt 1 0 0), (3, goI 9)] [.dead, .box [.nil], .dead, .dead, .dead, .dead])) (.is (.exit 0) (mkS 33 [(2, .pt 1 0 0), (4, .pt 2 0 0)] [st.sto.getD 0 .dead, .box [.nil], .box [.os 5 0 q.length], .dead, .dead, .arr 5 (q.map encF)]))
def F8 (o : Bool) (k : List XE) (ys : List (List AV)) : CallT := fun f args sto => match f, args with
 | 24, _ => .is (goB true, [], [])
 | 25, _ => .is (goB o, [], [])
 | 31, [.agg [.sl P]] => .by (U.errR P) (.is (.tup [.agg [.sl []], goI 9], [], [])) (.is (.tup [.agg [.os 0 0 (U.wholeR P).length], goI 0], [.arr 5 (U.wholeR P)], []))
 | 33, _ => .is (goB true, [], [])
 | 30, _ => .is (goB true, [], [])
 | 26, _ => .is (.os 0 0 k.length, [.arr 2 (k.map encE ++ ys)], [])
 | _, _ => .no

theorem t54 (op : Int) (d : Int) (a : Int) (b : Int) (n : Int) (m : Int) (l : List Int) (r : AV × List Row × List Nat) : (runT Try.prog H FT L0 false 54
  [AV.agg [goI op, goI d, goI a, goI b, goI n, goI m, AV.sl (List.map encI l)],
    AV.agg [goI op, goI d, goI a, goI b, goI n, goI m, AV.sl (List.map encI l)]]
  [] fun q => q = r) = (TB (op == op)
  (TB (d == d)
    (TB (a == a)
      (TB (b == b)
        (TB (n == n)
          (TB (m == m)
            (Wf Try.prog H 14 [AV.sl (List.map encI l), AV.sl (List.map encI l)] [] = some (goB true, [], []) ∧
              (goB true, [], []) = r)
            ((goB false, [], []) = r))
          ((goB false, [], []) = r))
        ((goB false, [], []) = r))
      ((goB false, [], []) = r))
    ((goB false, [], []) = r))
  ((goB false, [], []) = r)) := by kernel_rfl
theorem t30 (ks : List (List AV)) (bs : List (List AV)) (p : Int) (q : Int) (bl : List XB) (r : AV × List Row × List Nat) : (runT Try.prog H FT (L30 0) false 30
  [AV.agg [AV.sl ks, AV.sl bs, goI p, goI q, AV.sl (List.map encB bl)],
    AV.agg [AV.sl ks, AV.sl bs, goI p, goI q, AV.sl (List.map encB bl)]]
  [] fun q => q = r) = (Wf Try.prog H 14 [AV.sl ks, AV.sl ks] [] = some (goB true, [], []) ∧
  Wf Try.prog H 14 [AV.sl bs, AV.sl bs] [] = some (goB true, [], []) ∧
    TB (!p == p) ((goB false, [], []) = r)
      (TB (!q == q) ((goB false, [], []) = r)
        (TB (!(↑(List.length (List.map encB bl)) : Int) == (↑(List.length (List.map encB bl)) : Int))
          ((goB false, [], []) = r)
          (LoopTo Try.prog H (H 30) 0 (loopOf Try.prog 30 4)
              (mkS 86 [(2, AV.pt 0 0 0), (3, AV.pt 1 0 0), (5, goI 0)]
                [Row.box [AV.sl ks, AV.sl bs, goI p, goI q, AV.sl (List.map encB bl)],
                  Row.box [AV.sl ks, AV.sl bs, goI p, goI q, AV.sl (List.map encB bl)]])
              (Ex.exit 0, mkS 86 [] [Row.dead, Row.dead]) ∧
            (goB true, [], []) = r)))) := by kernel_rfl
theorem t30_4 (ks : List (List AV)) (bs : List (List AV)) (p : Int) (q : Int) (bl : List XB) (i : Nat) (r : Ex × St) : (turnT Try.prog H FT (L30 i) false (H 30) 0 (loopOf Try.prog 30 4)
  (mkS 86 [(2, AV.pt 0 0 0), (3, AV.pt 1 0 0), (5, goI (↑i : Int))]
    [Row.box [AV.sl ks, AV.sl bs, goI p, goI q, AV.sl (List.map encB bl)],
      Row.box [AV.sl ks, AV.sl bs, goI p, goI q, AV.sl (List.map encB bl)]])
  r) = (TB (decide ((↑i : Int) < (↑(List.length (List.map encB bl)) : Int)))
  ((0 ≤ (↑i : Int) ∧ (List.map encB bl)[i]? = some [AV.sl (rdL (rowAt (List.map encB bl) i) 0)]) ∧
    (0 ≤ (↑i : Int) ∧ (List.map encB bl)[i]? = some [AV.sl (rdL (rowAt (List.map encB bl) i) 0)]) ∧
      TB
        (!(↑(List.length (rdL (rowAt (List.map encB bl) i) 0)) : Int) ==
            (↑(List.length (rdL (rowAt (List.map encB bl) i) 0)) : Int))
        ((Ex.ret, mkS 86 [(4, goB false)] [Row.dead, Row.dead]) = r)
        (LoopTo Try.prog H (H 30) 0 (loopOf Try.prog 30 10)
            (mkS 86
              [(2, AV.pt 0 0 0), (3, AV.pt 1 0 0), (5, goI (↑i : Int)), (6, AV.sl (rdL (rowAt (List.map encB bl) i) 0)),
                (7, AV.sl (rdL (rowAt (List.map encB bl) i) 0)), (8, goI 0)]
              [Row.box [AV.sl ks, AV.sl bs, goI p, goI q, AV.sl (List.map encB bl)],
                Row.box [AV.sl ks, AV.sl bs, goI p, goI q, AV.sl (List.map encB bl)]])
            (Ex.exit 2,
              mkS 86 [(2, AV.pt 0 0 0), (3, AV.pt 1 0 0), (5, goI (↑i : Int))]
                [Row.box [AV.sl ks, AV.sl bs, goI p, goI q, AV.sl (List.map encB bl)],
                  Row.box [AV.sl ks, AV.sl bs, goI p, goI q, AV.sl (List.map encB bl)]]) ∧
          LoopTo Try.prog H (H 30) 0 (loopOf Try.prog 30 4)
            (mkS 86 [(2, AV.pt 0 0 0), (3, AV.pt 1 0 0), (5, goI (IntKind.wrap IntKind.i64 ((↑i : Int) + 1)))]
              [Row.box [AV.sl ks, AV.sl bs, goI p, goI q, AV.sl (List.map encB bl)],
                Row.box [AV.sl ks, AV.sl bs, goI p, goI q, AV.sl (List.map encB bl)]])
            r))
  ((Ex.exit 0, mkS 86 [] [Row.dead, Row.dead]) = r)) := by kernel_rfl
theorem t30_10 (ks : List (List AV)) (bs : List (List AV)) (p : Int) (q : Int) (bl : List XB) (l : List XI) (i : Nat) (j : Nat) (r : Ex × St) : (turnT Try.prog H FT L0 false (H 30) 0 (loopOf Try.prog 30 10)
  (mkS 86
    [(2, AV.pt 0 0 0), (3, AV.pt 1 0 0), (5, goI (↑i : Int)), (6, AV.sl (List.map encIn l)),
      (7, AV.sl (List.map encIn l)), (8, goI (↑j : Int))]
    [Row.box [AV.sl ks, AV.sl bs, goI p, goI q, AV.sl (List.map encB bl)],
      Row.box [AV.sl ks, AV.sl bs, goI p, goI q, AV.sl (List.map encB bl)]])
  r) = (TB (decide ((↑j : Int) < (↑(List.length (List.map encIn l)) : Int)))
  ((0 ≤ (↑j : Int) ∧
      (List.map encIn l)[j]? =
        some
          [goI (rdI (rowAt (List.map encIn l) j) 0), goI (rdI (rowAt (List.map encIn l) j) 1),
            goI (rdI (rowAt (List.map encIn l) j) 2), goI (rdI (rowAt (List.map encIn l) j) 3),
            goI (rdI (rowAt (List.map encIn l) j) 4), goI (rdI (rowAt (List.map encIn l) j) 5),
            AV.sl (rdL (rowAt (List.map encIn l) j) 6)]) ∧
    (0 ≤ (↑j : Int) ∧
        (List.map encIn l)[j]? =
          some
            [goI (rdI (rowAt (List.map encIn l) j) 0), goI (rdI (rowAt (List.map encIn l) j) 1),
              goI (rdI (rowAt (List.map encIn l) j) 2), goI (rdI (rowAt (List.map encIn l) j) 3),
              goI (rdI (rowAt (List.map encIn l) j) 4), goI (rdI (rowAt (List.map encIn l) j) 5),
              AV.sl (rdL (rowAt (List.map encIn l) j) 6)]) ∧
      Wf Try.prog H 54
            [AV.agg
                [goI (rdI (rowAt (List.map encIn l) j) 0), goI (rdI (rowAt (List.map encIn l) j) 1),
                  goI (rdI (rowAt (List.map encIn l) j) 2), goI (rdI (rowAt (List.map encIn l) j) 3),
                  goI (rdI (rowAt (List.map encIn l) j) 4), goI (rdI (rowAt (List.map encIn l) j) 5),
                  AV.sl (rdL (rowAt (List.map encIn l) j) 6)],
              AV.agg
                [goI (rdI (rowAt (List.map encIn l) j) 0), goI (rdI (rowAt (List.map encIn l) j) 1),
                  goI (rdI (rowAt (List.map encIn l) j) 2), goI (rdI (rowAt (List.map encIn l) j) 3),
                  goI (rdI (rowAt (List.map encIn l) j) 4), goI (rdI (rowAt (List.map encIn l) j) 5),
                  AV.sl (rdL (rowAt (List.map encIn l) j) 6)]]
            [] =
          some (goB true, [], []) ∧
        LoopTo Try.prog H (H 30) 0 (loopOf Try.prog 30 10)
          (mkS 86
            [(2, AV.pt 0 0 0), (3, AV.pt 1 0 0), (5, goI (↑i : Int)), (6, AV.sl (List.map encIn l)),
              (7, AV.sl (List.map encIn l)), (8, goI (IntKind.wrap IntKind.i64 ((↑j : Int) + 1)))]
            [Row.box [AV.sl ks, AV.sl bs, goI p, goI q, AV.sl (List.map encB bl)],
              Row.box [AV.sl ks, AV.sl bs, goI p, goI q, AV.sl (List.map encB bl)]])
          r)
  ((Ex.exit 2,
      mkS 86 [(2, AV.pt 0 0 0), (3, AV.pt 1 0 0), (5, goI (↑i : Int))]
        [Row.box [AV.sl ks, AV.sl bs, goI p, goI q, AV.sl (List.map encB bl)],
          Row.box [AV.sl ks, AV.sl bs, goI p, goI q, AV.sl (List.map encB bl)]]) =
    r)) := by kernel_rfl
theorem t33 (a : List XF) (r : AV × List Row × List Nat) : (runT Try.prog H FT (fun id st => LT.is (Ex.exit 0) (mkS 32 [] [Row.dead, Row.dead])) false 33
  [AV.agg [AV.sl (List.map encF a)], AV.agg [AV.sl (List.map encF a)]] [] fun q => q = r) = (TB (!(↑(List.length (List.map encF a)) : Int) == (↑(List.length (List.map encF a)) : Int)) ((goB false, [], []) = r)
  (LoopTo Try.prog H (H 33) 0 (loopOf Try.prog 33 4)
      (mkS 32 [(2, AV.pt 0 0 0), (3, AV.pt 1 0 0), (5, goI 0)]
        [Row.box [AV.sl (List.map encF a)], Row.box [AV.sl (List.map encF a)]])
      (Ex.exit 0, mkS 32 [] [Row.dead, Row.dead]) ∧
    (goB true, [], []) = r)) := by kernel_rfl
theorem t33_4 (a : List XF) (i : Nat) (r : Ex × St) : (turnT Try.prog H FT L0 false (H 33) 0 (loopOf Try.prog 33 4)
  (mkS 32 [(2, AV.pt 0 0 0), (3, AV.pt 1 0 0), (5, goI (↑i : Int))]
    [Row.box [AV.sl (List.map encF a)], Row.box [AV.sl (List.map encF a)]])
  r) = (TB (decide ((↑i : Int) < (↑(List.length (List.map encF a)) : Int)))
  ((0 ≤ (↑i : Int) ∧
      (List.map encF a)[i]? =
        some
          [AV.sl (rdL (rowAt (List.map encF a) i) 0), AV.sl (rdL (rowAt (List.map encF a) i) 1),
            goI (rdI (rowAt (List.map encF a) i) 2), goI (rdI (rowAt (List.map encF a) i) 3),
            AV.sl (rdL (rowAt (List.map encF a) i) 4)]) ∧
    (0 ≤ (↑i : Int) ∧
        (List.map encF a)[i]? =
          some
            [AV.sl (rdL (rowAt (List.map encF a) i) 0), AV.sl (rdL (rowAt (List.map encF a) i) 1),
              goI (rdI (rowAt (List.map encF a) i) 2), goI (rdI (rowAt (List.map encF a) i) 3),
              AV.sl (rdL (rowAt (List.map encF a) i) 4)]) ∧
      Wf Try.prog H 30
            [AV.agg
                [AV.sl (rdL (rowAt (List.map encF a) i) 0), AV.sl (rdL (rowAt (List.map encF a) i) 1),
                  goI (rdI (rowAt (List.map encF a) i) 2), goI (rdI (rowAt (List.map encF a) i) 3),
                  AV.sl (rdL (rowAt (List.map encF a) i) 4)],
              AV.agg
                [AV.sl (rdL (rowAt (List.map encF a) i) 0), AV.sl (rdL (rowAt (List.map encF a) i) 1),
                  goI (rdI (rowAt (List.map encF a) i) 2), goI (rdI (rowAt (List.map encF a) i) 3),
                  AV.sl (rdL (rowAt (List.map encF a) i) 4)]]
            [] =
          some (goB true, [], []) ∧
        LoopTo Try.prog H (H 33) 0 (loopOf Try.prog 33 4)
          (mkS 32 [(2, AV.pt 0 0 0), (3, AV.pt 1 0 0), (5, goI (IntKind.wrap IntKind.i64 ((↑i : Int) + 1)))]
            [Row.box [AV.sl (List.map encF a)], Row.box [AV.sl (List.map encF a)]])
          r)
  ((Ex.exit 0, mkS 32 [] [Row.dead, Row.dead]) = r)) := by kernel_rfl
theorem t31 (a : List XF) (q : List XF) (e : Bool) (r : AV × List Row × List Nat) : (runT Try.prog H F31 (L31 e q) false 31 [AV.agg [AV.sl (List.map encF a)]] [] fun q => q = r) = (TB e
  (LoopTo Try.prog H (H 31) 0 (loopOf Try.prog 31 3)
      (mkS 33
        [(2, AV.pt 1 0 0), (4, AV.pt 2 0 0), (10, AV.sl (List.map encF a)),
          (11, goI (↑(List.length (List.map encF a)) : Int)), (12, goI 0)]
        [Row.box [AV.sl (List.map encF a)], Row.box [AV.nil], Row.box [AV.os 5 0 0], Row.dead, Row.dead, Row.arr 5 []])
      (Ex.ret,
        mkS 33 [(2, AV.pt 1 0 0), (3, goI 9)] [Row.dead, Row.box [AV.nil], Row.dead, Row.dead, Row.dead, Row.dead]) ∧
    (AV.tup [AV.agg [AV.sl []], goI 9], [], []) = r)
  (LoopTo Try.prog H (H 31) 0 (loopOf Try.prog 31 3)
      (mkS 33
        [(2, AV.pt 1 0 0), (4, AV.pt 2 0 0), (10, AV.sl (List.map encF a)),
          (11, goI (↑(List.length (List.map encF a)) : Int)), (12, goI 0)]
        [Row.box [AV.sl (List.map encF a)], Row.box [AV.nil], Row.box [AV.os 5 0 0], Row.dead, Row.dead, Row.arr 5 []])
      (Ex.exit 0,
        mkS 33 [(2, AV.pt 1 0 0), (4, AV.pt 2 0 0)]
          [Row.box [AV.sl (List.map encF a)], Row.box [AV.nil], Row.box [AV.os 5 0 (List.length q)], Row.dead, Row.dead,
            Row.arr 5 (List.map encF q)]) ∧
    (AV.tup [AV.agg [AV.os 0 0 (List.length q)], goI 0], [Row.arr 5 (List.map encF q)], []) = r)) := by kernel_rfl
theorem t31_3 (a : List XF) (q : List XF) (n : Int) (i : Nat) (r : Ex × St) : (turnT Try.prog H F31 L0 false (H 31) 0 (loopOf Try.prog 31 3)
  (mkS 33 [(2, AV.pt 1 0 0), (4, AV.pt 2 0 0), (10, AV.sl (List.map encF a)), (11, goI n), (12, goI (↑i : Int))]
    [Row.box [AV.sl (List.map encF a)], Row.box [AV.nil], Row.box [AV.os 5 0 (List.length q)], Row.dead, Row.dead,
      Row.arr 5 (List.map encF q)])
  r) = (TB (decide ((↑i : Int) < n))
  ((0 ≤ (↑i : Int) ∧
      (List.map encF a)[i]? =
        some
          [AV.sl (rdL (rowAt (List.map encF a) i) 0), AV.sl (rdL (rowAt (List.map encF a) i) 1),
            goI (rdI (rowAt (List.map encF a) i) 2), goI (rdI (rowAt (List.map encF a) i) 3),
            AV.sl (rdL (rowAt (List.map encF a) i) 4)]) ∧
    TB (U.bigR (rdL (rowAt (List.map encF a) i) 4))
      (Wf Try.prog H 27
            [AV.agg
                [AV.sl (rdL (rowAt (List.map encF a) i) 0), AV.sl (rdL (rowAt (List.map encF a) i) 1),
                  goI (rdI (rowAt (List.map encF a) i) 2), goI (rdI (rowAt (List.map encF a) i) 3),
                  AV.sl (rdL (rowAt (List.map encF a) i) 4)]]
            [] =
          some (AV.tup [AV.agg [AV.sl [], AV.sl [], goI 0, goI 0, AV.sl []], goI 9], [], []) ∧
        (Ex.ret,
            mkS 33 [(2, AV.pt 1 0 0), (3, goI 9)]
              [Row.dead, Row.box [AV.nil], Row.dead, Row.dead, Row.dead, Row.dead]) =
          r)
      (Wf Try.prog H 27
            [AV.agg
                [AV.sl (rdL (rowAt (List.map encF a) i) 0), AV.sl (rdL (rowAt (List.map encF a) i) 1),
                  goI (rdI (rowAt (List.map encF a) i) 2), goI (rdI (rowAt (List.map encF a) i) 3),
                  AV.sl (rdL (rowAt (List.map encF a) i) 4)]]
            [] =
          some
            (AV.tup
                [AV.agg
                    [AV.sl (rdL (rowAt (List.map encF a) i) 0), AV.sl (rdL (rowAt (List.map encF a) i) 1),
                      goI (rdI (rowAt (List.map encF a) i) 2), goI (rdI (rowAt (List.map encF a) i) 3),
                      AV.os 0 0 (List.length (U.splitR (rdL (rowAt (List.map encF a) i) 4)))],
                  goI 0],
              [Row.arr 1 (U.splitR (rdL (rowAt (List.map encF a) i) 4))], []) ∧
        true = true ∧
          (List.length q = List.length (List.map encF q) ∧ List.length q + 1 ≤ 1000000) ∧
            LoopTo Try.prog H (H 31) 0 (loopOf Try.prog 31 3)
              (mkS 33
                [(2, AV.pt 1 0 0), (4, AV.pt 2 0 0), (10, AV.sl (List.map encF a)), (11, goI n),
                  (12, goI (IntKind.wrap IntKind.i64 ((↑i : Int) + 1)))]
                [Row.box [AV.sl (List.map encF a)], Row.box [AV.nil], Row.box [AV.os 5 0 (List.length q + 1)], Row.dead,
                  Row.dead,
                  Row.arr 5
                    (List.map encF q ++
                      [[AV.sl (rdL (rowAt (List.map encF a) i) 0), AV.sl (rdL (rowAt (List.map encF a) i) 1),
                          goI (rdI (rowAt (List.map encF a) i) 2), goI (rdI (rowAt (List.map encF a) i) 3),
                          AV.sl
                            (List.take (List.length (U.splitR (rdL (rowAt (List.map encF a) i) 4)))
                              (List.drop 0 (U.splitR (rdL (rowAt (List.map encF a) i) 4))))]])])
              r))
  ((Ex.exit 0,
      mkS 33 [(2, AV.pt 1 0 0), (4, AV.pt 2 0 0)]
        [Row.box [AV.sl (List.map encF a)], Row.box [AV.nil], Row.box [AV.os 5 0 (List.length q)], Row.dead, Row.dead,
          Row.arr 5 (List.map encF q)]) =
    r)) := by kernel_rfl
theorem t8 (a : List XF) (o : Bool) (r : AV × List Row × List Nat) : (runT Try.prog H (F8 o [] []) (fun id st => LT.is (Ex.exit 0) (mkS 61 [] [Row.dead, Row.dead, Row.dead])) false 8
  [AV.agg [AV.sl (List.map encF a)]] [] fun q => q = r) = (Wf Try.prog H 24 [] [] = some (goB true, [], []) ∧
  Wf Try.prog H 25 [AV.agg [AV.sl (List.map encF a)]] [] = some (goB o, [], []) ∧
    TB o ((goB true, [], []) = r)
      (TB (U.errR (List.map encF a))
        (Wf Try.prog H 31 [AV.agg [AV.sl (List.map encF a)]] [] = some (AV.tup [AV.agg [AV.sl []], goI 9], [], []) ∧
          (goB true, [], []) = r)
        (Wf Try.prog H 31 [AV.agg [AV.sl (List.map encF a)]] [] =
            some
              (AV.tup [AV.agg [AV.os 0 0 (List.length (U.wholeR (List.map encF a)))], goI 0],
                [Row.arr 5 (U.wholeR (List.map encF a))], []) ∧
          TB (U.errR (List.take (List.length (U.wholeR (List.map encF a))) (List.drop 0 (U.wholeR (List.map encF a)))))
            (Wf Try.prog H 31
                  [AV.agg
                      [AV.sl
                          (List.take (List.length (U.wholeR (List.map encF a)))
                            (List.drop 0 (U.wholeR (List.map encF a))))]]
                  [] =
                some (AV.tup [AV.agg [AV.sl []], goI 9], [], []) ∧
              (goB false, [], []) = r)
            (Wf Try.prog H 31
                  [AV.agg
                      [AV.sl
                          (List.take (List.length (U.wholeR (List.map encF a)))
                            (List.drop 0 (U.wholeR (List.map encF a))))]]
                  [] =
                some
                  (AV.tup
                      [AV.agg
                          [AV.os 0 0
                              (List.length
                                (U.wholeR
                                  (List.take (List.length (U.wholeR (List.map encF a)))
                                    (List.drop 0 (U.wholeR (List.map encF a))))))],
                        goI 0],
                    [Row.arr 5
                        (U.wholeR
                          (List.take (List.length (U.wholeR (List.map encF a)))
                            (List.drop 0 (U.wholeR (List.map encF a)))))],
                    []) ∧
              Wf Try.prog H 33
                    [AV.agg
                        [AV.sl
                            (List.take (List.length (U.wholeR (List.map encF a)))
                              (List.drop 0 (U.wholeR (List.map encF a))))],
                      AV.agg
                        [AV.sl
                            (List.take
                              (List.length
                                (U.wholeR
                                  (List.take (List.length (U.wholeR (List.map encF a)))
                                    (List.drop 0 (U.wholeR (List.map encF a))))))
                              (List.drop 0
                                (U.wholeR
                                  (List.take (List.length (U.wholeR (List.map encF a)))
                                    (List.drop 0 (U.wholeR (List.map encF a)))))))]]
                    [] =
                  some (goB true, [], []) ∧
                LoopTo Try.prog H (H 8) 0 (loopOf Try.prog 8 12)
                    (mkS 61 [(1, AV.pt 0 0 0), (3, AV.pt 1 0 0), (7, goI 0)]
                      [Row.box [AV.sl (List.map encF a)],
                        Row.box
                          [AV.sl
                              (List.take (List.length (U.wholeR (List.map encF a)))
                                (List.drop 0 (U.wholeR (List.map encF a))))],
                        Row.box
                          [AV.sl
                              (List.take
                                (List.length
                                  (U.wholeR
                                    (List.take (List.length (U.wholeR (List.map encF a)))
                                      (List.drop 0 (U.wholeR (List.map encF a))))))
                                (List.drop 0
                                  (U.wholeR
                                    (List.take (List.length (U.wholeR (List.map encF a)))
                                      (List.drop 0 (U.wholeR (List.map encF a)))))))]])
                    (Ex.exit 0, mkS 61 [] [Row.dead, Row.dead, Row.dead]) ∧
                  (goB true, [], []) = r)))) := by kernel_rfl
theorem t8_12 (a : List XF) (q : List XF) (i : Nat) (k : List XE) (ys : List (List AV)) (X : List (List AV)) (r : Ex × St) : (turnT Try.prog H (F8 false k ys) L0 false (H 8) 0 (loopOf Try.prog 8 12)
  (mkS 61 [(1, AV.pt 0 0 0), (3, AV.pt 1 0 0), (7, goI (↑i : Int))]
    [Row.box [AV.sl (List.map encF a)], Row.box [AV.sl (List.map encF q)], Row.box [AV.sl X]])
  r) = (TB (decide ((↑i : Int) < (↑(List.length (List.map encF a)) : Int)))
  ((0 ≤ (↑i : Int) ∧
      (List.map encF a)[i]? =
        some
          [AV.sl (rdL (rowAt (List.map encF a) i) 0), AV.sl (rdL (rowAt (List.map encF a) i) 1),
            goI (rdI (rowAt (List.map encF a) i) 2), goI (rdI (rowAt (List.map encF a) i) 3),
            AV.sl (rdL (rowAt (List.map encF a) i) 4)]) ∧
    Wf Try.prog H 26
          [AV.agg
              [AV.sl (rdL (rowAt (List.map encF a) i) 0), AV.sl (rdL (rowAt (List.map encF a) i) 1),
                goI (rdI (rowAt (List.map encF a) i) 2), goI (rdI (rowAt (List.map encF a) i) 3),
                AV.sl (rdL (rowAt (List.map encF a) i) 4)]]
          [] =
        some (AV.os 0 0 (List.length k), [Row.arr 2 (List.map encE k ++ ys)], []) ∧
      TB ((↑(List.length (List.take (List.length k) (List.drop 0 (List.map encE k ++ ys)))) : Int) == 0)
        ((0 ≤ (↑i : Int) ∧
            (List.map encF a)[i]? =
              some
                [AV.sl (rdL (rowAt (List.map encF a) i) 0), AV.sl (rdL (rowAt (List.map encF a) i) 1),
                  goI (rdI (rowAt (List.map encF a) i) 2), goI (rdI (rowAt (List.map encF a) i) 3),
                  AV.sl (rdL (rowAt (List.map encF a) i) 4)]) ∧
          (0 ≤ (↑i : Int) ∧
              (List.map encF q)[i]? =
                some
                  [AV.sl (rdL (rowAt (List.map encF q) i) 0), AV.sl (rdL (rowAt (List.map encF q) i) 1),
                    goI (rdI (rowAt (List.map encF q) i) 2), goI (rdI (rowAt (List.map encF q) i) 3),
                    AV.sl (rdL (rowAt (List.map encF q) i) 4)]) ∧
            Wf Try.prog H 30
                  [AV.agg
                      [AV.sl (rdL (rowAt (List.map encF a) i) 0), AV.sl (rdL (rowAt (List.map encF a) i) 1),
                        goI (rdI (rowAt (List.map encF a) i) 2), goI (rdI (rowAt (List.map encF a) i) 3),
                        AV.sl (rdL (rowAt (List.map encF a) i) 4)],
                    AV.agg
                      [AV.sl (rdL (rowAt (List.map encF q) i) 0), AV.sl (rdL (rowAt (List.map encF q) i) 1),
                        goI (rdI (rowAt (List.map encF q) i) 2), goI (rdI (rowAt (List.map encF q) i) 3),
                        AV.sl (rdL (rowAt (List.map encF q) i) 4)]]
                  [] =
                some (goB true, [], []) ∧
              LoopTo Try.prog H (H 8) 0 (loopOf Try.prog 8 12)
                (mkS 61 [(1, AV.pt 0 0 0), (3, AV.pt 1 0 0), (7, goI (IntKind.wrap IntKind.i64 ((↑i : Int) + 1)))]
                  [Row.box [AV.sl (List.map encF a)], Row.box [AV.sl (List.map encF q)], Row.box [AV.sl X]])
                r)
        (LoopTo Try.prog H (H 8) 0 (loopOf Try.prog 8 12)
          (mkS 61 [(1, AV.pt 0 0 0), (3, AV.pt 1 0 0), (7, goI (IntKind.wrap IntKind.i64 ((↑i : Int) + 1)))]
            [Row.box [AV.sl (List.map encF a)], Row.box [AV.sl (List.map encF q)], Row.box [AV.sl X]])
          r))
  ((Ex.exit 0, mkS 61 [] [Row.dead, Row.dead, Row.dead]) = r)) := by kernel_rfl
theorem splitR_map (bl : List XB) : U.splitR (bl.map encB) = (U.splits bl (U.crit bl)).map encB := by unfold U.splitR; rw [decBs_map]
theorem bigR_map (f : XF) : U.bigR (f.blocks.map encB) = U.big f := by unfold U.bigR U.big; rw [decBs_map, List.length_map]
theorem errR_map (P : List XF) : U.errR (P.map encF) = U.wholeErr P := by unfold U.errR; rw [decFs_map]
theorem wholeR_map (P : List XF) : U.wholeR (P.map encF) = (U.whole P).map encF := by unfold U.wholeR; rw [decFs_map]
/-! The same, of what is the same. -/
theorem wf54 (x : XI) (h : x.args.length < 1000000) : Wf Try.prog H 54 [.agg (encIn x), .agg (encIn x)] [] = some (goB true, [], []) := by
  refine runK (t54 x.op x.d x.a x.b x.n x.m x.args _) ?_
  simp only [beq_self_eq_true]
  exact ⟨wf14s x.args h, by trivial⟩
theorem loop30_10 (ks bs : List (List AV)) (p q : Int) (bl : List XB) (l : List XI) (i : Nat) (hl : l.length < 1000000) (h : ∀ x ∈ l, x.args.length < 1000000) : ∀ (d j : Nat), j + d = l.length →
    LoopTo Try.prog H (H 30) 0 (loopOf Try.prog 30 10) (mkS 86 [(2, .pt 0 0 0), (3, .pt 1 0 0), (5, goI i), (6, .sl (l.map encIn)), (7, .sl (l.map encIn)), (8, goI j)] [.box [.sl ks, .sl bs, goI p, goI q, .sl (bl.map encB)], .box [.sl ks, .sl bs, goI p, goI q, .sl (bl.map encB)]])
      (.exit 2, mkS 86 [(2, .pt 0 0 0), (3, .pt 1 0 0), (5, goI i)] [.box [.sl ks, .sl bs, goI p, goI q, .sl (bl.map encB)], .box [.sl ks, .sl bs, goI p, goI q, .sl (bl.map encB)]])
  | 0, j, hd => by
    refine turnK (t30_10 ks bs p q bl l i j _) ?_
    rw [List.length_map, decide_eq_false (by omega)]
    exact rfl
  | d + 1, j, hd => by
    have hj : j < l.length := by omega
    have ih := loop30_10 ks bs p q bl l i hl h d (j + 1) (by omega)
    have w := wf54 (U.ins l j) (h _ (ins_mem hj))
    refine turnK (t30_10 ks bs p q bl l i j _) ?_
    rw [List.length_map, decide_eq_true (by omega), wrapS hj hl, rowIn hj, getIn hj]
    simp only [encIn, rdI, rdL, slOf, List.getD_cons_zero, List.getD_cons_succ, int_goI]
    exact ⟨⟨by omega, by trivial⟩, ⟨by omega, by trivial⟩, w, ih⟩
theorem loop30_4 (ks bs : List (List AV)) (p q : Int) (bl : List XB) (hl : bl.length ≤ 3000) (h : ∀ b ∈ bl, SmallB b) : ∀ (d i : Nat), i + d = bl.length →
    LoopTo Try.prog H (H 30) 0 (loopOf Try.prog 30 4) (mkS 86 [(2, .pt 0 0 0), (3, .pt 1 0 0), (5, goI i)] [.box [.sl ks, .sl bs, goI p, goI q, .sl (bl.map encB)], .box [.sl ks, .sl bs, goI p, goI q, .sl (bl.map encB)]]) (.exit 0, mkS 86 [] [.dead, .dead])
  | 0, i, hd => by
    refine turnK (t30_4 ks bs p q bl i _) ?_
    rw [List.length_map, decide_eq_false (by omega)]
    exact rfl
  | d + 1, i, hd => by
    have hi : i < bl.length := by omega
    have ih := loop30_4 ks bs p q bl hl h d (i + 1) (by omega)
    obtain ⟨b1, b2⟩ := h _ (blk_mem hi)
    have h10 := loop30_10 ks bs p q bl (U.blk bl i).code i (by omega) (fun x hx => by have := b2 x hx; omega) (U.blk bl i).code.length 0 (by omega)
    refine turnK (t30_4 ks bs p q bl i _) ?_
    rw [List.length_map, decide_eq_true (by omega), wrapS hi (by omega), rowB hi, getB hi]
    simp only [encB, rdL, slOf, List.getD_cons_zero, beq_self_eq_true]
    exact ⟨⟨by omega, by trivial⟩, ⟨by omega, by trivial⟩, h10, ih⟩
theorem wf30 (f : XF) (h : SmallF f) : Wf Try.prog H 30 [.agg (encF f), .agg (encF f)] [] = some (goB true, [], []) := by
  obtain ⟨h1, h2, h3, h4⟩ := h
  refine runK (t30 (f.kinds.map encI) (f.base.map encI) f.params f.result f.blocks _) ⟨wf14s _ (by omega), wf14s _ (by omega), ?_⟩
  simp only [beq_self_eq_true]
  exact ⟨loop30_4 _ _ _ _ f.blocks h3 h4 f.blocks.length 0 (by omega), by trivial⟩
theorem loop33_4 (a : List XF) (ha : a.length ≤ 3000) (h : ∀ f ∈ a, SmallF f) : ∀ (d i : Nat), i + d = a.length →
    LoopTo Try.prog H (H 33) 0 (loopOf Try.prog 33 4) (mkS 32 [(2, .pt 0 0 0), (3, .pt 1 0 0), (5, goI i)] [.box [.sl (a.map encF)], .box [.sl (a.map encF)]]) (.exit 0, mkS 32 [] [.dead, .dead])
  | 0, i, hd => by
    refine turnK (t33_4 a i _) ?_
    rw [List.length_map, decide_eq_false (by omega)]
    exact rfl
  | d + 1, i, hd => by
    have hi : i < a.length := by omega
    have ih := loop33_4 a ha h d (i + 1) (by omega)
    have w := wf30 _ (h _ (fun_mem hi))
    refine turnK (t33_4 a i _) ?_
    rw [List.length_map, decide_eq_true (by omega), wrapS hi (by omega), rowF hi, getF hi]
    simp only [encF, rdI, rdL, slOf, List.getD_cons_zero, List.getD_cons_succ, int_goI]
    exact ⟨⟨by omega, by trivial⟩, ⟨by omega, by trivial⟩, w, ih⟩
theorem wf33 (a : List XF) (ha : a.length ≤ 3000) (h : ∀ f ∈ a, SmallF f) : Wf Try.prog H 33 [.agg [.sl (a.map encF)], .agg [.sl (a.map encF)]] [] = some (goB true, [], []) := by
  refine runK (t33 a _) ?_
  simp only [beq_self_eq_true]
  exact ⟨loop33_4 a ha h a.length 0 (by omega), by trivial⟩
/-! A program, split. -/
/-- What Split asks for. -/
def SplitOk (f : XF) : Prop := CodeNe f.blocks ∧ f.blocks.length ≤ 3000 ∧ TgtOk f.blocks
theorem loop31_3 (a : List XF) (ha : a.length ≤ 3000) (h : ∀ f ∈ a, SplitOk f) : ∀ (d i : Nat) (q : List XF), i + d = a.length → q.length = i →
    LoopTo Try.prog H (H 31) 0 (loopOf Try.prog 31 3) (mkS 33 [(2, .pt 1 0 0), (4, .pt 2 0 0), (10, .sl (a.map encF)), (11, goI a.length), (12, goI i)] [.box [.sl (a.map encF)], .box [.nil], .box [.os 5 0 q.length], .dead, .dead, .arr 5 (q.map encF)])
      (if U.wholeErr (a.drop i) then (.ret, mkS 33 [(2, .pt 1 0 0), (3, goI 9)] [.dead, .box [.nil], .dead, .dead, .dead, .dead])
        else (.exit 0, mkS 33 [(2, .pt 1 0 0), (4, .pt 2 0 0)] [.box [.sl (a.map encF)], .box [.nil], .box [.os 5 0 (q ++ U.whole (a.drop i)).length], .dead, .dead, .arr 5 ((q ++ U.whole (a.drop i)).map encF)]))
  | 0, i, q, hd, hq => by
    refine turnK (t31_3 a q a.length i _) ?_
    rw [decide_eq_false (by omega), show a.drop i = [] from List.drop_eq_nil_of_le (by omega), show U.whole [] = [] from rfl, List.append_nil]
    exact rfl
  | d + 1, i, q, hd, hq => by
    have hi : i < a.length := by omega
    obtain ⟨s1, s2, s3⟩ := h _ (fun_mem hi)
    have w27 := wf27 ((U.fun_ a i).kinds.map encI) ((U.fun_ a i).base.map encI) (U.fun_ a i).params (U.fun_ a i).result (U.fun_ a i).blocks s1 s2 s3
    have ih := loop31_3 a ha h d (i + 1) (q ++ [U.splitF (U.fun_ a i)]) (by omega) (by simp; omega)
    refine turnK (t31_3 a q a.length i _) ?_
    rw [decide_eq_true (by omega), wrapS hi (by omega), dropF hi, rowF hi, getF hi, show U.wholeErr (U.fun_ a i :: a.drop (i + 1)) = (U.big (U.fun_ a i) || U.wholeErr (a.drop (i + 1))) from rfl]
    simp only [encF, rdI, rdL, slOf, List.getD_cons_zero, List.getD_cons_succ, int_goI, bigR_map, splitR_map]
    refine ⟨⟨by omega, by trivial⟩, ?_⟩
    unfold splitTo at w27
    cases hb : U.big (U.fun_ a i) with
    | true =>
      have hb' := of_decide_eq_true hb
      rw [if_pos hb'] at w27
      exact ⟨w27, rfl⟩
    | false =>
      have hb' := of_decide_eq_false hb
      rw [if_neg hb'] at w27
      rw [Bool.false_or]
      rw [List.append_assoc, show [U.splitF (U.fun_ a i)] ++ U.whole (a.drop (i + 1)) = U.whole (U.fun_ a i :: a.drop (i + 1)) from rfl, List.length_append, List.length_singleton, List.map_append] at ih
      rw [List.length_map (f := encB), take_map]
      exact ⟨w27, by trivial, ⟨(List.length_map _).symm, by omega⟩, ih⟩
theorem wf31 (a : List XF) (ha : a.length ≤ 3000) (h : ∀ f ∈ a, SplitOk f) : Wf Try.prog H 31 [.agg [.sl (a.map encF)]] [] = some (if U.wholeErr a then (.tup [.agg [.sl []], goI 9], [], []) else (.tup [.agg [.os 0 0 (U.whole a).length], goI 0], [.arr 5 ((U.whole a).map encF)], [])) := by
  have h3 := loop31_3 a ha h a.length 0 [] (by omega) rfl
  rw [List.drop_zero, List.nil_append] at h3
  refine runK (t31 a (U.whole a) (U.wholeErr a) _) ?_
  rw [List.length_map]
  cases he : U.wholeErr a with
  | true => rw [he] at h3; exact ⟨h3, rfl⟩
  | false => rw [he] at h3; exact ⟨h3, rfl⟩
theorem step_small {bl : List XB} {e : XE} (h : ∀ b ∈ bl, SmallB b) (hn : CodeNe bl) (he : e.src.toNat < bl.length) : ∀ b ∈ U.splitStep bl e, SmallB b := by
  intro b hb
  unfold U.splitStep at hb
  rcases List.mem_append.1 hb with hb | hb
  · rcases List.mem_or_eq_of_mem_set hb with hb | rfl
    · exact h b hb
    · obtain ⟨c1, c2⟩ := h _ (blk_mem he)
      have hne := hn _ (blk_mem he)
      refine ⟨by show (U.lead _ _ _).length ≤ 3000; rw [lead_len]; exact c1, fun x hx => ?_⟩
      have hx' : x ∈ U.lead (U.blk bl e.src.toNat).code e.dst bl.length := hx
      unfold U.lead at hx'
      rcases List.mem_or_eq_of_mem_set hx' with hx' | rfl
      · exact c2 x hx'
      · have := c2 _ (ins_mem (l := (U.blk bl e.src.toNat).code) (i := (U.blk bl e.src.toNat).code.length - 1) (by omega))
        split <;> exact this
  · have : b = U.jump e.dst := by simpa using hb
    subst this
    refine ⟨by simp [U.jump], fun x hx => ?_⟩
    have : x = ⟨21, 0, 0, 0, e.dst, 0, []⟩ := by simpa [U.jump] using hx
    subst this
    exact Nat.zero_le _
theorem splits_small : ∀ (k : List XE) (bl : List XB), (∀ b ∈ bl, SmallB b) → CodeNe bl → (∀ e ∈ k, e.src.toNat < bl.length) → ∀ b ∈ U.splits bl k, SmallB b
  | [], bl, h, _, _ => h
  | e :: k, bl, h, hn, hk => by
    have he := hk e (by simp)
    exact splits_small k (U.splitStep bl e) (step_small h hn he) (step_ne hn he) (fun e' he' => by rw [step_len]; have := hk e' (by simp [he']); omega)
theorem splitOk_split {f : XF} (h : SplitOk f) (hb : U.big f = false) : SplitOk (U.splitF f) ∧ U.crit (U.splitF f).blocks = [] ∧ (U.splitF f).blocks.length ≤ 40 := by
  obtain ⟨h1, h2, h3⟩ := h
  have hb' := of_decide_eq_false hb
  have hl : (U.splitF f).blocks.length = f.blocks.length + (U.crit f.blocks).length := splits_len _ _
  exact ⟨⟨(led_end h1 h3).2, by omega, tgt_split h1 h3⟩, crit_split h1 h3, by omega⟩
theorem small_split {f : XF} (h : SplitOk f) (hb : U.big f = false) (hs : SmallF f) : SmallF (U.splitF f) := by
  obtain ⟨h1, h2, h3⟩ := h
  obtain ⟨s1, s2, s3, s4⟩ := hs
  have hl := (splitOk_split ⟨h1, h2, h3⟩ hb).2.2
  refine ⟨s1, s2, by omega, splits_small _ _ s4 h1 (fun e he => ?_)⟩
  obtain ⟨k1, _, _⟩ := (mem_crit h1 h3).1 he
  obtain ⟨g1, g2, _, _⟩ := edge_in h3 k1
  omega
theorem split_none {f : XF} (h : U.crit f.blocks = []) : U.splitF f = f := by
  unfold U.splitF
  rw [h]; rfl
theorem whole_whole {P : List XF} (h : ∀ f ∈ P, SplitOk f) (hb : U.wholeErr P = false) : U.whole (U.whole P) = U.whole P ∧ U.wholeErr (U.whole P) = false := by
  have each : ∀ f ∈ P, U.big f = false := fun f hf => by
    unfold U.wholeErr at hb
    rw [List.any_eq_false] at hb
    simpa using hb f hf
  constructor
  · unfold U.whole
    rw [List.map_map]
    apply List.map_congr_left
    intro f hf
    exact split_none (splitOk_split (h f hf) (each f hf)).2.1
  · unfold U.wholeErr U.whole
    rw [List.any_eq_false]
    intro f' hf'
    obtain ⟨f, hf, rfl⟩ := List.mem_map.1 hf'
    obtain ⟨_, q2, q3⟩ := splitOk_split (h f hf) (each f hf)
    unfold U.big
    rw [q2, List.length_nil]
    simpa using q3
theorem loop8_12 (a q : List XF) (X : List (List AV)) (hq : q = U.whole a) (ha : a.length ≤ 3000) (h : ∀ f ∈ a, SplitOk f ∧ SmallF f) : ∀ (d i : Nat), i + d = a.length →
    LoopTo Try.prog H (H 8) 0 (loopOf Try.prog 8 12) (mkS 61 [(1, .pt 0 0 0), (3, .pt 1 0 0), (7, goI i)] [.box [.sl (a.map encF)], .box [.sl (q.map encF)], .box [.sl X]]) (.exit 0, mkS 61 [] [.dead, .dead, .dead])
  | 0, i, hd => by
    refine turnK (t8_12 a q i [] [] X _) ?_
    rw [List.length_map, decide_eq_false (show ¬ (i : Int) < a.length by omega)]
    exact rfl
  | d + 1, i, hd => by
    have hi : i < a.length := by omega
    have hql : q.length = a.length := by rw [hq]; exact List.length_map _
    have hiq : i < q.length := by omega
    have ih := loop8_12 a q X hq ha h d (i + 1) (by omega)
    obtain ⟨⟨s1, s2, s3⟩, sm⟩ := h _ (fun_mem hi)
    obtain ⟨ys, w26⟩ := wf26 ((U.fun_ a i).kinds.map encI) ((U.fun_ a i).base.map encI) (U.fun_ a i).params (U.fun_ a i).result (U.fun_ a i).blocks (fun b hb => (s1 b hb).2) s2 s3
    have w30 := wf30 _ sm
    refine turnK (t8_12 a q i (U.crit (U.fun_ a i).blocks) ys X _) ?_
    rw [List.length_map, decide_eq_true (show (i : Int) < a.length by omega), wrapS hi (by omega), rowF hi, getF hi, rowF hiq, getF hiq, take_app, List.length_map]
    cases hc : U.crit (U.fun_ a i).blocks with
    | nil =>
      have e : U.fun_ q i = U.fun_ a i := by
        have : U.fun_ q i = U.splitF (U.fun_ a i) := by
          rw [hq]
          unfold U.fun_ U.whole
          rw [List.getD_eq_getElem?_getD, List.getD_eq_getElem?_getD, List.getElem?_map, List.getElem?_eq_getElem hi]; rfl
        rw [this, split_none hc]
      rw [hc] at w26
      rw [e]
      simp only [encF, rdI, rdL, slOf, List.getD_cons_zero, List.getD_cons_succ, int_goI]
      exact ⟨⟨by omega, by trivial⟩, w26, ⟨by omega, by trivial⟩, ⟨by omega, by trivial⟩, w30, ih⟩
    | cons x r =>
      rw [hc] at w26
      simp only [encF, rdI, rdL, slOf, List.getD_cons_zero, List.getD_cons_succ, int_goI]
      have hne : (((x :: r).length : Int) == 0) = false := beq_eq_false_iff_ne.2 (by simp; omega)
      rw [hne]
      exact ⟨⟨by omega, by trivial⟩, w26, ih⟩
theorem wf8 (p : XP) (hp : HandP p) : Wf Try.prog H 8 [.agg (encP p)] [] = some (goB true, [], []) := by
  refine runK (t8 p.funcs (U.out p) _) ⟨wf24, wf25 p hp, ?_⟩
  cases ho : U.out p with
  | true => exact rfl
  | false =>
    unfold U.out at ho
    rw [Bool.or_eq_false_iff] at ho
    obtain ⟨h1, h2⟩ := small_of ho.1
    have hok : U.okProg p.funcs = true := by simpa using ho.2
    have hs : ∀ f ∈ p.funcs, SplitOk f := fun f hf => by
      obtain ⟨i, hi, rfl⟩ := mem_getD hf
      have hb := (funcOk_of (okFunc_at hok (fun_mem hi))).blocks
      exact ⟨codeNe_of hok hi, (show (U.fun_ p.funcs i).blocks.length ≤ 3000 by omega), tgtOk_of hok hi⟩
    rw [errR_map, wholeR_map, List.length_map, take_map, errR_map, wholeR_map, List.length_map, take_map]
    have w1 := wf31 p.funcs h1 hs
    cases he : U.wholeErr p.funcs with
    | true => rw [he] at w1; exact ⟨w1, rfl⟩
    | false =>
      rw [he] at w1
      obtain ⟨q1, q2⟩ := whole_whole hs he
      have hwl : (U.whole p.funcs).length = p.funcs.length := List.length_map _
      have each : ∀ f ∈ p.funcs, U.big f = false := fun f hf => by
        unfold U.wholeErr at he
        rw [List.any_eq_false] at he
        simpa using he f hf
      have hs2 : ∀ f ∈ U.whole p.funcs, SplitOk f := fun f' hf' => by
        obtain ⟨f, hf, rfl⟩ := List.mem_map.1 hf'
        exact (splitOk_split (hs f hf) (each f hf)).1
      have hsm2 : ∀ f ∈ U.whole p.funcs, SmallF f := fun f' hf' => by
        obtain ⟨f, hf, rfl⟩ := List.mem_map.1 hf'
        exact small_split (hs f hf) (each f hf) (h2 f hf)
      have w2 := wf31 (U.whole p.funcs) (by omega) hs2
      rw [q2, q1] at w2
      rw [q2, q1]
      exact ⟨w1, w2, wf33 (U.whole p.funcs) (by omega) hsm2, loop8_12 p.funcs (U.whole p.funcs) _ rfl h1 (fun f hf => ⟨hs f hf, h2 f hf⟩) p.funcs.length 0 (by omega), rfl⟩
end Go.Proofs.Ytjgnnjoejlijjaa.E
