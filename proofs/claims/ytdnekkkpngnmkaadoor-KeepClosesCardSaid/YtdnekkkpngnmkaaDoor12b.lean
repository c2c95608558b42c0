/- Functions, by what the evaluator asks; the theorems t.. were printed by show.txt, a program of this session. -/
import Derived.Test.YtdnekkkpngnmkaaDoor12a
set_option linter.unusedVariables false
set_option linter.unusedSimpArgs false
set_option maxRecDepth 100000
namespace Go.Proofs.YtdnekkkpngnmkaaDoor.E
open Go
namespace U
/-- Does a number fall away? -/
def ap (c : Int → Bool) (n : Int) : Bool := c n
end U
def FD (c : Int → Bool) (v : Int) : CallT := fun f args sto => match f, args with
 | 84, [.v (.int _ n), .pt 0 0 0, .pt 1 0 0] => .is (goB (U.ap c n), sto, [])
 | 93, _ => .is (goI v, sto, [])
 | _, _ => .no
def LI (v : Int) (b : Bool) : Nat → St → LT := fun id st => .by b (.is .ret (mkS 19 [(4, goI v)] st.sto)) (.is (.exit 0) (mkS 19 [] st.sto))
def LD (n : Nat) (k : Int) (zs : List (List AV)) : Nat → St → LT := fun id st => .is (.exit 0) (mkS 42 [(0, .os 0 0 n), (5, goI k)] (st.sto.set 0 (.arr 1 zs)))

theorem tiA (l : List Int) (c : Int → Bool) (g : Nat) (ks : List (List AV)) (bs : List (List AV)) (p : Int) (q : Int) (bl : List (List AV)) (v : Int) (b : Bool) (r : AV × List Row × List Nat) : (runT Tryd.prog H (FD c 0) (LI v b) false 93 [AV.os 0 0 (List.length l), AV.clo 84 [AV.pt 1 0 0, AV.pt 2 0 0]]
 [Row.arr 1 (List.map encI l), Row.box [AV.sl ks, AV.sl bs, goI p, goI q, AV.sl bl], Row.box [AV.clo g [AV.pt 3 0 0]],
 Row.box [AV.sl ks, AV.sl bs, goI p, goI q, AV.sl bl]]
 fun q => q = r) = (TB b
 (LoopTo Tryd.prog H (H 93) 4 (loopOf Tryd.prog 93 2)
 (mkS 19
 [(0, AV.os 0 0 (List.length l)), (1, AV.clo 84 [AV.pt 1 0 0, AV.pt 2 0 0]), (7, goI (↑(List.length l) : Int)),
 (8, goI 0)]
 [Row.arr 1 (List.map encI l), Row.box [AV.sl ks, AV.sl bs, goI p, goI q, AV.sl bl],
 Row.box [AV.clo g [AV.pt 3 0 0]], Row.box [AV.sl ks, AV.sl bs, goI p, goI q, AV.sl bl]])
 (Ex.ret,
 mkS 19 [(4, goI v)]
 [Row.arr 1 (List.map encI l), Row.box [AV.sl ks, AV.sl bs, goI p, goI q, AV.sl bl],
 Row.box [AV.clo g [AV.pt 3 0 0]], Row.box [AV.sl ks, AV.sl bs, goI p, goI q, AV.sl bl]]) ∧
 (goI v,
 [Row.arr 1 (List.map encI l), Row.box [AV.sl ks, AV.sl bs, goI p, goI q, AV.sl bl],
 Row.box [AV.clo g [AV.pt 3 0 0]], Row.box [AV.sl ks, AV.sl bs, goI p, goI q, AV.sl bl]],
 []) =
 r)
 (LoopTo Tryd.prog H (H 93) 4 (loopOf Tryd.prog 93 2)
 (mkS 19
 [(0, AV.os 0 0 (List.length l)), (1, AV.clo 84 [AV.pt 1 0 0, AV.pt 2 0 0]), (7, goI (↑(List.length l) : Int)),
 (8, goI 0)]
 [Row.arr 1 (List.map encI l), Row.box [AV.sl ks, AV.sl bs, goI p, goI q, AV.sl bl],
 Row.box [AV.clo g [AV.pt 3 0 0]], Row.box [AV.sl ks, AV.sl bs, goI p, goI q, AV.sl bl]])
 (Ex.exit 0,
 mkS 19 []
 [Row.arr 1 (List.map encI l), Row.box [AV.sl ks, AV.sl bs, goI p, goI q, AV.sl bl],
 Row.box [AV.clo g [AV.pt 3 0 0]], Row.box [AV.sl ks, AV.sl bs, goI p, goI q, AV.sl bl]]) ∧
 (goI (-1),
 [Row.arr 1 (List.map encI l), Row.box [AV.sl ks, AV.sl bs, goI p, goI q, AV.sl bl],
 Row.box [AV.clo g [AV.pt 3 0 0]], Row.box [AV.sl ks, AV.sl bs, goI p, goI q, AV.sl bl]],
 []) =
 r)) := by kernel_rfl
theorem tiA_2 (l : List Int) (c : Int → Bool) (g : Nat) (ks : List (List AV)) (bs : List (List AV)) (p : Int) (q : Int) (bl : List (List AV)) (k : Int) (i : Nat) (r : Ex × St) : (turnT Tryd.prog H (FD c 0) L0 false (H 93) 4 (loopOf Tryd.prog 93 2)
 (mkS 19 [(0, AV.os 0 0 (List.length l)), (1, AV.clo 84 [AV.pt 1 0 0, AV.pt 2 0 0]), (7, goI k), (8, goI (↑i : Int))]
 [Row.arr 1 (List.map encI l), Row.box [AV.sl ks, AV.sl bs, goI p, goI q, AV.sl bl],
 Row.box [AV.clo g [AV.pt 3 0 0]], Row.box [AV.sl ks, AV.sl bs, goI p, goI q, AV.sl bl]])
 r) = (TB (decide ((↑i : Int) < k))
 ((0 ≤ (↑i : Int) ∧ (↑i : Int) < (↑(List.length l) : Int) ∧ 0 + i < List.length (List.map encI l)) ∧
 cutAt 1 0 (List.map encI l)[0 + i]? = some [goI (rdI (rowAt (List.map encI l) (0 + i)) 0)] ∧
 Wf Tryd.prog H 84 [goI (rdI (rowAt (List.map encI l) (0 + i)) 0), AV.pt 0 0 0, AV.pt 1 0 0]
 [Row.box [AV.sl ks, AV.sl bs, goI p, goI q, AV.sl bl], Row.box [AV.clo g [AV.pt 2 0 0]],
 Row.box [AV.sl ks, AV.sl bs, goI p, goI q, AV.sl bl]] =
 some
 (goB (U.ap c (rdI (rowAt (List.map encI l) (0 + i)) 0)),
 [Row.box [AV.sl ks, AV.sl bs, goI p, goI q, AV.sl bl], Row.box [AV.clo g [AV.pt 2 0 0]],
 Row.box [AV.sl ks, AV.sl bs, goI p, goI q, AV.sl bl]],
 []) ∧
 TB (U.ap c (rdI (rowAt (List.map encI l) (0 + i)) 0))
 ((Ex.ret,
 mkS 19 [(4, goI (↑i : Int))]
 [Row.arr 1 (List.map encI l), Row.box [AV.sl ks, AV.sl bs, goI p, goI q, AV.sl bl],
 Row.box [AV.clo g [AV.pt 3 0 0]], Row.box [AV.sl ks, AV.sl bs, goI p, goI q, AV.sl bl]]) =
 r)
 (LoopTo Tryd.prog H (H 93) 4 (loopOf Tryd.prog 93 2)
 (mkS 19
 [(0, AV.os 0 0 (List.length l)), (1, AV.clo 84 [AV.pt 1 0 0, AV.pt 2 0 0]), (7, goI k),
 (8, goI (IntKind.wrap IntKind.i64 ((↑i : Int) + 1)))]
 [Row.arr 1 (List.map encI l), Row.box [AV.sl ks, AV.sl bs, goI p, goI q, AV.sl bl],
 Row.box [AV.clo g [AV.pt 3 0 0]], Row.box [AV.sl ks, AV.sl bs, goI p, goI q, AV.sl bl]])
 r))
 ((Ex.exit 0,
 mkS 19 []
 [Row.arr 1 (List.map encI l), Row.box [AV.sl ks, AV.sl bs, goI p, goI q, AV.sl bl],
 Row.box [AV.clo g [AV.pt 3 0 0]], Row.box [AV.sl ks, AV.sl bs, goI p, goI q, AV.sl bl]]) =
 r)) := by kernel_rfl
theorem tdA (l : List Int) (c : Int → Bool) (g : Nat) (ks : List (List AV)) (bs : List (List AV)) (p : Int) (q : Int) (bl : List (List AV)) (v : Int) (k : Int) (zs : List (List AV)) (r : AV × List Row × List Nat) : (runT Tryd.prog H (FD c v) (LD (List.length l) k zs) false 82
 [AV.os 0 0 (List.length l), AV.clo 84 [AV.pt 1 0 0, AV.pt 2 0 0]]
 [Row.arr 1 (List.map encI l), Row.box [AV.sl ks, AV.sl bs, goI p, goI q, AV.sl bl], Row.box [AV.clo g [AV.pt 3 0 0]],
 Row.box [AV.sl ks, AV.sl bs, goI p, goI q, AV.sl bl]]
 fun q => q = r) = (Wf Tryd.prog H 93 [AV.os 0 0 (List.length l), AV.clo 84 [AV.pt 1 0 0, AV.pt 2 0 0]]
 [Row.arr 1 (List.map encI l), Row.box [AV.sl ks, AV.sl bs, goI p, goI q, AV.sl bl],
 Row.box [AV.clo g [AV.pt 3 0 0]], Row.box [AV.sl ks, AV.sl bs, goI p, goI q, AV.sl bl]] =
 some
 (goI v,
 [Row.arr 1 (List.map encI l), Row.box [AV.sl ks, AV.sl bs, goI p, goI q, AV.sl bl],
 Row.box [AV.clo g [AV.pt 3 0 0]], Row.box [AV.sl ks, AV.sl bs, goI p, goI q, AV.sl bl]],
 []) ∧
 TB (v == -1)
 ((AV.os 0 0 (List.length l),
 [Row.arr 1 (List.map encI l), Row.box [AV.sl ks, AV.sl bs, goI p, goI q, AV.sl bl],
 Row.box [AV.clo g [AV.pt 3 0 0]], Row.box [AV.sl ks, AV.sl bs, goI p, goI q, AV.sl bl]],
 []) =
 r)
 (LoopTo Tryd.prog H (H 82) 4 (loopOf Tryd.prog 82 5)
 (mkS 42
 [(0, AV.os 0 0 (List.length l)), (1, AV.clo 84 [AV.pt 1 0 0, AV.pt 2 0 0]), (5, goI v),
 (6, goI (IntKind.wrap IntKind.i64 (v + 1)))]
 [Row.arr 1 (List.map encI l), Row.box [AV.sl ks, AV.sl bs, goI p, goI q, AV.sl bl],
 Row.box [AV.clo g [AV.pt 3 0 0]], Row.box [AV.sl ks, AV.sl bs, goI p, goI q, AV.sl bl]])
 (Ex.exit 0,
 mkS 42 [(0, AV.os 0 0 (List.length l)), (5, goI k)]
 [Row.arr 1 zs, Row.box [AV.sl ks, AV.sl bs, goI p, goI q, AV.sl bl], Row.box [AV.clo g [AV.pt 3 0 0]],
 Row.box [AV.sl ks, AV.sl bs, goI p, goI q, AV.sl bl]]) ∧
 (0 ≤ k ∧ k ≤ (↑(List.length l) : Int)) ∧
 (0 ≤ k ∧
 k ≤
 (↑(List.length
 (List.take (0 + Int.toNat k) zs ++ List.replicate (List.length l - Int.toNat k) [goI 0] ++
 List.drop (0 + Int.toNat k + (List.length l - Int.toNat k)) zs) -
 0) :
 Int)) ∧
 (AV.os 0 0 (Int.toNat k - 0),
 [Row.arr 1
 (List.take (0 + Int.toNat k) zs ++ List.replicate (List.length l - Int.toNat k) [goI 0] ++
 List.drop (0 + Int.toNat k + (List.length l - Int.toNat k)) zs),
 Row.box [AV.sl ks, AV.sl bs, goI p, goI q, AV.sl bl], Row.box [AV.clo g [AV.pt 3 0 0]],
 Row.box [AV.sl ks, AV.sl bs, goI p, goI q, AV.sl bl]],
 []) =
 r)) := by kernel_rfl
theorem tdA_5 (n : Nat) (i : Nat) (j : Nat) (xs : List (List AV)) (c : Int → Bool) (g : Nat) (ks : List (List AV)) (bs : List (List AV)) (p : Int) (q : Int) (bl : List (List AV)) (r : Ex × St) : (turnT Tryd.prog H (FD c 0) L0 false (H 82) 4 (loopOf Tryd.prog 82 5)
 (mkS 42 [(0, AV.os 0 0 n), (1, AV.clo 84 [AV.pt 1 0 0, AV.pt 2 0 0]), (5, goI (↑i : Int)), (6, goI (↑j : Int))]
 [Row.arr 1 xs, Row.box [AV.sl ks, AV.sl bs, goI p, goI q, AV.sl bl], Row.box [AV.clo g [AV.pt 3 0 0]],
 Row.box [AV.sl ks, AV.sl bs, goI p, goI q, AV.sl bl]])
 r) = (TB (decide ((↑j : Int) < (↑n : Int)))
 ((0 ≤ (↑j : Int) ∧ (↑j : Int) < (↑n : Int) ∧ 0 + j < List.length xs) ∧
 cutAt 1 0 xs[0 + j]? = some [goI (rdI (rowAt xs (0 + j)) 0)] ∧
 Wf Tryd.prog H 84 [goI (rdI (rowAt xs (0 + j)) 0), AV.pt 0 0 0, AV.pt 1 0 0]
 [Row.box [AV.sl ks, AV.sl bs, goI p, goI q, AV.sl bl], Row.box [AV.clo g [AV.pt 2 0 0]],
 Row.box [AV.sl ks, AV.sl bs, goI p, goI q, AV.sl bl]] =
 some
 (goB (U.ap c (rdI (rowAt xs (0 + j)) 0)),
 [Row.box [AV.sl ks, AV.sl bs, goI p, goI q, AV.sl bl], Row.box [AV.clo g [AV.pt 2 0 0]],
 Row.box [AV.sl ks, AV.sl bs, goI p, goI q, AV.sl bl]],
 []) ∧
 TB (!U.ap c (rdI (rowAt xs (0 + j)) 0))
 ((0 ≤ (↑i : Int) ∧ (↑i : Int) < (↑n : Int) ∧ 0 + i < List.length xs) ∧
 Option.map List.length xs[0 + i]? = some 1 ∧
 LoopTo Tryd.prog H (H 82) 4 (loopOf Tryd.prog 82 5)
 (mkS 42
 [(0, AV.os 0 0 n), (1, AV.clo 84 [AV.pt 1 0 0, AV.pt 2 0 0]),
 (5, goI (IntKind.wrap IntKind.i64 ((↑i : Int) + 1))),
 (6, goI (IntKind.wrap IntKind.i64 ((↑j : Int) + 1)))]
 [Row.arr 1 (List.set xs (0 + i) [goI (rdI (rowAt xs (0 + j)) 0)]),
 Row.box [AV.sl ks, AV.sl bs, goI p, goI q, AV.sl bl], Row.box [AV.clo g [AV.pt 3 0 0]],
 Row.box [AV.sl ks, AV.sl bs, goI p, goI q, AV.sl bl]])
 r)
 (LoopTo Tryd.prog H (H 82) 4 (loopOf Tryd.prog 82 5)
 (mkS 42
 [(0, AV.os 0 0 n), (1, AV.clo 84 [AV.pt 1 0 0, AV.pt 2 0 0]), (5, goI (↑i : Int)),
 (6, goI (IntKind.wrap IntKind.i64 ((↑j : Int) + 1)))]
 [Row.arr 1 xs, Row.box [AV.sl ks, AV.sl bs, goI p, goI q, AV.sl bl], Row.box [AV.clo g [AV.pt 3 0 0]],
 Row.box [AV.sl ks, AV.sl bs, goI p, goI q, AV.sl bl]])
 r))
 ((Ex.exit 0,
 mkS 42 [(0, AV.os 0 0 n), (5, goI (↑i : Int))]
 [Row.arr 1 xs, Row.box [AV.sl ks, AV.sl bs, goI p, goI q, AV.sl bl], Row.box [AV.clo g [AV.pt 3 0 0]],
 Row.box [AV.sl ks, AV.sl bs, goI p, goI q, AV.sl bl]]) =
 r)) := by kernel_rfl
theorem tiB (l : List Int) (c : Int → Bool) (ks : List (List AV)) (bs : List (List AV)) (p : Int) (q : Int) (bl : List (List AV)) (v : Int) (b : Bool) (r : AV × List Row × List Nat) : (runT Tryd.prog H (FD c 0) (LI v b) false 93 [AV.os 0 0 (List.length l), AV.clo 84 [AV.pt 1 0 0, AV.pt 2 0 0]]
 [Row.arr 1 (List.map encI l), Row.box [AV.sl ks, AV.sl bs, goI p, goI q, AV.sl bl], Row.box [AV.clo 65 []]] fun q =>
 q = r) = (TB b
 (LoopTo Tryd.prog H (H 93) 3 (loopOf Tryd.prog 93 2)
 (mkS 19
 [(0, AV.os 0 0 (List.length l)), (1, AV.clo 84 [AV.pt 1 0 0, AV.pt 2 0 0]), (7, goI (↑(List.length l) : Int)),
 (8, goI 0)]
 [Row.arr 1 (List.map encI l), Row.box [AV.sl ks, AV.sl bs, goI p, goI q, AV.sl bl], Row.box [AV.clo 65 []]])
 (Ex.ret,
 mkS 19 [(4, goI v)]
 [Row.arr 1 (List.map encI l), Row.box [AV.sl ks, AV.sl bs, goI p, goI q, AV.sl bl], Row.box [AV.clo 65 []]]) ∧
 (goI v, [Row.arr 1 (List.map encI l), Row.box [AV.sl ks, AV.sl bs, goI p, goI q, AV.sl bl], Row.box [AV.clo 65 []]],
 []) =
 r)
 (LoopTo Tryd.prog H (H 93) 3 (loopOf Tryd.prog 93 2)
 (mkS 19
 [(0, AV.os 0 0 (List.length l)), (1, AV.clo 84 [AV.pt 1 0 0, AV.pt 2 0 0]), (7, goI (↑(List.length l) : Int)),
 (8, goI 0)]
 [Row.arr 1 (List.map encI l), Row.box [AV.sl ks, AV.sl bs, goI p, goI q, AV.sl bl], Row.box [AV.clo 65 []]])
 (Ex.exit 0,
 mkS 19 []
 [Row.arr 1 (List.map encI l), Row.box [AV.sl ks, AV.sl bs, goI p, goI q, AV.sl bl], Row.box [AV.clo 65 []]]) ∧
 (goI (-1),
 [Row.arr 1 (List.map encI l), Row.box [AV.sl ks, AV.sl bs, goI p, goI q, AV.sl bl], Row.box [AV.clo 65 []]],
 []) =
 r)) := by kernel_rfl
theorem tiB_2 (l : List Int) (c : Int → Bool) (ks : List (List AV)) (bs : List (List AV)) (p : Int) (q : Int) (bl : List (List AV)) (k : Int) (i : Nat) (r : Ex × St) : (turnT Tryd.prog H (FD c 0) L0 false (H 93) 3 (loopOf Tryd.prog 93 2)
 (mkS 19 [(0, AV.os 0 0 (List.length l)), (1, AV.clo 84 [AV.pt 1 0 0, AV.pt 2 0 0]), (7, goI k), (8, goI (↑i : Int))]
 [Row.arr 1 (List.map encI l), Row.box [AV.sl ks, AV.sl bs, goI p, goI q, AV.sl bl], Row.box [AV.clo 65 []]])
 r) = (TB (decide ((↑i : Int) < k))
 ((0 ≤ (↑i : Int) ∧ (↑i : Int) < (↑(List.length l) : Int) ∧ 0 + i < List.length (List.map encI l)) ∧
 cutAt 1 0 (List.map encI l)[0 + i]? = some [goI (rdI (rowAt (List.map encI l) (0 + i)) 0)] ∧
 Wf Tryd.prog H 84 [goI (rdI (rowAt (List.map encI l) (0 + i)) 0), AV.pt 0 0 0, AV.pt 1 0 0]
 [Row.box [AV.sl ks, AV.sl bs, goI p, goI q, AV.sl bl], Row.box [AV.clo 65 []]] =
 some
 (goB (U.ap c (rdI (rowAt (List.map encI l) (0 + i)) 0)),
 [Row.box [AV.sl ks, AV.sl bs, goI p, goI q, AV.sl bl], Row.box [AV.clo 65 []]], []) ∧
 TB (U.ap c (rdI (rowAt (List.map encI l) (0 + i)) 0))
 ((Ex.ret,
 mkS 19 [(4, goI (↑i : Int))]
 [Row.arr 1 (List.map encI l), Row.box [AV.sl ks, AV.sl bs, goI p, goI q, AV.sl bl],
 Row.box [AV.clo 65 []]]) =
 r)
 (LoopTo Tryd.prog H (H 93) 3 (loopOf Tryd.prog 93 2)
 (mkS 19
 [(0, AV.os 0 0 (List.length l)), (1, AV.clo 84 [AV.pt 1 0 0, AV.pt 2 0 0]), (7, goI k),
 (8, goI (IntKind.wrap IntKind.i64 ((↑i : Int) + 1)))]
 [Row.arr 1 (List.map encI l), Row.box [AV.sl ks, AV.sl bs, goI p, goI q, AV.sl bl],
 Row.box [AV.clo 65 []]])
 r))
 ((Ex.exit 0,
 mkS 19 []
 [Row.arr 1 (List.map encI l), Row.box [AV.sl ks, AV.sl bs, goI p, goI q, AV.sl bl], Row.box [AV.clo 65 []]]) =
 r)) := by kernel_rfl
theorem tdB (l : List Int) (c : Int → Bool) (ks : List (List AV)) (bs : List (List AV)) (p : Int) (q : Int) (bl : List (List AV)) (v : Int) (k : Int) (zs : List (List AV)) (r : AV × List Row × List Nat) : (runT Tryd.prog H (FD c v) (LD (List.length l) k zs) false 82
 [AV.os 0 0 (List.length l), AV.clo 84 [AV.pt 1 0 0, AV.pt 2 0 0]]
 [Row.arr 1 (List.map encI l), Row.box [AV.sl ks, AV.sl bs, goI p, goI q, AV.sl bl], Row.box [AV.clo 65 []]] fun q =>
 q = r) = (Wf Tryd.prog H 93 [AV.os 0 0 (List.length l), AV.clo 84 [AV.pt 1 0 0, AV.pt 2 0 0]]
 [Row.arr 1 (List.map encI l), Row.box [AV.sl ks, AV.sl bs, goI p, goI q, AV.sl bl], Row.box [AV.clo 65 []]] =
 some
 (goI v,
 [Row.arr 1 (List.map encI l), Row.box [AV.sl ks, AV.sl bs, goI p, goI q, AV.sl bl], Row.box [AV.clo 65 []]],
 []) ∧
 TB (v == -1)
 ((AV.os 0 0 (List.length l),
 [Row.arr 1 (List.map encI l), Row.box [AV.sl ks, AV.sl bs, goI p, goI q, AV.sl bl], Row.box [AV.clo 65 []]],
 []) =
 r)
 (LoopTo Tryd.prog H (H 82) 3 (loopOf Tryd.prog 82 5)
 (mkS 42
 [(0, AV.os 0 0 (List.length l)), (1, AV.clo 84 [AV.pt 1 0 0, AV.pt 2 0 0]), (5, goI v),
 (6, goI (IntKind.wrap IntKind.i64 (v + 1)))]
 [Row.arr 1 (List.map encI l), Row.box [AV.sl ks, AV.sl bs, goI p, goI q, AV.sl bl], Row.box [AV.clo 65 []]])
 (Ex.exit 0,
 mkS 42 [(0, AV.os 0 0 (List.length l)), (5, goI k)]
 [Row.arr 1 zs, Row.box [AV.sl ks, AV.sl bs, goI p, goI q, AV.sl bl], Row.box [AV.clo 65 []]]) ∧
 (0 ≤ k ∧ k ≤ (↑(List.length l) : Int)) ∧
 (0 ≤ k ∧
 k ≤
 (↑(List.length
 (List.take (0 + Int.toNat k) zs ++ List.replicate (List.length l - Int.toNat k) [goI 0] ++
 List.drop (0 + Int.toNat k + (List.length l - Int.toNat k)) zs) -
 0) :
 Int)) ∧
 (AV.os 0 0 (Int.toNat k - 0),
 [Row.arr 1
 (List.take (0 + Int.toNat k) zs ++ List.replicate (List.length l - Int.toNat k) [goI 0] ++
 List.drop (0 + Int.toNat k + (List.length l - Int.toNat k)) zs),
 Row.box [AV.sl ks, AV.sl bs, goI p, goI q, AV.sl bl], Row.box [AV.clo 65 []]],
 []) =
 r)) := by kernel_rfl
theorem tdB_5 (n : Nat) (i : Nat) (j : Nat) (xs : List (List AV)) (c : Int → Bool) (ks : List (List AV)) (bs : List (List AV)) (p : Int) (q : Int) (bl : List (List AV)) (r : Ex × St) : (turnT Tryd.prog H (FD c 0) L0 false (H 82) 3 (loopOf Tryd.prog 82 5)
 (mkS 42 [(0, AV.os 0 0 n), (1, AV.clo 84 [AV.pt 1 0 0, AV.pt 2 0 0]), (5, goI (↑i : Int)), (6, goI (↑j : Int))]
 [Row.arr 1 xs, Row.box [AV.sl ks, AV.sl bs, goI p, goI q, AV.sl bl], Row.box [AV.clo 65 []]])
 r) = (TB (decide ((↑j : Int) < (↑n : Int)))
 ((0 ≤ (↑j : Int) ∧ (↑j : Int) < (↑n : Int) ∧ 0 + j < List.length xs) ∧
 cutAt 1 0 xs[0 + j]? = some [goI (rdI (rowAt xs (0 + j)) 0)] ∧
 Wf Tryd.prog H 84 [goI (rdI (rowAt xs (0 + j)) 0), AV.pt 0 0 0, AV.pt 1 0 0]
 [Row.box [AV.sl ks, AV.sl bs, goI p, goI q, AV.sl bl], Row.box [AV.clo 65 []]] =
 some
 (goB (U.ap c (rdI (rowAt xs (0 + j)) 0)),
 [Row.box [AV.sl ks, AV.sl bs, goI p, goI q, AV.sl bl], Row.box [AV.clo 65 []]], []) ∧
 TB (!U.ap c (rdI (rowAt xs (0 + j)) 0))
 ((0 ≤ (↑i : Int) ∧ (↑i : Int) < (↑n : Int) ∧ 0 + i < List.length xs) ∧
 Option.map List.length xs[0 + i]? = some 1 ∧
 LoopTo Tryd.prog H (H 82) 3 (loopOf Tryd.prog 82 5)
 (mkS 42
 [(0, AV.os 0 0 n), (1, AV.clo 84 [AV.pt 1 0 0, AV.pt 2 0 0]),
 (5, goI (IntKind.wrap IntKind.i64 ((↑i : Int) + 1))),
 (6, goI (IntKind.wrap IntKind.i64 ((↑j : Int) + 1)))]
 [Row.arr 1 (List.set xs (0 + i) [goI (rdI (rowAt xs (0 + j)) 0)]),
 Row.box [AV.sl ks, AV.sl bs, goI p, goI q, AV.sl bl], Row.box [AV.clo 65 []]])
 r)
 (LoopTo Tryd.prog H (H 82) 3 (loopOf Tryd.prog 82 5)
 (mkS 42
 [(0, AV.os 0 0 n), (1, AV.clo 84 [AV.pt 1 0 0, AV.pt 2 0 0]), (5, goI (↑i : Int)),
 (6, goI (IntKind.wrap IntKind.i64 ((↑j : Int) + 1)))]
 [Row.arr 1 xs, Row.box [AV.sl ks, AV.sl bs, goI p, goI q, AV.sl bl], Row.box [AV.clo 65 []]])
 r))
 ((Ex.exit 0,
 mkS 42 [(0, AV.os 0 0 n), (5, goI (↑i : Int))]
 [Row.arr 1 xs, Row.box [AV.sl ks, AV.sl bs, goI p, goI q, AV.sl bl], Row.box [AV.clo 65 []]]) =
 r)) := by kernel_rfl
theorem rowsOk_iff {s : Nat} {xs : List (List AV)} : rowsOk s xs = true ↔ ∀ r ∈ xs, r.length = s := by simp [rowsOk]
theorem firstOf_some (c : Int → Bool) (l : List Int) : ∀ (d i : Nat), i + d = l.length → (U.firstOf (fun j => c (U.nt l j)) d i = -1 ∧ (l.drop i).filter (fun m => !c m) = l.drop i) ∨
    ∃ v : Nat, U.firstOf (fun j => c (U.nt l j)) d i = v ∧ i ≤ v ∧ v < l.length ∧ (l.drop i).filter (fun m => !c m) = (l.drop i).take (v - i) ++ (l.drop (v + 1)).filter (fun m => !c m)
  | 0, i, hd => .inl ⟨rfl, by rw [List.drop_eq_nil_of_le (by omega)]; rfl⟩
  | d + 1, i, hd => by
    have hi : i < l.length := by omega
    have hcons : l.drop i = U.nt l i :: l.drop (i + 1) := drop_cons' l hi
    rcases Bool.eq_false_or_eq_true (c (U.nt l i)) with h | h
    · right
      refine ⟨i, if_pos h, Nat.le_refl _, hi, ?_⟩
      rw [hcons, List.filter_cons_of_neg (by rw [h]; simp), Nat.sub_self, List.take_zero, List.nil_append]
    · have e1 : U.firstOf (fun j => c (U.nt l j)) (d + 1) i = U.firstOf (fun j => c (U.nt l j)) d (i + 1) := if_neg (by simp only [h]; simp)
      have e2 : (l.drop i).filter (fun m => !c m) = U.nt l i :: (l.drop (i + 1)).filter (fun m => !c m) := by
        rw [hcons, List.filter_cons_of_pos (by rw [h]; rfl)]
      rw [e1, e2]
      rcases firstOf_some c l d (i + 1) (by omega) with ⟨h1, h2⟩ | ⟨v, h1, h2, h3, h4⟩
      · left; exact ⟨h1, by rw [h2, hcons]⟩
      · right
        refine ⟨v, h1, by omega, h3, ?_⟩
        rw [h4, hcons, show v - i = (v - (i + 1)) + 1 from by omega, List.take_succ_cons]; rfl
section
variable (g : Nat) (ks bs : List (List AV)) (p q : Int) (bl : List (List AV)) (c : Int → Bool) (l : List Int) (hl : l.length < 1000000)
  (hcall : ∀ m ∈ l, Wf Tryd.prog H 84 [goI m, .pt 0 0 0, .pt 1 0 0] [.box [.sl ks, .sl bs, goI p, goI q, .sl bl], .box [.clo g [.pt 2 0 0]], .box [.sl ks, .sl bs, goI p, goI q, .sl bl]] = some (goB (c m), [.box [.sl ks, .sl bs, goI p, goI q, .sl bl], .box [.clo g [.pt 2 0 0]], .box [.sl ks, .sl bs, goI p, goI q, .sl bl]], []))
include hl hcall
theorem loopiA : ∀ (d i : Nat), i + d = l.length →
    LoopTo Tryd.prog H (H 93) 4 (loopOf Tryd.prog 93 2) (mkS 19 [(0, .os 0 0 l.length), (1, .clo 84 [.pt 1 0 0, .pt 2 0 0]), (7, goI l.length), (8, goI i)] [.arr 1 (l.map encI), .box [.sl ks, .sl bs, goI p, goI q, .sl bl], .box [.clo g [.pt 3 0 0]], .box [.sl ks, .sl bs, goI p, goI q, .sl bl]])
      (if 0 ≤ U.firstOf (fun j => c (U.nt l j)) d i then (.ret, mkS 19 [(4, goI (U.firstOf (fun j => c (U.nt l j)) d i))] [.arr 1 (l.map encI), .box [.sl ks, .sl bs, goI p, goI q, .sl bl], .box [.clo g [.pt 3 0 0]], .box [.sl ks, .sl bs, goI p, goI q, .sl bl]]) else (.exit 0, mkS 19 [] [.arr 1 (l.map encI), .box [.sl ks, .sl bs, goI p, goI q, .sl bl], .box [.clo g [.pt 3 0 0]], .box [.sl ks, .sl bs, goI p, goI q, .sl bl]]))
  | 0, i, he => by
    refine turnK (tiA_2 l c g ks bs p q bl l.length i _) ?_
    rw [decide_eq_false (by omega)]
    exact rfl
  | d + 1, i, he => by
    have hi : i < l.length := by omega
    have ih := loopiA d (i + 1) (by omega)
    have w := hcall (U.nt l i) (getD_mem hi)
    refine turnK (tiA_2 l c g ks bs p q bl l.length i _) ?_
    rw [decide_eq_true (by omega), wrapS hi hl, Nat.zero_add, rowI hi, getI hi, List.length_map]
    simp only [rdI, List.getD_cons_zero, int_goI]
    refine ⟨⟨by omega, by omega, by omega⟩, by trivial, w, ?_⟩
    show TB (c (U.nt l i)) _ _
    cases h : c (U.nt l i) with
    | true =>
      have e : U.firstOf (fun j => c (U.nt l j)) (d + 1) i = (i : Int) := if_pos h
      rw [e, if_pos (by omega)]
      exact rfl
    | false =>
      have e : U.firstOf (fun j => c (U.nt l j)) (d + 1) i = U.firstOf (fun j => c (U.nt l j)) d (i + 1) := if_neg (by simp only [h]; simp)
      rw [e]
      exact ih
theorem wiA : Wf Tryd.prog H 93 [.os 0 0 l.length, .clo 84 [.pt 1 0 0, .pt 2 0 0]] [.arr 1 (l.map encI), .box [.sl ks, .sl bs, goI p, goI q, .sl bl], .box [.clo g [.pt 3 0 0]], .box [.sl ks, .sl bs, goI p, goI q, .sl bl]] = some (goI (U.firstOf (fun j => c (U.nt l j)) l.length 0), [.arr 1 (l.map encI), .box [.sl ks, .sl bs, goI p, goI q, .sl bl], .box [.clo g [.pt 3 0 0]], .box [.sl ks, .sl bs, goI p, goI q, .sl bl]], []) := by
  have h := loopiA g ks bs p q bl c l hl hcall l.length 0 (by omega)
  refine runK (tiA l c g ks bs p q bl (U.firstOf (fun j => c (U.nt l j)) l.length 0) (decide (0 ≤ U.firstOf (fun j => c (U.nt l j)) l.length 0)) _) ?_
  by_cases hb : 0 ≤ U.firstOf (fun j => c (U.nt l j)) l.length 0
  · rw [if_pos hb] at h
    rw [decide_eq_true hb]; exact ⟨h, rfl⟩
  · rw [if_neg hb] at h
    rw [decide_eq_false hb]
    have := firstOf_neg (fun j => c (U.nt l j)) l.length 0
    rw [show U.firstOf (fun j => c (U.nt l j)) l.length 0 = -1 from by omega]
    exact ⟨h, rfl⟩
theorem loopdA : ∀ (d j : Nat) (K : List Int) (g0 : List AV) (G0 : List (List AV)), j + d = l.length → K.length + 1 + G0.length = j → rowsOk 1 (g0 :: G0) = true →
    ∃ G', (K ++ (l.drop j).filter (fun m => !c m)).length + G'.length = l.length ∧
      LoopTo Tryd.prog H (H 82) 4 (loopOf Tryd.prog 82 5) (mkS 42 [(0, .os 0 0 l.length), (1, .clo 84 [.pt 1 0 0, .pt 2 0 0]), (5, goI K.length), (6, goI j)] [.arr 1 (K.map encI ++ (g0 :: G0) ++ (l.drop j).map encI), .box [.sl ks, .sl bs, goI p, goI q, .sl bl], .box [.clo g [.pt 3 0 0]], .box [.sl ks, .sl bs, goI p, goI q, .sl bl]])
        (.exit 0, mkS 42 [(0, .os 0 0 l.length), (5, goI (K ++ (l.drop j).filter (fun m => !c m)).length)] [.arr 1 ((K ++ (l.drop j).filter (fun m => !c m)).map encI ++ G'), .box [.sl ks, .sl bs, goI p, goI q, .sl bl], .box [.clo g [.pt 3 0 0]], .box [.sl ks, .sl bs, goI p, goI q, .sl bl]])
  | 0, j, K, g0, G0, he, hK, hG => by
    have hj : j = l.length := by omega
    subst hj
    refine ⟨g0 :: G0, by simp; omega, turnK (tdA_5 l.length K.length l.length _ c g ks bs p q bl _) ?_⟩
    rw [decide_eq_false (by omega), List.drop_length, List.filter_nil, List.append_nil, List.map_nil, List.append_nil]
    exact rfl
  | d + 1, j, K, g0, G0, he, hK, hG => by
    have hj : j < l.length := by omega
    have hcons : l.drop j = U.nt l j :: l.drop (j + 1) := drop_cons' l hj
    have w := hcall (U.nt l j) (getD_mem hj)
    generalize hm : U.nt l j = m at hcons w
    have hlenA : (K.map encI ++ (g0 :: G0)).length = j := by simp; omega
    have hget : (K.map encI ++ (g0 :: G0) ++ (l.drop j).map encI)[j]? = some (encI m) := by
      rw [List.getElem?_append_right (by omega), hlenA, hcons]; simp
    have hrow : rowAt (K.map encI ++ (g0 :: G0) ++ (l.drop j).map encI) j = encI m := by
      unfold rowAt; rw [List.getD_eq_getElem?_getD, hget]; rfl
    have hget2 : (K.map encI ++ (g0 :: G0) ++ (l.drop j).map encI)[K.length]? = some g0 := by
      simp [List.getElem?_append]
    have hg : g0.length = 1 := rowsOk_iff.1 hG g0 (by simp)
    have hwr2 : IntKind.i64.wrap ((K.length : Int) + 1) = (((K ++ [m]).length : Nat) : Int) := by
      rw [List.length_append, List.length_singleton, wrap64] <;> omega
    have hlenx : (K.map encI ++ (g0 :: G0) ++ (l.drop j).map encI).length = l.length := by simp; omega
    cases hs : c m with
    | true =>
      have hf : (l.drop j).filter (fun m => !c m) = (l.drop (j + 1)).filter (fun m => !c m) := by
        rw [hcons, List.filter_cons_of_neg (by simp [hs])]
      have hG2 : rowsOk 1 (g0 :: (G0 ++ [encI m])) = true := by
        rw [rowsOk_iff] at hG ⊢
        intro r hr
        simp only [List.mem_cons, List.mem_append, List.mem_singleton, List.not_mem_nil, or_false] at hr
        rcases hr with rfl | hr | rfl
        · exact hG _ (by simp)
        · exact hG _ (by simp [hr])
        · rfl
      obtain ⟨G', h2, ih⟩ := loopdA d (j + 1) K g0 (G0 ++ [encI m]) (by omega) (by simp; omega) hG2
      rw [hf]
      refine ⟨G', h2, turnK (tdA_5 l.length K.length j _ c g ks bs p q bl _) ?_⟩
      have ex : K.map encI ++ (g0 :: (G0 ++ [encI m])) ++ (l.drop (j + 1)).map encI = K.map encI ++ (g0 :: G0) ++ (l.drop j).map encI := by rw [hcons]; simp
      rw [ex] at ih
      rw [decide_eq_true (by omega), wrapS hj hl, Nat.zero_add, Nat.zero_add, hrow, hget, hlenx]
      simp only [encI, rdI, List.getD_cons_zero, int_goI]
      rw [show U.ap c m = true from hs]
      rw [hs] at w
      exact ⟨⟨by omega, by omega, by omega⟩, by trivial, w, ih⟩
    | false =>
      have hf : (l.drop j).filter (fun m => !c m) = m :: (l.drop (j + 1)).filter (fun m => !c m) := by
        rw [hcons, List.filter_cons_of_pos (by simp [hs])]
      have key : ∃ g' G0', (K ++ [m]).length + 1 + G0'.length = j + 1 ∧ rowsOk 1 (g' :: G0') = true ∧ (K ++ [m]).map encI ++ (g' :: G0') ++ (l.drop (j + 1)).map encI = (K.map encI ++ (g0 :: G0) ++ (l.drop j).map encI).set K.length (encI m) := by
        have es : (K.map encI ++ (g0 :: G0) ++ (l.drop j).map encI).set K.length (encI m) = K.map encI ++ encI m :: (G0 ++ (l.drop j).map encI) := by
          rw [List.append_assoc, List.set_append, if_neg (by simp : ¬ K.length < (K.map encI).length)]; simp
        cases hGc : G0 ++ [encI m] with
        | nil => simp at hGc
        | cons g' G0' =>
          refine ⟨g', G0', ?_, ?_, ?_⟩
          · have := congrArg List.length hGc; simp at this ⊢; omega
          · rw [← hGc, rowsOk_iff]
            rw [rowsOk_iff] at hG
            intro r hr
            rcases List.mem_append.1 hr with hr | hr
            · exact hG _ (by simp [hr])
            · have : r = encI m := by simpa using hr
              rw [this]; rfl
          · rw [es, ← hGc, hcons]; simp
      obtain ⟨g', G0', k1, k2, k3⟩ := key
      obtain ⟨G', h2, ih⟩ := loopdA d (j + 1) (K ++ [m]) g' G0' (by omega) k1 k2
      rw [hf]
      have ea : K ++ m :: (l.drop (j + 1)).filter (fun m => !c m) = K ++ [m] ++ (l.drop (j + 1)).filter (fun m => !c m) := by simp
      rw [ea]
      refine ⟨G', h2, turnK (tdA_5 l.length K.length j _ c g ks bs p q bl _) ?_⟩
      rw [k3] at ih
      rw [decide_eq_true (by omega), wrapS hj hl, Nat.zero_add, Nat.zero_add, hrow, hget, hget2, hlenx, hwr2]
      simp only [encI, rdI, List.getD_cons_zero, int_goI] at ih ⊢
      rw [show U.ap c m = false from hs]
      rw [hs] at w
      exact ⟨⟨by omega, by omega, by omega⟩, by trivial, w, ⟨by omega, by omega, by omega⟩, by rw [Option.map_some, hg], ih⟩
/-- slices.DeleteFunc. -/
theorem wdA : ∃ ys, Wf Tryd.prog H 82 [.os 0 0 l.length, .clo 84 [.pt 1 0 0, .pt 2 0 0]] [.arr 1 (l.map encI), .box [.sl ks, .sl bs, goI p, goI q, .sl bl], .box [.clo g [.pt 3 0 0]], .box [.sl ks, .sl bs, goI p, goI q, .sl bl]] = some (.os 0 0 (l.filter (fun m => !c m)).length, [.arr 1 ((l.filter (fun m => !c m)).map encI ++ ys), .box [.sl ks, .sl bs, goI p, goI q, .sl bl], .box [.clo g [.pt 3 0 0]], .box [.sl ks, .sl bs, goI p, goI q, .sl bl]], []) := by
  have h32 := wiA g ks bs p q bl c l hl hcall
  rcases firstOf_some c l l.length 0 (by omega) with ⟨h1, h2⟩ | ⟨v, h1, h2, h3, h4⟩
  · rw [List.drop_zero] at h2
    refine ⟨[], runK (tdA l c g ks bs p q bl (-1) 0 [] _) ?_⟩
    rw [h1] at h32
    rw [h2, List.append_nil]
    exact ⟨h32, rfl⟩
  · rw [h1] at h32
    rw [List.drop_zero, Nat.sub_zero] at h4
    have hcons : l.drop v = U.nt l v :: l.drop (v + 1) := drop_cons' l h3
    obtain ⟨G', g2, g3⟩ := loopdA g ks bs p q bl c l hl hcall (l.length - (v + 1)) (v + 1) (l.take v) (encI (U.nt l v)) [] (by omega) (by simp; omega) (by rw [rowsOk_iff]; simp [encI])
    have ex : (l.take v).map encI ++ [encI (U.nt l v)] ++ (l.drop (v + 1)).map encI = l.map encI := by
      rw [List.append_assoc, List.singleton_append, ← List.map_cons, ← hcons, ← List.map_append, List.take_append_drop]
    rw [ex, ← h4] at g3
    rw [← h4] at g2
    generalize hk : l.filter (fun m => !c m) = k at g2 g3
    have hlv : (l.take v).length = v := by simp; omega
    rw [hlv] at g3
    refine ⟨?ys, ?p2⟩
    case p2 =>
      refine runK (tdA l c g ks bs p q bl v k.length (k.map encI ++ G') _) ?_
      have hne : ((v : Int) == -1) = false := beq_eq_false_iff_ne.2 (by omega)
      have ek : 0 + k.length = (k.map encI).length := by simp
      rw [wrapS h3 hl, hne, Int.toNat_natCast, ek, List.take_left, List.append_assoc, Nat.sub_zero]
      refine ⟨h32, g3, ⟨by omega, by omega⟩, ⟨by omega, by simp <;> omega⟩, ?_⟩
      exact rfl
end
section
variable (ks bs : List (List AV)) (p q : Int) (bl : List (List AV)) (c : Int → Bool) (l : List Int) (hl : l.length < 1000000)
  (hcall : ∀ m ∈ l, Wf Tryd.prog H 84 [goI m, .pt 0 0 0, .pt 1 0 0] [.box [.sl ks, .sl bs, goI p, goI q, .sl bl], .box [.clo 65 []]] = some (goB (c m), [.box [.sl ks, .sl bs, goI p, goI q, .sl bl], .box [.clo 65 []]], []))
include hl hcall
theorem loopiB : ∀ (d i : Nat), i + d = l.length →
    LoopTo Tryd.prog H (H 93) 3 (loopOf Tryd.prog 93 2) (mkS 19 [(0, .os 0 0 l.length), (1, .clo 84 [.pt 1 0 0, .pt 2 0 0]), (7, goI l.length), (8, goI i)] [.arr 1 (l.map encI), .box [.sl ks, .sl bs, goI p, goI q, .sl bl], .box [.clo 65 []]])
      (if 0 ≤ U.firstOf (fun j => c (U.nt l j)) d i then (.ret, mkS 19 [(4, goI (U.firstOf (fun j => c (U.nt l j)) d i))] [.arr 1 (l.map encI), .box [.sl ks, .sl bs, goI p, goI q, .sl bl], .box [.clo 65 []]]) else (.exit 0, mkS 19 [] [.arr 1 (l.map encI), .box [.sl ks, .sl bs, goI p, goI q, .sl bl], .box [.clo 65 []]]))
  | 0, i, he => by
    refine turnK (tiB_2 l c ks bs p q bl l.length i _) ?_
    rw [decide_eq_false (by omega)]
    exact rfl
  | d + 1, i, he => by
    have hi : i < l.length := by omega
    have ih := loopiB d (i + 1) (by omega)
    have w := hcall (U.nt l i) (getD_mem hi)
    refine turnK (tiB_2 l c ks bs p q bl l.length i _) ?_
    rw [decide_eq_true (by omega), wrapS hi hl, Nat.zero_add, rowI hi, getI hi, List.length_map]
    simp only [rdI, List.getD_cons_zero, int_goI]
    refine ⟨⟨by omega, by omega, by omega⟩, by trivial, w, ?_⟩
    show TB (c (U.nt l i)) _ _
    cases h : c (U.nt l i) with
    | true =>
      have e : U.firstOf (fun j => c (U.nt l j)) (d + 1) i = (i : Int) := if_pos h
      rw [e, if_pos (by omega)]
      exact rfl
    | false =>
      have e : U.firstOf (fun j => c (U.nt l j)) (d + 1) i = U.firstOf (fun j => c (U.nt l j)) d (i + 1) := if_neg (by simp only [h]; simp)
      rw [e]
      exact ih
theorem wiB : Wf Tryd.prog H 93 [.os 0 0 l.length, .clo 84 [.pt 1 0 0, .pt 2 0 0]] [.arr 1 (l.map encI), .box [.sl ks, .sl bs, goI p, goI q, .sl bl], .box [.clo 65 []]] = some (goI (U.firstOf (fun j => c (U.nt l j)) l.length 0), [.arr 1 (l.map encI), .box [.sl ks, .sl bs, goI p, goI q, .sl bl], .box [.clo 65 []]], []) := by
  have h := loopiB ks bs p q bl c l hl hcall l.length 0 (by omega)
  refine runK (tiB l c ks bs p q bl (U.firstOf (fun j => c (U.nt l j)) l.length 0) (decide (0 ≤ U.firstOf (fun j => c (U.nt l j)) l.length 0)) _) ?_
  by_cases hb : 0 ≤ U.firstOf (fun j => c (U.nt l j)) l.length 0
  · rw [if_pos hb] at h
    rw [decide_eq_true hb]; exact ⟨h, rfl⟩
  · rw [if_neg hb] at h
    rw [decide_eq_false hb]
    have := firstOf_neg (fun j => c (U.nt l j)) l.length 0
    rw [show U.firstOf (fun j => c (U.nt l j)) l.length 0 = -1 from by omega]
    exact ⟨h, rfl⟩
theorem loopdB : ∀ (d j : Nat) (K : List Int) (g0 : List AV) (G0 : List (List AV)), j + d = l.length → K.length + 1 + G0.length = j → rowsOk 1 (g0 :: G0) = true →
    ∃ G', (K ++ (l.drop j).filter (fun m => !c m)).length + G'.length = l.length ∧
      LoopTo Tryd.prog H (H 82) 3 (loopOf Tryd.prog 82 5) (mkS 42 [(0, .os 0 0 l.length), (1, .clo 84 [.pt 1 0 0, .pt 2 0 0]), (5, goI K.length), (6, goI j)] [.arr 1 (K.map encI ++ (g0 :: G0) ++ (l.drop j).map encI), .box [.sl ks, .sl bs, goI p, goI q, .sl bl], .box [.clo 65 []]])
        (.exit 0, mkS 42 [(0, .os 0 0 l.length), (5, goI (K ++ (l.drop j).filter (fun m => !c m)).length)] [.arr 1 ((K ++ (l.drop j).filter (fun m => !c m)).map encI ++ G'), .box [.sl ks, .sl bs, goI p, goI q, .sl bl], .box [.clo 65 []]])
  | 0, j, K, g0, G0, he, hK, hG => by
    have hj : j = l.length := by omega
    subst hj
    refine ⟨g0 :: G0, by simp; omega, turnK (tdB_5 l.length K.length l.length _ c ks bs p q bl _) ?_⟩
    rw [decide_eq_false (by omega), List.drop_length, List.filter_nil, List.append_nil, List.map_nil, List.append_nil]
    exact rfl
  | d + 1, j, K, g0, G0, he, hK, hG => by
    have hj : j < l.length := by omega
    have hcons : l.drop j = U.nt l j :: l.drop (j + 1) := drop_cons' l hj
    have w := hcall (U.nt l j) (getD_mem hj)
    generalize hm : U.nt l j = m at hcons w
    have hlenA : (K.map encI ++ (g0 :: G0)).length = j := by simp; omega
    have hget : (K.map encI ++ (g0 :: G0) ++ (l.drop j).map encI)[j]? = some (encI m) := by
      rw [List.getElem?_append_right (by omega), hlenA, hcons]; simp
    have hrow : rowAt (K.map encI ++ (g0 :: G0) ++ (l.drop j).map encI) j = encI m := by
      unfold rowAt; rw [List.getD_eq_getElem?_getD, hget]; rfl
    have hget2 : (K.map encI ++ (g0 :: G0) ++ (l.drop j).map encI)[K.length]? = some g0 := by
      simp [List.getElem?_append]
    have hg : g0.length = 1 := rowsOk_iff.1 hG g0 (by simp)
    have hwr2 : IntKind.i64.wrap ((K.length : Int) + 1) = (((K ++ [m]).length : Nat) : Int) := by
      rw [List.length_append, List.length_singleton, wrap64] <;> omega
    have hlenx : (K.map encI ++ (g0 :: G0) ++ (l.drop j).map encI).length = l.length := by simp; omega
    cases hs : c m with
    | true =>
      have hf : (l.drop j).filter (fun m => !c m) = (l.drop (j + 1)).filter (fun m => !c m) := by
        rw [hcons, List.filter_cons_of_neg (by simp [hs])]
      have hG2 : rowsOk 1 (g0 :: (G0 ++ [encI m])) = true := by
        rw [rowsOk_iff] at hG ⊢
        intro r hr
        simp only [List.mem_cons, List.mem_append, List.mem_singleton, List.not_mem_nil, or_false] at hr
        rcases hr with rfl | hr | rfl
        · exact hG _ (by simp)
        · exact hG _ (by simp [hr])
        · rfl
      obtain ⟨G', h2, ih⟩ := loopdB d (j + 1) K g0 (G0 ++ [encI m]) (by omega) (by simp; omega) hG2
      rw [hf]
      refine ⟨G', h2, turnK (tdB_5 l.length K.length j _ c ks bs p q bl _) ?_⟩
      have ex : K.map encI ++ (g0 :: (G0 ++ [encI m])) ++ (l.drop (j + 1)).map encI = K.map encI ++ (g0 :: G0) ++ (l.drop j).map encI := by rw [hcons]; simp
      rw [ex] at ih
      rw [decide_eq_true (by omega), wrapS hj hl, Nat.zero_add, Nat.zero_add, hrow, hget, hlenx]
      simp only [encI, rdI, List.getD_cons_zero, int_goI]
      rw [show U.ap c m = true from hs]
      rw [hs] at w
      exact ⟨⟨by omega, by omega, by omega⟩, by trivial, w, ih⟩
    | false =>
      have hf : (l.drop j).filter (fun m => !c m) = m :: (l.drop (j + 1)).filter (fun m => !c m) := by
        rw [hcons, List.filter_cons_of_pos (by simp [hs])]
      have key : ∃ g' G0', (K ++ [m]).length + 1 + G0'.length = j + 1 ∧ rowsOk 1 (g' :: G0') = true ∧ (K ++ [m]).map encI ++ (g' :: G0') ++ (l.drop (j + 1)).map encI = (K.map encI ++ (g0 :: G0) ++ (l.drop j).map encI).set K.length (encI m) := by
        have es : (K.map encI ++ (g0 :: G0) ++ (l.drop j).map encI).set K.length (encI m) = K.map encI ++ encI m :: (G0 ++ (l.drop j).map encI) := by
          rw [List.append_assoc, List.set_append, if_neg (by simp : ¬ K.length < (K.map encI).length)]; simp
        cases hGc : G0 ++ [encI m] with
        | nil => simp at hGc
        | cons g' G0' =>
          refine ⟨g', G0', ?_, ?_, ?_⟩
          · have := congrArg List.length hGc; simp at this ⊢; omega
          · rw [← hGc, rowsOk_iff]
            rw [rowsOk_iff] at hG
            intro r hr
            rcases List.mem_append.1 hr with hr | hr
            · exact hG _ (by simp [hr])
            · have : r = encI m := by simpa using hr
              rw [this]; rfl
          · rw [es, ← hGc, hcons]; simp
      obtain ⟨g', G0', k1, k2, k3⟩ := key
      obtain ⟨G', h2, ih⟩ := loopdB d (j + 1) (K ++ [m]) g' G0' (by omega) k1 k2
      rw [hf]
      have ea : K ++ m :: (l.drop (j + 1)).filter (fun m => !c m) = K ++ [m] ++ (l.drop (j + 1)).filter (fun m => !c m) := by simp
      rw [ea]
      refine ⟨G', h2, turnK (tdB_5 l.length K.length j _ c ks bs p q bl _) ?_⟩
      rw [k3] at ih
      rw [decide_eq_true (by omega), wrapS hj hl, Nat.zero_add, Nat.zero_add, hrow, hget, hget2, hlenx, hwr2]
      simp only [encI, rdI, List.getD_cons_zero, int_goI] at ih ⊢
      rw [show U.ap c m = false from hs]
      rw [hs] at w
      exact ⟨⟨by omega, by omega, by omega⟩, by trivial, w, ⟨by omega, by omega, by omega⟩, by rw [Option.map_some, hg], ih⟩
/-- slices.DeleteFunc. -/
theorem wdB : ∃ ys, Wf Tryd.prog H 82 [.os 0 0 l.length, .clo 84 [.pt 1 0 0, .pt 2 0 0]] [.arr 1 (l.map encI), .box [.sl ks, .sl bs, goI p, goI q, .sl bl], .box [.clo 65 []]] = some (.os 0 0 (l.filter (fun m => !c m)).length, [.arr 1 ((l.filter (fun m => !c m)).map encI ++ ys), .box [.sl ks, .sl bs, goI p, goI q, .sl bl], .box [.clo 65 []]], []) := by
  have h32 := wiB ks bs p q bl c l hl hcall
  rcases firstOf_some c l l.length 0 (by omega) with ⟨h1, h2⟩ | ⟨v, h1, h2, h3, h4⟩
  · rw [List.drop_zero] at h2
    refine ⟨[], runK (tdB l c ks bs p q bl (-1) 0 [] _) ?_⟩
    rw [h1] at h32
    rw [h2, List.append_nil]
    exact ⟨h32, rfl⟩
  · rw [h1] at h32
    rw [List.drop_zero, Nat.sub_zero] at h4
    have hcons : l.drop v = U.nt l v :: l.drop (v + 1) := drop_cons' l h3
    obtain ⟨G', g2, g3⟩ := loopdB ks bs p q bl c l hl hcall (l.length - (v + 1)) (v + 1) (l.take v) (encI (U.nt l v)) [] (by omega) (by simp; omega) (by rw [rowsOk_iff]; simp [encI])
    have ex : (l.take v).map encI ++ [encI (U.nt l v)] ++ (l.drop (v + 1)).map encI = l.map encI := by
      rw [List.append_assoc, List.singleton_append, ← List.map_cons, ← hcons, ← List.map_append, List.take_append_drop]
    rw [ex, ← h4] at g3
    rw [← h4] at g2
    generalize hk : l.filter (fun m => !c m) = k at g2 g3
    have hlv : (l.take v).length = v := by simp; omega
    rw [hlv] at g3
    refine ⟨?ys, ?p2⟩
    case p2 =>
      refine runK (tdB l c ks bs p q bl v k.length (k.map encI ++ G') _) ?_
      have hne : ((v : Int) == -1) = false := beq_eq_false_iff_ne.2 (by omega)
      have ek : 0 + k.length = (k.map encI).length := by simp
      rw [wrapS h3 hl, hne, Int.toNat_natCast, ek, List.take_left, List.append_assoc, Nat.sub_zero]
      refine ⟨h32, g3, ⟨by omega, by omega⟩, ⟨by omega, by simp <;> omega⟩, ?_⟩
      exact rfl
end
end Go.Proofs.YtdnekkkpngnmkaaDoor.E
