/- Functions, by what the evaluator asks; the theorems t.. were printed by show.txt, a program of this session. -/
import Derived.Test.Ytjgnnjoejlijjaa05i
set_option linter.unusedVariables false
set_option linter.unusedSimpArgs false
set_option maxRecDepth 100000
namespace Go.Proofs.Ytjgnnjoejlijjaa.E
open Go
namespace U
/-- Does an edge fall away? -/
def cut (bl : List XB) (cnt : List Int) (e : XE) : Bool := decide (nt cnt e.dst.toNat < 2) || decide (((nextAt bl e.src).length : Int) < 2)
def cutR (bl cnt : List (List AV)) (s d : Int) : Bool := cut (bl.map decB) (decI cnt) ⟨s, d⟩
end U
def S4 (l : List XE) (cnt : List Int) (ks bs : List (List AV)) (p q : Int) (bl : List XB) : List Row := [.arr 2 (l.map encE), .box [.os 3 0 cnt.length], .box [.sl ks, .sl bs, goI p, goI q, .sl (bl.map encB)], .arr 1 (cnt.map encI)]
def F73 (v : Int) : CallT := fun f args sto => match f, args, sto with
 | 50, [.agg [.v (.int _ s), .v (.int _ d)], .pt 0 0 0, .pt 1 0 0], [_, .box [_, _, _, _, .sl bl], .arr _ cnt] => .is (goB (U.cutR bl cnt s d), sto, [])
 | 73, _, _ => .is (goI v, sto, [])
 | _, _, _ => .no
def L73 (v : Int) (b : Bool) : Nat → St → LT := fun id st => .by b (.is .ret (mkS 19 [(4, goI v)] st.sto)) (.is (.exit 0) (mkS 19 [] st.sto))
def S5 (xs : List (List AV)) (cnt : List Int) (ks bs : List (List AV)) (p q : Int) (bl : List XB) (r : List Row) : List Row := [.arr 2 xs, .box [.os 3 0 cnt.length], .box [.sl ks, .sl bs, goI p, goI q, .sl (bl.map encB)], .arr 1 (cnt.map encI)] ++ r
def L49 (n : Nat) (k : Int) (zs : List (List AV)) : Nat → St → LT := fun id st => .is (.exit 0) (mkS 42 [(0, .os 0 0 n), (5, goI k)] (st.sto.set 0 (.arr 2 zs)))

theorem t50 (s : Int) (d : Int) (cnt : List Int) (ks : List (List AV)) (bs : List (List AV)) (p : Int) (q : Int) (bl : List XB) (r : AV × List Row × List Nat) : (runT Try.prog H FN L0 false 50 [AV.agg [goI s, goI d], AV.pt 0 0 0, AV.pt 1 0 0]
  [Row.box [AV.os 2 0 (List.length cnt)], Row.box [AV.sl ks, AV.sl bs, goI p, goI q, AV.sl (List.map encB bl)],
    Row.arr 1 (List.map encI cnt)]
  fun q => q = r) = ((0 ≤ d ∧ d < (↑(List.length cnt) : Int) ∧ 0 + Int.toNat d < List.length (List.map encI cnt)) ∧
  cutAt 1 0 (List.map encI cnt)[0 + Int.toNat d]? = some [goI (rdI (rowAt (List.map encI cnt) (0 + Int.toNat d)) 0)] ∧
    TB (decide (rdI (rowAt (List.map encI cnt) (0 + Int.toNat d)) 0 < 2))
      ((goB true,
          [Row.box [AV.os 2 0 (List.length cnt)], Row.box [AV.sl ks, AV.sl bs, goI p, goI q, AV.sl (List.map encB bl)],
            Row.arr 1 (List.map encI cnt)],
          []) =
        r)
      (Wf Try.prog H 15 [AV.agg [AV.sl ks, AV.sl bs, goI p, goI q, AV.sl (List.map encB bl)], goI s] [] =
          some (AV.sl (U.nextR (List.map encB bl) s), [], []) ∧
        (goB (decide ((↑(List.length (U.nextR (List.map encB bl) s)) : Int) < 2)),
            [Row.box [AV.os 2 0 (List.length cnt)],
              Row.box [AV.sl ks, AV.sl bs, goI p, goI q, AV.sl (List.map encB bl)], Row.arr 1 (List.map encI cnt)],
            []) =
          r)) := by kernel_rfl
theorem t73 (l : List XE) (cnt : List Int) (ks : List (List AV)) (bs : List (List AV)) (p : Int) (q : Int) (bl : List XB) (v : Int) (b : Bool) (r : AV × List Row × List Nat) : (runT Try.prog H (F73 0) (L73 v b) false 73 [AV.os 0 0 (List.length l), AV.clo 50 [AV.pt 1 0 0, AV.pt 2 0 0]]
  (S4 l cnt ks bs p q bl) fun q => q = r) = (TB b
  (LoopTo Try.prog H (H 73) 4 (loopOf Try.prog 73 2)
      (mkS 19
        [(0, AV.os 0 0 (List.length l)), (1, AV.clo 50 [AV.pt 1 0 0, AV.pt 2 0 0]), (7, goI (↑(List.length l) : Int)),
          (8, goI 0)]
        [Row.arr 2 (List.map encE l), Row.box [AV.os 3 0 (List.length cnt)],
          Row.box [AV.sl ks, AV.sl bs, goI p, goI q, AV.sl (List.map encB bl)], Row.arr 1 (List.map encI cnt)])
      (Ex.ret,
        mkS 19 [(4, goI v)]
          [Row.arr 2 (List.map encE l), Row.box [AV.os 3 0 (List.length cnt)],
            Row.box [AV.sl ks, AV.sl bs, goI p, goI q, AV.sl (List.map encB bl)], Row.arr 1 (List.map encI cnt)]) ∧
    (goI v,
        [Row.arr 2 (List.map encE l), Row.box [AV.os 3 0 (List.length cnt)],
          Row.box [AV.sl ks, AV.sl bs, goI p, goI q, AV.sl (List.map encB bl)], Row.arr 1 (List.map encI cnt)],
        []) =
      r)
  (LoopTo Try.prog H (H 73) 4 (loopOf Try.prog 73 2)
      (mkS 19
        [(0, AV.os 0 0 (List.length l)), (1, AV.clo 50 [AV.pt 1 0 0, AV.pt 2 0 0]), (7, goI (↑(List.length l) : Int)),
          (8, goI 0)]
        [Row.arr 2 (List.map encE l), Row.box [AV.os 3 0 (List.length cnt)],
          Row.box [AV.sl ks, AV.sl bs, goI p, goI q, AV.sl (List.map encB bl)], Row.arr 1 (List.map encI cnt)])
      (Ex.exit 0,
        mkS 19 []
          [Row.arr 2 (List.map encE l), Row.box [AV.os 3 0 (List.length cnt)],
            Row.box [AV.sl ks, AV.sl bs, goI p, goI q, AV.sl (List.map encB bl)], Row.arr 1 (List.map encI cnt)]) ∧
    (goI (-1),
        [Row.arr 2 (List.map encE l), Row.box [AV.os 3 0 (List.length cnt)],
          Row.box [AV.sl ks, AV.sl bs, goI p, goI q, AV.sl (List.map encB bl)], Row.arr 1 (List.map encI cnt)],
        []) =
      r)) := by kernel_rfl
theorem t73_2 (l : List XE) (cnt : List Int) (ks : List (List AV)) (bs : List (List AV)) (p : Int) (q : Int) (bl : List XB) (k : Int) (i : Nat) (r : Ex × St) : (turnT Try.prog H (F73 0) L0 false (H 73) 4 (loopOf Try.prog 73 2)
  (mkS 19 [(0, AV.os 0 0 (List.length l)), (1, AV.clo 50 [AV.pt 1 0 0, AV.pt 2 0 0]), (7, goI k), (8, goI (↑i : Int))]
    (S4 l cnt ks bs p q bl))
  r) = (TB (decide ((↑i : Int) < k))
  ((0 ≤ (↑i : Int) ∧ (↑i : Int) < (↑(List.length l) : Int) ∧ 0 + i < List.length (List.map encE l)) ∧
    cutAt 2 0 (List.map encE l)[0 + i]? =
        some [goI (rdI (rowAt (List.map encE l) (0 + i)) 0), goI (rdI (rowAt (List.map encE l) (0 + i)) 1)] ∧
      Wf Try.prog H 50
            [AV.agg [goI (rdI (rowAt (List.map encE l) (0 + i)) 0), goI (rdI (rowAt (List.map encE l) (0 + i)) 1)],
              AV.pt 0 0 0, AV.pt 1 0 0]
            [Row.box [AV.os 2 0 (List.length cnt)],
              Row.box [AV.sl ks, AV.sl bs, goI p, goI q, AV.sl (List.map encB bl)], Row.arr 1 (List.map encI cnt)] =
          some
            (goB
                (U.cutR (List.map encB bl) (List.map encI cnt) (rdI (rowAt (List.map encE l) (0 + i)) 0)
                  (rdI (rowAt (List.map encE l) (0 + i)) 1)),
              [Row.box [AV.os 2 0 (List.length cnt)],
                Row.box [AV.sl ks, AV.sl bs, goI p, goI q, AV.sl (List.map encB bl)], Row.arr 1 (List.map encI cnt)],
              []) ∧
        TB
          (U.cutR (List.map encB bl) (List.map encI cnt) (rdI (rowAt (List.map encE l) (0 + i)) 0)
            (rdI (rowAt (List.map encE l) (0 + i)) 1))
          ((Ex.ret,
              mkS 19 [(4, goI (↑i : Int))]
                [Row.arr 2 (List.map encE l), Row.box [AV.os 3 0 (List.length cnt)],
                  Row.box [AV.sl ks, AV.sl bs, goI p, goI q, AV.sl (List.map encB bl)],
                  Row.arr 1 (List.map encI cnt)]) =
            r)
          (LoopTo Try.prog H (H 73) 4 (loopOf Try.prog 73 2)
            (mkS 19
              [(0, AV.os 0 0 (List.length l)), (1, AV.clo 50 [AV.pt 1 0 0, AV.pt 2 0 0]), (7, goI k),
                (8, goI (IntKind.wrap IntKind.i64 ((↑i : Int) + 1)))]
              [Row.arr 2 (List.map encE l), Row.box [AV.os 3 0 (List.length cnt)],
                Row.box [AV.sl ks, AV.sl bs, goI p, goI q, AV.sl (List.map encB bl)], Row.arr 1 (List.map encI cnt)])
            r))
  ((Ex.exit 0,
      mkS 19 []
        [Row.arr 2 (List.map encE l), Row.box [AV.os 3 0 (List.length cnt)],
          Row.box [AV.sl ks, AV.sl bs, goI p, goI q, AV.sl (List.map encB bl)], Row.arr 1 (List.map encI cnt)]) =
    r)) := by kernel_rfl
theorem t49 (l : List XE) (cnt : List Int) (ks : List (List AV)) (bs : List (List AV)) (p : Int) (q : Int) (bl : List XB) (v : Int) (k : Int) (zs : List (List AV)) (r : AV × List Row × List Nat) : (runT Try.prog H (F73 v) (L49 (List.length l) k zs) false 49
  [AV.os 0 0 (List.length l), AV.clo 50 [AV.pt 1 0 0, AV.pt 2 0 0]] (S4 l cnt ks bs p q bl) fun q => q = r) = (Wf Try.prog H 73 [AV.os 0 0 (List.length l), AV.clo 50 [AV.pt 1 0 0, AV.pt 2 0 0]]
      [Row.arr 2 (List.map encE l), Row.box [AV.os 3 0 (List.length cnt)],
        Row.box [AV.sl ks, AV.sl bs, goI p, goI q, AV.sl (List.map encB bl)], Row.arr 1 (List.map encI cnt)] =
    some
      (goI v,
        [Row.arr 2 (List.map encE l), Row.box [AV.os 3 0 (List.length cnt)],
          Row.box [AV.sl ks, AV.sl bs, goI p, goI q, AV.sl (List.map encB bl)], Row.arr 1 (List.map encI cnt)],
        []) ∧
  TB (v == -1)
    ((AV.os 0 0 (List.length l),
        [Row.arr 2 (List.map encE l), Row.box [AV.os 3 0 (List.length cnt)],
          Row.box [AV.sl ks, AV.sl bs, goI p, goI q, AV.sl (List.map encB bl)], Row.arr 1 (List.map encI cnt)],
        []) =
      r)
    (LoopTo Try.prog H (H 49) 4 (loopOf Try.prog 49 5)
        (mkS 42
          [(0, AV.os 0 0 (List.length l)), (1, AV.clo 50 [AV.pt 1 0 0, AV.pt 2 0 0]), (5, goI v),
            (6, goI (IntKind.wrap IntKind.i64 (v + 1)))]
          [Row.arr 2 (List.map encE l), Row.box [AV.os 3 0 (List.length cnt)],
            Row.box [AV.sl ks, AV.sl bs, goI p, goI q, AV.sl (List.map encB bl)], Row.arr 1 (List.map encI cnt),
            Row.dead])
        (Ex.exit 0,
          mkS 42 [(0, AV.os 0 0 (List.length l)), (5, goI k)]
            [Row.arr 2 zs, Row.box [AV.os 3 0 (List.length cnt)],
              Row.box [AV.sl ks, AV.sl bs, goI p, goI q, AV.sl (List.map encB bl)], Row.arr 1 (List.map encI cnt),
              Row.dead]) ∧
      (0 ≤ k ∧ k ≤ (↑(List.length l) : Int)) ∧
        (0 ≤ k ∧
            k ≤
              (↑(List.length
                      (List.take (0 + Int.toNat k) zs ++ List.replicate (List.length l - Int.toNat k) [goI 0, goI 0] ++
                        List.drop (0 + Int.toNat k + (List.length l - Int.toNat k)) zs) -
                    0) :
                Int)) ∧
          (AV.os 0 0 (Int.toNat k - 0),
              [Row.arr 2
                  (List.take (0 + Int.toNat k) zs ++ List.replicate (List.length l - Int.toNat k) [goI 0, goI 0] ++
                    List.drop (0 + Int.toNat k + (List.length l - Int.toNat k)) zs),
                Row.box [AV.os 3 0 (List.length cnt)],
                Row.box [AV.sl ks, AV.sl bs, goI p, goI q, AV.sl (List.map encB bl)], Row.arr 1 (List.map encI cnt)],
              []) =
            r)) := by kernel_rfl
theorem t49_5 (n : Nat) (i : Nat) (j : Nat) (xs : List (List AV)) (cnt : List Int) (ks : List (List AV)) (bs : List (List AV)) (p : Int) (q : Int) (bl : List XB) (r : Ex × St) : (turnT Try.prog H (F73 0) L0 false (H 49) 4 (loopOf Try.prog 49 5)
  (mkS 42 [(0, AV.os 0 0 n), (1, AV.clo 50 [AV.pt 1 0 0, AV.pt 2 0 0]), (5, goI (↑i : Int)), (6, goI (↑j : Int))]
    (S5 xs cnt ks bs p q bl [Row.dead]))
  r) = (TB (decide ((↑j : Int) < (↑n : Int)))
  ((0 ≤ (↑j : Int) ∧ (↑j : Int) < (↑n : Int) ∧ 0 + j < List.length xs) ∧
    cutAt 2 0 xs[0 + j]? = some [goI (rdI (rowAt xs (0 + j)) 0), goI (rdI (rowAt xs (0 + j)) 1)] ∧
      Wf Try.prog H 50
            [AV.agg [goI (rdI (rowAt xs (0 + j)) 0), goI (rdI (rowAt xs (0 + j)) 1)], AV.pt 0 0 0, AV.pt 1 0 0]
            [Row.box [AV.os 2 0 (List.length cnt)],
              Row.box [AV.sl ks, AV.sl bs, goI p, goI q, AV.sl (List.map encB bl)], Row.arr 1 (List.map encI cnt)] =
          some
            (goB (U.cutR (List.map encB bl) (List.map encI cnt) (rdI (rowAt xs (0 + j)) 0) (rdI (rowAt xs (0 + j)) 1)),
              [Row.box [AV.os 2 0 (List.length cnt)],
                Row.box [AV.sl ks, AV.sl bs, goI p, goI q, AV.sl (List.map encB bl)], Row.arr 1 (List.map encI cnt)],
              []) ∧
        TB (!U.cutR (List.map encB bl) (List.map encI cnt) (rdI (rowAt xs (0 + j)) 0) (rdI (rowAt xs (0 + j)) 1))
          ((0 ≤ (↑i : Int) ∧ (↑i : Int) < (↑n : Int) ∧ 0 + i < List.length xs) ∧
            Option.map List.length xs[0 + i]? = some 2 ∧
              LoopTo Try.prog H (H 49) 4 (loopOf Try.prog 49 5)
                (mkS 42
                  [(0, AV.os 0 0 n), (1, AV.clo 50 [AV.pt 1 0 0, AV.pt 2 0 0]),
                    (5, goI (IntKind.wrap IntKind.i64 ((↑i : Int) + 1))),
                    (6, goI (IntKind.wrap IntKind.i64 ((↑j : Int) + 1)))]
                  [Row.arr 2 (List.set xs (0 + i) [goI (rdI (rowAt xs (0 + j)) 0), goI (rdI (rowAt xs (0 + j)) 1)]),
                    Row.box [AV.os 3 0 (List.length cnt)],
                    Row.box [AV.sl ks, AV.sl bs, goI p, goI q, AV.sl (List.map encB bl)], Row.arr 1 (List.map encI cnt),
                    Row.dead])
                r)
          (LoopTo Try.prog H (H 49) 4 (loopOf Try.prog 49 5)
            (mkS 42
              [(0, AV.os 0 0 n), (1, AV.clo 50 [AV.pt 1 0 0, AV.pt 2 0 0]), (5, goI (↑i : Int)),
                (6, goI (IntKind.wrap IntKind.i64 ((↑j : Int) + 1)))]
              [Row.arr 2 xs, Row.box [AV.os 3 0 (List.length cnt)],
                Row.box [AV.sl ks, AV.sl bs, goI p, goI q, AV.sl (List.map encB bl)], Row.arr 1 (List.map encI cnt),
                Row.dead])
            r))
  ((Ex.exit 0,
      mkS 42 [(0, AV.os 0 0 n), (5, goI (↑i : Int))]
        [Row.arr 2 xs, Row.box [AV.os 3 0 (List.length cnt)],
          Row.box [AV.sl ks, AV.sl bs, goI p, goI q, AV.sl (List.map encB bl)], Row.arr 1 (List.map encI cnt),
          Row.dead]) =
    r)) := by kernel_rfl
theorem rowsOk_iff {s : Nat} {xs : List (List AV)} : rowsOk s xs = true ↔ ∀ r ∈ xs, r.length = s := by simp [rowsOk]
theorem cutR_map (bl : List XB) (cnt : List Int) (s d : Int) : U.cutR (bl.map encB) (cnt.map encI) s d = U.cut bl cnt ⟨s, d⟩ := by unfold U.cutR; rw [decBs_map, decI_map]
section
variable (cnt : List Int) (ks bs : List (List AV)) (p q : Int) (bl : List XB)
theorem wf50 (hc : CodeOk bl) (e : XE) (hd : 0 ≤ e.dst ∧ e.dst < cnt.length) : Wf Try.prog H 50 [.agg [goI e.src, goI e.dst], .pt 0 0 0, .pt 1 0 0] [.box [.os 2 0 cnt.length], .box [.sl ks, .sl bs, goI p, goI q, .sl (bl.map encB)], .arr 1 (cnt.map encI)] =
    some (goB (U.cut bl cnt e), [.box [.os 2 0 cnt.length], .box [.sl ks, .sl bs, goI p, goI q, .sl (bl.map encB)], .arr 1 (cnt.map encI)], []) := by
  have hn : e.dst.toNat < cnt.length := by omega
  refine runK (t50 e.src e.dst cnt ks bs p q bl _) ?_
  rw [Nat.zero_add, rowI hn, getI hn, nextR_map, List.length_map, List.length_map]
  simp only [rdI, List.getD_cons_zero, int_goI]
  refine ⟨⟨by omega, by omega, by omega⟩, by trivial, ?_⟩
  unfold U.cut
  cases decide (U.nt cnt e.dst.toNat < 2) with
  | true => exact rfl
  | false => exact ⟨wf15 ks bs p q bl e.src hc, rfl⟩
variable (hc : CodeOk bl) (l : List XE) (hl : l.length < 1000000) (hd : ∀ e ∈ l, 0 ≤ e.dst ∧ e.dst < cnt.length)
include hc hl hd
theorem loop73_2 : ∀ (d i : Nat), i + d = l.length →
    LoopTo Try.prog H (H 73) 4 (loopOf Try.prog 73 2) (mkS 19 [(0, .os 0 0 l.length), (1, .clo 50 [.pt 1 0 0, .pt 2 0 0]), (7, goI l.length), (8, goI i)] (S4 l cnt ks bs p q bl))
      (if 0 ≤ U.firstOf (fun j => U.cut bl cnt (U.edg l j)) d i then (.ret, mkS 19 [(4, goI (U.firstOf (fun j => U.cut bl cnt (U.edg l j)) d i))] (S4 l cnt ks bs p q bl)) else (.exit 0, mkS 19 [] (S4 l cnt ks bs p q bl)))
  | 0, i, he => by
    refine turnK (t73_2 l cnt ks bs p q bl l.length i _) ?_
    rw [decide_eq_false (by omega)]
    exact rfl
  | d + 1, i, he => by
    have hi : i < l.length := by omega
    have ih := loop73_2 d (i + 1) (by omega)
    have w := wf50 cnt ks bs p q bl hc (U.edg l i) (hd _ (edg_mem hi))
    refine turnK (t73_2 l cnt ks bs p q bl l.length i _) ?_
    rw [decide_eq_true (by omega), wrapS hi hl, Nat.zero_add, rowE hi, getE hi, List.length_map]
    simp only [encE, rdI, List.getD_cons_zero, List.getD_cons_succ, int_goI, cutR_map]
    refine ⟨⟨by omega, by omega, by omega⟩, by trivial, w, ?_⟩
    show TB (U.cut bl cnt (U.edg l i)) _ _
    cases h : U.cut bl cnt (U.edg l i) with
    | true =>
      have e : U.firstOf (fun j => U.cut bl cnt (U.edg l j)) (d + 1) i = (i : Int) := if_pos h
      rw [e, if_pos (by omega)]
      exact rfl
    | false =>
      have e : U.firstOf (fun j => U.cut bl cnt (U.edg l j)) (d + 1) i = U.firstOf (fun j => U.cut bl cnt (U.edg l j)) d (i + 1) := if_neg (by simp only [h]; simp)
      rw [e]
      exact ih
theorem wf73 : Wf Try.prog H 73 [.os 0 0 l.length, .clo 50 [.pt 1 0 0, .pt 2 0 0]] (S4 l cnt ks bs p q bl) = some (goI (U.firstOf (fun j => U.cut bl cnt (U.edg l j)) l.length 0), S4 l cnt ks bs p q bl, []) := by
  have h := loop73_2 cnt ks bs p q bl hc l hl hd l.length 0 (by omega)
  refine runK (t73 l cnt ks bs p q bl (U.firstOf (fun j => U.cut bl cnt (U.edg l j)) l.length 0) (decide (0 ≤ U.firstOf (fun j => U.cut bl cnt (U.edg l j)) l.length 0)) _) ?_
  by_cases hb : 0 ≤ U.firstOf (fun j => U.cut bl cnt (U.edg l j)) l.length 0
  · rw [if_pos hb] at h
    rw [decide_eq_true hb]; exact ⟨h, rfl⟩
  · rw [if_neg hb] at h
    rw [decide_eq_false hb]
    have := firstOf_neg (fun j => U.cut bl cnt (U.edg l j)) l.length 0
    rw [show U.firstOf (fun j => U.cut bl cnt (U.edg l j)) l.length 0 = -1 from by omega]
    exact ⟨h, rfl⟩
theorem loop49_5 : ∀ (d j : Nat) (K : List XE) (g : List AV) (G0 : List (List AV)), j + d = l.length → K.length + 1 + G0.length = j → rowsOk 2 (g :: G0) = true →
    ∃ G', (K ++ (l.drop j).filter (fun m => !U.cut bl cnt m)).length + G'.length = l.length ∧
      LoopTo Try.prog H (H 49) 4 (loopOf Try.prog 49 5) (mkS 42 [(0, .os 0 0 l.length), (1, .clo 50 [.pt 1 0 0, .pt 2 0 0]), (5, goI K.length), (6, goI j)] (S5 (K.map encE ++ (g :: G0) ++ (l.drop j).map encE) cnt ks bs p q bl [.dead]))
        (.exit 0, mkS 42 [(0, .os 0 0 l.length), (5, goI (K ++ (l.drop j).filter (fun m => !U.cut bl cnt m)).length)] (S5 ((K ++ (l.drop j).filter (fun m => !U.cut bl cnt m)).map encE ++ G') cnt ks bs p q bl [.dead]))
  | 0, j, K, g, G0, he, hK, hG => by
    have hj : j = l.length := by omega
    subst hj
    refine ⟨g :: G0, by simp; omega, turnK (t49_5 l.length K.length l.length _ cnt ks bs p q bl _) ?_⟩
    rw [decide_eq_false (by omega), List.drop_length, List.filter_nil, List.append_nil, List.map_nil, List.append_nil]
    exact rfl
  | d + 1, j, K, g, G0, he, hK, hG => by
    have hj : j < l.length := by omega
    have hcons : l.drop j = U.edg l j :: l.drop (j + 1) := drop_cons' l hj
    have hm0 := hd _ (edg_mem hj)
    generalize hm : U.edg l j = m at hcons hm0
    have hlenA : (K.map encE ++ (g :: G0)).length = j := by simp; omega
    have hget : (K.map encE ++ (g :: G0) ++ (l.drop j).map encE)[j]? = some (encE m) := by
      rw [List.getElem?_append_right (by omega), hlenA, hcons]; simp
    have hrow : rowAt (K.map encE ++ (g :: G0) ++ (l.drop j).map encE) j = encE m := by
      unfold rowAt; rw [List.getD_eq_getElem?_getD, hget]; rfl
    have hget2 : (K.map encE ++ (g :: G0) ++ (l.drop j).map encE)[K.length]? = some g := by
      simp [List.getElem?_append]
    have hg : g.length = 2 := rowsOk_iff.1 hG g (by simp)
    have hwr2 : IntKind.i64.wrap ((K.length : Int) + 1) = (((K ++ [m]).length : Nat) : Int) := by
      rw [List.length_append, List.length_singleton, wrap64] <;> omega
    have hlenx : (K.map encE ++ (g :: G0) ++ (l.drop j).map encE).length = l.length := by simp; omega
    have w := wf50 cnt ks bs p q bl hc m hm0
    cases hs : U.cut bl cnt m with
    | true =>
      have hf : (l.drop j).filter (fun m => !U.cut bl cnt m) = (l.drop (j + 1)).filter (fun m => !U.cut bl cnt m) := by
        rw [hcons, List.filter_cons_of_neg (by simp [hs])]
      have hG2 : rowsOk 2 (g :: (G0 ++ [encE m])) = true := by
        rw [rowsOk_iff] at hG ⊢
        intro r hr
        simp only [List.mem_cons, List.mem_append, List.mem_singleton, List.not_mem_nil, or_false] at hr
        rcases hr with rfl | hr | rfl
        · exact hG _ (by simp)
        · exact hG _ (by simp [hr])
        · rfl
      obtain ⟨G', h2, ih⟩ := loop49_5 d (j + 1) K g (G0 ++ [encE m]) (by omega) (by simp; omega) hG2
      rw [hf]
      refine ⟨G', h2, turnK (t49_5 l.length K.length j _ cnt ks bs p q bl _) ?_⟩
      have ex : K.map encE ++ (g :: (G0 ++ [encE m])) ++ (l.drop (j + 1)).map encE = K.map encE ++ (g :: G0) ++ (l.drop j).map encE := by rw [hcons]; simp
      rw [ex] at ih
      rw [decide_eq_true (by omega), wrapS hj hl, Nat.zero_add, Nat.zero_add, hrow, hget, hlenx]
      simp only [encE, rdI, List.getD_cons_zero, List.getD_cons_succ, int_goI, cutR_map]
      rw [show U.cut bl cnt ⟨m.src, m.dst⟩ = true from hs]
      rw [hs] at w
      exact ⟨⟨by omega, by omega, by omega⟩, by trivial, w, ih⟩
    | false =>
      have hf : (l.drop j).filter (fun m => !U.cut bl cnt m) = m :: (l.drop (j + 1)).filter (fun m => !U.cut bl cnt m) := by
        rw [hcons, List.filter_cons_of_pos (by simp [hs])]
      have key : ∃ g' G0', (K ++ [m]).length + 1 + G0'.length = j + 1 ∧ rowsOk 2 (g' :: G0') = true ∧ (K ++ [m]).map encE ++ (g' :: G0') ++ (l.drop (j + 1)).map encE = (K.map encE ++ (g :: G0) ++ (l.drop j).map encE).set K.length (encE m) := by
        have es : (K.map encE ++ (g :: G0) ++ (l.drop j).map encE).set K.length (encE m) = K.map encE ++ encE m :: (G0 ++ (l.drop j).map encE) := by
          rw [List.append_assoc, List.set_append, if_neg (by simp : ¬ K.length < (K.map encE).length)]; simp
        cases hGc : G0 ++ [encE m] with
        | nil => simp at hGc
        | cons g' G0' =>
          refine ⟨g', G0', ?_, ?_, ?_⟩
          · have := congrArg List.length hGc; simp at this ⊢; omega
          · rw [← hGc, rowsOk_iff]
            rw [rowsOk_iff] at hG
            intro r hr
            rcases List.mem_append.1 hr with hr | hr
            · exact hG _ (by simp [hr])
            · have : r = encE m := by simpa using hr
              rw [this]; rfl
          · rw [es, ← hGc, hcons]; simp
      obtain ⟨g', G0', k1, k2, k3⟩ := key
      obtain ⟨G', h2, ih⟩ := loop49_5 d (j + 1) (K ++ [m]) g' G0' (by omega) k1 k2
      rw [hf]
      have ea : K ++ m :: (l.drop (j + 1)).filter (fun m => !U.cut bl cnt m) = K ++ [m] ++ (l.drop (j + 1)).filter (fun m => !U.cut bl cnt m) := by simp
      rw [ea]
      refine ⟨G', h2, turnK (t49_5 l.length K.length j _ cnt ks bs p q bl _) ?_⟩
      rw [k3] at ih
      rw [decide_eq_true (by omega), wrapS hj hl, Nat.zero_add, Nat.zero_add, hrow, hget, hget2, hlenx, hwr2]
      simp only [encE, rdI, List.getD_cons_zero, List.getD_cons_succ, int_goI, cutR_map]
      rw [show U.cut bl cnt ⟨m.src, m.dst⟩ = false from hs]
      rw [hs] at w
      exact ⟨⟨by omega, by omega, by omega⟩, by trivial, w, ⟨by omega, by omega, by omega⟩, by rw [Option.map_some, hg], ih⟩
omit hl hd hc in
theorem firstOf_some : ∀ (d i : Nat), i + d = l.length → (U.firstOf (fun j => U.cut bl cnt (U.edg l j)) d i = -1 ∧ (l.drop i).filter (fun m => !U.cut bl cnt m) = l.drop i) ∨
    ∃ v : Nat, U.firstOf (fun j => U.cut bl cnt (U.edg l j)) d i = v ∧ i ≤ v ∧ v < l.length ∧ (l.drop i).filter (fun m => !U.cut bl cnt m) = (l.drop i).take (v - i) ++ (l.drop (v + 1)).filter (fun m => !U.cut bl cnt m)
  | 0, i, hd => .inl ⟨rfl, by rw [List.drop_eq_nil_of_le (by omega)]; rfl⟩
  | d + 1, i, hd => by
    have hi : i < l.length := by omega
    have hcons : l.drop i = U.edg l i :: l.drop (i + 1) := drop_cons' l hi
    rcases Bool.eq_false_or_eq_true (U.cut bl cnt (U.edg l i)) with h | h
    · right
      refine ⟨i, if_pos h, Nat.le_refl _, hi, ?_⟩
      rw [hcons, List.filter_cons_of_neg (by rw [h]; simp), Nat.sub_self, List.take_zero, List.nil_append]
    · have e1 : U.firstOf (fun j => U.cut bl cnt (U.edg l j)) (d + 1) i = U.firstOf (fun j => U.cut bl cnt (U.edg l j)) d (i + 1) := if_neg (by simp only [h]; simp)
      have e2 : (l.drop i).filter (fun m => !U.cut bl cnt m) = U.edg l i :: (l.drop (i + 1)).filter (fun m => !U.cut bl cnt m) := by
        rw [hcons, List.filter_cons_of_pos (by rw [h]; rfl)]
      rw [e1, e2]
      rcases firstOf_some d (i + 1) (by omega) with ⟨h1, h2⟩ | ⟨v, h1, h2, h3, h4⟩
      · left; exact ⟨h1, by rw [h2, hcons]⟩
      · right
        refine ⟨v, h1, by omega, h3, ?_⟩
        rw [h4, hcons, show v - i = (v - (i + 1)) + 1 from by omega, List.take_succ_cons]; rfl
/-- slices.DeleteFunc. -/
theorem wf49 : ∃ ys, Wf Try.prog H 49 [.os 0 0 l.length, .clo 50 [.pt 1 0 0, .pt 2 0 0]] (S4 l cnt ks bs p q bl) = some (.os 0 0 (l.filter (fun m => !U.cut bl cnt m)).length, S5 ((l.filter (fun m => !U.cut bl cnt m)).map encE ++ ys) cnt ks bs p q bl [], []) := by
  have h32 := wf73 cnt ks bs p q bl hc l hl hd
  rcases firstOf_some cnt bl l l.length 0 (by omega) with ⟨h1, h2⟩ | ⟨v, h1, h2, h3, h4⟩
  · rw [List.drop_zero] at h2
    refine ⟨[], runK (t49 l cnt ks bs p q bl (-1) 0 [] _) ?_⟩
    rw [h1] at h32
    rw [h2, List.append_nil]
    exact ⟨h32, rfl⟩
  · rw [h1] at h32
    rw [List.drop_zero, Nat.sub_zero] at h4
    have hcons : l.drop v = U.edg l v :: l.drop (v + 1) := drop_cons' l h3
    obtain ⟨G', g2, g3⟩ := loop49_5 cnt ks bs p q bl hc l hl hd (l.length - (v + 1)) (v + 1) (l.take v) (encE (U.edg l v)) [] (by omega) (by simp; omega) (by rw [rowsOk_iff]; simp [encE])
    have ex : (l.take v).map encE ++ [encE (U.edg l v)] ++ (l.drop (v + 1)).map encE = l.map encE := by
      rw [List.append_assoc, List.singleton_append, ← List.map_cons, ← hcons, ← List.map_append, List.take_append_drop]
    rw [ex, ← h4] at g3
    rw [← h4] at g2
    generalize hk : l.filter (fun m => !U.cut bl cnt m) = k at g2 g3
    have hlv : (l.take v).length = v := by simp; omega
    rw [hlv] at g3
    refine ⟨?ys, ?p2⟩
    case p2 =>
      refine runK (t49 l cnt ks bs p q bl v k.length (k.map encE ++ G') _) ?_
      have hne : ((v : Int) == -1) = false := beq_eq_false_iff_ne.2 (by omega)
      have ek : 0 + k.length = (k.map encE).length := by simp
      rw [wrapS h3 hl, hne, Int.toNat_natCast, ek, List.take_left, List.append_assoc, Nat.sub_zero]
      refine ⟨h32, g3, ⟨by omega, by omega⟩, ⟨by omega, by simp <;> omega⟩, ?_⟩
      exact rfl
end
end Go.Proofs.Ytjgnnjoejlijjaa.E
