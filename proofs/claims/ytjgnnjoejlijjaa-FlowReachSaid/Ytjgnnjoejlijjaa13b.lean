/- Functions, by what the evaluator asks; the theorems t.. were printed by show.txt, a program of this session. -/
import Derived.Test.Ytjgnnjoejlijjaa13a
import Derived.Test.Ytjgnnjoejlijjaa05k
set_option linter.unusedVariables false
set_option linter.unusedSimpArgs false
set_option maxRecDepth 100000
namespace Go.Proofs.Ytjgnnjoejlijjaa.E
open Go
namespace U
/-- How often each block is led to, by these edges too. -/
def tally : List XE → List Int → List Int
  | [], c => c
  | e :: r, c => tally r (c.set e.dst.toNat (nt c e.dst.toNat + 1))
/-- Critical edges. -/
def crit (bl : List XB) : List XE := (edges bl).filter fun e => !cut bl (tally (edges bl) (List.replicate bl.length 0)) e
/-- A block's last instruction leads elsewhere. -/
def lead (code : List XI) (fr to : Int) : List XI :=
  code.set (code.length - 1) (if (ins code (code.length - 1)).n = fr then { ins code (code.length - 1) with n := to } else { ins code (code.length - 1) with m := to })
def leadR (code : List (List AV)) (fr to : Int) : List (List AV) := (lead (code.map decIn) fr to).map encIn
end U
def F26 (k : List XE) (ys : List (List AV)) : CallT := fun f args sto => match f, args with
 | 20, [.agg [_, _, _, _, .sl bl]] => .is (.os 0 0 (U.edgesR bl).length, [.arr 2 ((U.edgesR bl).map encE)], [])
 | 49, _ => .is (.os 0 0 k.length, sto.set 0 (.arr 2 (k.map encE ++ ys)), [])
 | _, _ => .no
def L26 (l : List XE) (cnt : List Int) : Nat → St → LT := fun id st => .is (.exit 0) (mkS 30 [(1, .pt 0 0 0), (3, .pt 1 0 0), (4, .os 3 0 l.length)] ((st.sto.set 1 (.box [.os 2 0 cnt.length])).set 2 (.arr 1 (cnt.map encI))))
def F52 (rows : List (List AV)) : CallT := fun f args sto => match f, args with
 | 74, [.sl l] => .is (.os 0 0 l.length, [.arr 7 l], [])
 | _, _ => .no
def F27 (k : List XE) (ys : List (List AV)) : CallT := fun f args sto => match f, args with
 | 26, _ => .is (.os 0 0 k.length, [.arr 2 (k.map encE ++ ys)], [])
 | 51, [.sl l] => .is (.os 0 0 l.length, [.arr 1 l], [])
 | 52, [.agg [.sl c], .v (.int _ u), .v (.int _ v)] => .is (.agg [.os 0 0 c.length], [.arr 7 (U.leadR c u v)], [])
 | _, _ => .no
def L27 (n : Nat) (g : List XB) (ks bs : List (List AV)) (p q : Int) : Nat → St → LT := fun id st => .is (.exit 0) (mkS 56 [(1, .pt 0 0 0), (2, .pt 1 0 0)] [.box [.sl ks, .sl bs, goI p, goI q, .os 2 0 g.length], st.sto.getD 1 .dead, .arr 1 (g.map encB), .dead])
set_option maxHeartbeats 4000000

theorem t26 (ks : List (List AV)) (bs : List (List AV)) (p : Int) (q : Int) (bl : List XB) (cnt : List Int) (k : List XE) (ys : List (List AV)) (r : AV × List Row × List Nat) : (runT Try.prog H (F26 k ys) (L26 (U.edgesR (List.map encB bl)) cnt) false 26
  [AV.agg [AV.sl ks, AV.sl bs, goI p, goI q, AV.sl (List.map encB bl)]] [] fun q => q = r) = ((0 ≤ (↑(List.length (List.map encB bl)) : Int) ∧
    (↑(List.length (List.map encB bl)) : Int) ≤ (↑(List.length (List.map encB bl)) : Int) ∧
      (↑(List.length (List.map encB bl)) : Int) ≤ (↑1000000 : Int)) ∧
  Wf Try.prog H 20 [AV.agg [AV.sl ks, AV.sl bs, goI p, goI q, AV.sl (List.map encB bl)]] [] =
      some
        (AV.os 0 0 (List.length (U.edgesR (List.map encB bl))),
          [Row.arr 2 (List.map encE (U.edgesR (List.map encB bl)))], []) ∧
    LoopTo Try.prog H (H 26) 0 (loopOf Try.prog 26 4)
        (mkS 30
          [(1, AV.pt 0 0 0), (3, AV.pt 1 0 0), (4, AV.os 3 0 (List.length (U.edgesR (List.map encB bl)))),
            (13, AV.os 3 0 (List.length (U.edgesR (List.map encB bl)))),
            (14, goI (↑(List.length (U.edgesR (List.map encB bl))) : Int)), (15, goI 0)]
          [Row.box [AV.sl ks, AV.sl bs, goI p, goI q, AV.sl (List.map encB bl)],
            Row.box [AV.os 2 0 (List.length (List.replicate (List.length (List.map encB bl)) [goI 0]))],
            Row.arr 1 (List.replicate (List.length (List.map encB bl)) [goI 0]),
            Row.arr 2 (List.map encE (U.edgesR (List.map encB bl))), Row.dead])
        (Ex.exit 0,
          mkS 30 [(1, AV.pt 0 0 0), (3, AV.pt 1 0 0), (4, AV.os 3 0 (List.length (U.edgesR (List.map encB bl))))]
            [Row.box [AV.sl ks, AV.sl bs, goI p, goI q, AV.sl (List.map encB bl)],
              Row.box [AV.os 2 0 (List.length cnt)], Row.arr 1 (List.map encI cnt),
              Row.arr 2 (List.map encE (U.edgesR (List.map encB bl))), Row.dead]) ∧
      Wf Try.prog H 49 [AV.os 0 0 (List.length (U.edgesR (List.map encB bl))), AV.clo 50 [AV.pt 1 0 0, AV.pt 2 0 0]]
            [Row.arr 2 (List.map encE (U.edgesR (List.map encB bl))), Row.box [AV.os 3 0 (List.length cnt)],
              Row.box [AV.sl ks, AV.sl bs, goI p, goI q, AV.sl (List.map encB bl)], Row.arr 1 (List.map encI cnt)] =
          some
            (AV.os 0 0 (List.length k),
              [Row.arr 2 (List.map encE k ++ ys), Row.box [AV.os 3 0 (List.length cnt)],
                Row.box [AV.sl ks, AV.sl bs, goI p, goI q, AV.sl (List.map encB bl)], Row.arr 1 (List.map encI cnt)],
              []) ∧
        (AV.os 0 0 (List.length k), [Row.arr 2 (List.map encE k ++ ys)], []) = r) := by kernel_rfl
theorem t26_4 (ks : List (List AV)) (bs : List (List AV)) (p : Int) (q : Int) (bl : List XB) (cnt : List Int) (l : List XE) (i : Nat) (r : Ex × St) : (turnT Try.prog H (fun f args sto => CT.of (F0 f args sto)) L0 false (H 26) 0 (loopOf Try.prog 26 4)
  (mkS 30
    [(1, AV.pt 0 0 0), (3, AV.pt 1 0 0), (4, AV.os 3 0 (List.length l)), (13, AV.os 3 0 (List.length l)),
      (14, goI (↑(List.length l) : Int)), (15, goI (↑i : Int))]
    [Row.box [AV.sl ks, AV.sl bs, goI p, goI q, AV.sl (List.map encB bl)], Row.box [AV.os 2 0 (List.length cnt)],
      Row.arr 1 (List.map encI cnt), Row.arr 2 (List.map encE l), Row.dead])
  r) = (TB (decide ((↑i : Int) < (↑(List.length l) : Int)))
  ((0 ≤ (↑i : Int) ∧ (↑i : Int) < (↑(List.length l) : Int) ∧ 0 + i < List.length (List.map encE l)) ∧
    cutAt 2 0 (List.map encE l)[0 + i]? =
        some [goI (rdI (rowAt (List.map encE l) (0 + i)) 0), goI (rdI (rowAt (List.map encE l) (0 + i)) 1)] ∧
      (0 ≤ rdI (rowAt (List.map encE l) (0 + i)) 1 ∧
          rdI (rowAt (List.map encE l) (0 + i)) 1 < (↑(List.length cnt) : Int) ∧
            0 + Int.toNat (rdI (rowAt (List.map encE l) (0 + i)) 1) < List.length (List.map encI cnt)) ∧
        cutAt 1 0 (List.map encI cnt)[0 + Int.toNat (rdI (rowAt (List.map encE l) (0 + i)) 1)]? =
            some [goI (rdI (rowAt (List.map encI cnt) (0 + Int.toNat (rdI (rowAt (List.map encE l) (0 + i)) 1))) 0)] ∧
          (0 ≤ rdI (rowAt (List.map encE l) (0 + i)) 1 ∧
              rdI (rowAt (List.map encE l) (0 + i)) 1 < (↑(List.length cnt) : Int) ∧
                0 + Int.toNat (rdI (rowAt (List.map encE l) (0 + i)) 1) < List.length (List.map encI cnt)) ∧
            Option.map List.length (List.map encI cnt)[0 + Int.toNat (rdI (rowAt (List.map encE l) (0 + i)) 1)]? =
                some 1 ∧
              LoopTo Try.prog H (H 26) 0 (loopOf Try.prog 26 4)
                (mkS 30
                  [(1, AV.pt 0 0 0), (3, AV.pt 1 0 0), (4, AV.os 3 0 (List.length l)), (13, AV.os 3 0 (List.length l)),
                    (14, goI (↑(List.length l) : Int)), (15, goI (IntKind.wrap IntKind.i64 ((↑i : Int) + 1)))]
                  [Row.box [AV.sl ks, AV.sl bs, goI p, goI q, AV.sl (List.map encB bl)],
                    Row.box [AV.os 2 0 (List.length cnt)],
                    Row.arr 1
                      (List.set (List.map encI cnt) (0 + Int.toNat (rdI (rowAt (List.map encE l) (0 + i)) 1))
                        [goI
                            (IntKind.wrap IntKind.i64
                              (rdI (rowAt (List.map encI cnt) (0 + Int.toNat (rdI (rowAt (List.map encE l) (0 + i)) 1)))
                                  0 +
                                1))]),
                    Row.arr 2 (List.map encE l), Row.dead])
                r)
  ((Ex.exit 0,
      mkS 30 [(1, AV.pt 0 0 0), (3, AV.pt 1 0 0), (4, AV.os 3 0 (List.length l))]
        [Row.box [AV.sl ks, AV.sl bs, goI p, goI q, AV.sl (List.map encB bl)], Row.box [AV.os 2 0 (List.length cnt)],
          Row.arr 1 (List.map encI cnt), Row.arr 2 (List.map encE l), Row.dead]) =
    r)) := by kernel_rfl
theorem t52 (c : List XI) (u : Int) (v : Int) (r : AV × List Row × List Nat) : (runT Try.prog H (F52 []) L0 false 52 [AV.agg [AV.sl (List.map encIn c)], goI u, goI v] [] fun q => q = r) = (Wf Try.prog H 74 [AV.sl (List.map encIn c)] [] =
    some (AV.os 0 0 (List.length (List.map encIn c)), [Row.arr 7 (List.map encIn c)], []) ∧
  (0 ≤ IntKind.wrap IntKind.i64 ((↑(List.length (List.map encIn c)) : Int) - 1) ∧
      IntKind.wrap IntKind.i64 ((↑(List.length (List.map encIn c)) : Int) - 1) <
          (↑(List.length (List.map encIn c)) : Int) ∧
        0 + Int.toNat (IntKind.wrap IntKind.i64 ((↑(List.length (List.map encIn c)) : Int) - 1)) <
          List.length (List.map encIn c)) ∧
    cutAt 1 4
          (List.map encIn
              c)[0 + Int.toNat (IntKind.wrap IntKind.i64 ((↑(List.length (List.map encIn c)) : Int) - 1))]? =
        some
          [goI
              (rdI
                (rowAt (List.map encIn c)
                  (0 + Int.toNat (IntKind.wrap IntKind.i64 ((↑(List.length (List.map encIn c)) : Int) - 1))))
                4)] ∧
      TB
        (rdI
            (rowAt (List.map encIn c)
              (0 + Int.toNat (IntKind.wrap IntKind.i64 ((↑(List.length (List.map encIn c)) : Int) - 1))))
            4 ==
          u)
        (Option.map List.length
              (List.map encIn
                  c)[0 + Int.toNat (IntKind.wrap IntKind.i64 ((↑(List.length (List.map encIn c)) : Int) - 1))]? =
            some 7 ∧
          (AV.agg [AV.os 0 0 (List.length (List.map encIn c))],
              [Row.arr 7
                  (List.set (List.map encIn c)
                    (0 + Int.toNat (IntKind.wrap IntKind.i64 ((↑(List.length (List.map encIn c)) : Int) - 1)))
                    (splice
                      (rowAt (List.map encIn c)
                        (0 + Int.toNat (IntKind.wrap IntKind.i64 ((↑(List.length (List.map encIn c)) : Int) - 1))))
                      4 [goI v]))],
              []) =
            r)
        (Option.map List.length
              (List.map encIn
                  c)[0 + Int.toNat (IntKind.wrap IntKind.i64 ((↑(List.length (List.map encIn c)) : Int) - 1))]? =
            some 7 ∧
          (AV.agg [AV.os 0 0 (List.length (List.map encIn c))],
              [Row.arr 7
                  (List.set (List.map encIn c)
                    (0 + Int.toNat (IntKind.wrap IntKind.i64 ((↑(List.length (List.map encIn c)) : Int) - 1)))
                    (splice
                      (rowAt (List.map encIn c)
                        (0 + Int.toNat (IntKind.wrap IntKind.i64 ((↑(List.length (List.map encIn c)) : Int) - 1))))
                      5 [goI v]))],
              []) =
            r)) := by kernel_rfl
theorem t27 (ks : List (List AV)) (bs : List (List AV)) (p : Int) (q : Int) (bl : List XB) (g : List XB) (k : List XE) (ys : List (List AV)) (r : AV × List Row × List Nat) : (runT Try.prog H (F27 k ys) (L27 0 g ks bs p q) false 27
  [AV.agg [AV.sl ks, AV.sl bs, goI p, goI q, AV.sl (List.map encB bl)]] [] fun q => q = r) = (Wf Try.prog H 26 [AV.agg [AV.sl ks, AV.sl bs, goI p, goI q, AV.sl (List.map encB bl)]] [] =
    some (AV.os 0 0 (List.length k), [Row.arr 2 (List.map encE k ++ ys)], []) ∧
  TB
    (decide
      (IntKind.wrap IntKind.i64
          ((↑(List.length (List.map encB bl)) : Int) +
            (↑(List.length (List.take (List.length k) (List.drop 0 (List.map encE k ++ ys)))) : Int)) >
        40))
    ((AV.tup [AV.agg [AV.sl [], AV.sl [], goI 0, goI 0, AV.sl []], goI 9], [], []) = r)
    (Wf Try.prog H 51 [AV.sl (List.map encB bl)] [] =
        some (AV.os 0 0 (List.length (List.map encB bl)), [Row.arr 1 (List.map encB bl)], []) ∧
      LoopTo Try.prog H (H 27) 0 (loopOf Try.prog 27 6)
          (mkS 56
            [(1, AV.pt 0 0 0), (2, AV.pt 1 0 0),
              (21, AV.sl (List.take (List.length k) (List.drop 0 (List.map encE k ++ ys)))),
              (22, goI (↑(List.length (List.take (List.length k) (List.drop 0 (List.map encE k ++ ys)))) : Int)),
              (23, goI 0)]
            [Row.box [AV.sl ks, AV.sl bs, goI p, goI q, AV.os 2 0 (List.length (List.map encB bl))],
              Row.box [AV.nil, AV.nil, goI 0, goI 0, AV.nil], Row.arr 1 (List.map encB bl), Row.dead])
          (Ex.exit 0,
            mkS 56 [(1, AV.pt 0 0 0), (2, AV.pt 1 0 0)]
              [Row.box [AV.sl ks, AV.sl bs, goI p, goI q, AV.os 2 0 (List.length g)],
                Row.box [AV.nil, AV.nil, goI 0, goI 0, AV.nil], Row.arr 1 (List.map encB g), Row.dead]) ∧
        (AV.tup [AV.agg [AV.sl ks, AV.sl bs, goI p, goI q, AV.os 0 0 (List.length g)], goI 0],
            [Row.arr 1 (List.map encB g)], []) =
          r)) := by kernel_rfl
theorem t27_6 (ks : List (List AV)) (bs : List (List AV)) (p : Int) (q : Int) (bl : List XB) (k : List XE) (c : Int) (i : Nat) (r : Ex × St) : (turnT Try.prog H (F27 [] []) L0 false (H 27) 0 (loopOf Try.prog 27 6)
  (mkS 56 [(1, AV.pt 0 0 0), (2, AV.pt 1 0 0), (21, AV.sl (List.map encE k)), (22, goI c), (23, goI (↑i : Int))]
    [Row.box [AV.sl ks, AV.sl bs, goI p, goI q, AV.os 2 0 (List.length bl)],
      Row.box [AV.nil, AV.nil, goI 0, goI 0, AV.nil], Row.arr 1 (List.map encB bl), Row.dead])
  r) = (TB (decide ((↑i : Int) < c))
  ((0 ≤ (↑i : Int) ∧
      (List.map encE k)[i]? = some [goI (rdI (rowAt (List.map encE k) i) 0), goI (rdI (rowAt (List.map encE k) i) 1)]) ∧
    (0 ≤ rdI (rowAt (List.map encE k) i) 0 ∧
        rdI (rowAt (List.map encE k) i) 0 < (↑(List.length bl) : Int) ∧
          0 + Int.toNat (rdI (rowAt (List.map encE k) i) 0) < List.length (List.map encB bl)) ∧
      cutAt 1 0 (List.map encB bl)[0 + Int.toNat (rdI (rowAt (List.map encE k) i) 0)]? =
          some [AV.sl (rdL (rowAt (List.map encB bl) (0 + Int.toNat (rdI (rowAt (List.map encE k) i) 0))) 0)] ∧
        Wf Try.prog H 52
              [AV.agg [AV.sl (rdL (rowAt (List.map encB bl) (0 + Int.toNat (rdI (rowAt (List.map encE k) i) 0))) 0)],
                goI (rdI (rowAt (List.map encE k) i) 1), goI (↑(List.length bl) : Int)]
              [] =
            some
              (AV.agg
                  [AV.os 0 0
                      (List.length
                        (rdL (rowAt (List.map encB bl) (0 + Int.toNat (rdI (rowAt (List.map encE k) i) 0))) 0))],
                [Row.arr 7
                    (U.leadR (rdL (rowAt (List.map encB bl) (0 + Int.toNat (rdI (rowAt (List.map encE k) i) 0))) 0)
                      (rdI (rowAt (List.map encE k) i) 1) (↑(List.length bl) : Int))],
                []) ∧
          (0 ≤ rdI (rowAt (List.map encE k) i) 0 ∧
              rdI (rowAt (List.map encE k) i) 0 < (↑(List.length bl) : Int) ∧
                0 + Int.toNat (rdI (rowAt (List.map encE k) i) 0) < List.length (List.map encB bl)) ∧
            Option.map List.length (List.map encB bl)[0 + Int.toNat (rdI (rowAt (List.map encE k) i) 0)]? = some 1 ∧
              true = true ∧
                (List.length bl =
                      List.length
                        (List.set (List.map encB bl) (0 + Int.toNat (rdI (rowAt (List.map encE k) i) 0))
                          [AV.sl
                              (List.take
                                (List.length
                                  (rdL (rowAt (List.map encB bl) (0 + Int.toNat (rdI (rowAt (List.map encE k) i) 0)))
                                    0))
                                (List.drop 0
                                  (U.leadR
                                    (rdL (rowAt (List.map encB bl) (0 + Int.toNat (rdI (rowAt (List.map encE k) i) 0)))
                                      0)
                                    (rdI (rowAt (List.map encE k) i) 1) (↑(List.length bl) : Int))))]) ∧
                    List.length bl + 1 ≤ 1000000) ∧
                  LoopTo Try.prog H (H 27) 0 (loopOf Try.prog 27 6)
                    (mkS 56
                      [(1, AV.pt 0 0 0), (2, AV.pt 1 0 0), (21, AV.sl (List.map encE k)), (22, goI c),
                        (23, goI (IntKind.wrap IntKind.i64 ((↑i : Int) + 1)))]
                      [Row.box [AV.sl ks, AV.sl bs, goI p, goI q, AV.os 2 0 (List.length bl + 1)],
                        Row.box [AV.nil, AV.nil, goI 0, goI 0, AV.nil],
                        Row.arr 1
                          (List.set (List.map encB bl) (0 + Int.toNat (rdI (rowAt (List.map encE k) i) 0))
                              [AV.sl
                                  (List.take
                                    (List.length
                                      (rdL
                                        (rowAt (List.map encB bl) (0 + Int.toNat (rdI (rowAt (List.map encE k) i) 0)))
                                        0))
                                    (List.drop 0
                                      (U.leadR
                                        (rdL
                                          (rowAt (List.map encB bl) (0 + Int.toNat (rdI (rowAt (List.map encE k) i) 0)))
                                          0)
                                        (rdI (rowAt (List.map encE k) i) 1) (↑(List.length bl) : Int))))] ++
                            [[AV.sl
                                  [[goI 21, goI 0, goI 0, goI 0, goI (rdI (rowAt (List.map encE k) i) 1), goI 0,
                                      AV.sl []]]]]),
                        Row.dead])
                    r)
  ((Ex.exit 0,
      mkS 56 [(1, AV.pt 0 0 0), (2, AV.pt 1 0 0)]
        [Row.box [AV.sl ks, AV.sl bs, goI p, goI q, AV.os 2 0 (List.length bl)],
          Row.box [AV.nil, AV.nil, goI 0, goI 0, AV.nil], Row.arr 1 (List.map encB bl), Row.dead]) =
    r)) := by kernel_rfl
theorem wf51 (l : List XB) (hl : l.length < 1000000) : Wf Try.prog H 51 [.sl (l.map encB)] [] = some (.os 0 0 (l.map encB).length, [.arr 1 (l.map encB)], []) :=
  Wf_prim (p := cloneP 1) (by rfl) (by
    unfold cloneP
    simp only
    rw [if_pos ⟨rowsOk_of (enc := encB) (s := 1) (fun _ => rfl) l, by rw [List.length_map]; show l.length ≤ 1000000; omega⟩])
theorem wf74 (l : List XI) (hl : l.length < 1000000) : Wf Try.prog H 74 [.sl (l.map encIn)] [] = some (.os 0 0 (l.map encIn).length, [.arr 7 (l.map encIn)], []) :=
  Wf_prim (p := cloneP 7) (by rfl) (by
    unfold cloneP
    simp only
    rw [if_pos ⟨rowsOk_of (enc := encIn) (s := 7) (fun _ => rfl) l, by rw [List.length_map]; show l.length ≤ 1000000; omega⟩])
theorem edgesR_map' (bl : List XB) : U.edgesR (bl.map encB) = U.edges bl := edgesR_map bl
theorem tally_len : ∀ (l : List XE) (c : List Int), (U.tally l c).length = c.length
  | [], c => rfl
  | e :: r, c => by unfold U.tally; rw [tally_len r, List.length_set]
theorem take_app {α : Type} (enc : α → List AV) (l : List α) (ys : List (List AV)) : List.take l.length (List.drop 0 (l.map enc ++ ys)) = l.map enc := by
  rw [List.drop_zero, show l.length = (l.map enc).length from (List.length_map _).symm, List.take_left]
theorem dropE {l : List XE} {i : Nat} (h : i < l.length) : l.drop i = U.edg l i :: l.drop (i + 1) := drop_cons' l h
/-- The blocks that come next are there. -/
def TgtOk (bl : List XB) : Prop := ∀ i : Nat, i < bl.length → ∀ t ∈ U.nextAt bl i, 1 ≤ t ∧ t < bl.length
theorem edge_in {bl : List XB} (hT : TgtOk bl) {e : XE} (he : e ∈ U.edges bl) : 0 ≤ e.src ∧ e.src < bl.length ∧ 1 ≤ e.dst ∧ e.dst < bl.length := by
  rw [mem_edges] at he
  obtain ⟨j, h1, h2, h3⟩ := he
  obtain ⟨h4, h5⟩ := hT j h1 _ h3
  exact ⟨by omega, by omega, h4, h5⟩
section
variable (ks bs : List (List AV)) (p q : Int)
theorem loop26_4 (bl : List XB) (l : List XE) (hl : l.length < 1000000) : ∀ (d i : Nat) (cnt : List Int), i + d = l.length → (∀ e ∈ l, 0 ≤ e.dst ∧ e.dst < cnt.length) → (∀ j, 0 ≤ U.nt cnt j ∧ U.nt cnt j ≤ i) →
    LoopTo Try.prog H (H 26) 0 (loopOf Try.prog 26 4) (mkS 30 [(1, .pt 0 0 0), (3, .pt 1 0 0), (4, .os 3 0 l.length), (13, .os 3 0 l.length), (14, goI l.length), (15, goI i)] [.box [.sl ks, .sl bs, goI p, goI q, .sl (bl.map encB)], .box [.os 2 0 cnt.length], .arr 1 (cnt.map encI), .arr 2 (l.map encE), .dead])
      (.exit 0, mkS 30 [(1, .pt 0 0 0), (3, .pt 1 0 0), (4, .os 3 0 l.length)] [.box [.sl ks, .sl bs, goI p, goI q, .sl (bl.map encB)], .box [.os 2 0 cnt.length], .arr 1 ((U.tally (l.drop i) cnt).map encI), .arr 2 (l.map encE), .dead])
  | 0, i, cnt, hd, h1, h2 => by
    refine turnK (t26_4 ks bs p q bl cnt l i _) ?_
    rw [decide_eq_false (by omega), List.drop_eq_nil_of_le (by omega)]
    exact rfl
  | d + 1, i, cnt, hd, h1, h2 => by
    have hi : i < l.length := by omega
    obtain ⟨g1, g2⟩ := h1 _ (edg_mem hi)
    have hn : (U.edg l i).dst.toNat < cnt.length := by omega
    obtain ⟨b1, b2⟩ := h2 (U.edg l i).dst.toNat
    have ih := loop26_4 bl l hl d (i + 1) (cnt.set (U.edg l i).dst.toNat (U.nt cnt (U.edg l i).dst.toNat + 1)) (by omega) (by rw [List.length_set]; exact h1) (fun j => by
      have : U.nt (cnt.set (U.edg l i).dst.toNat (U.nt cnt (U.edg l i).dst.toNat + 1)) j = if j = (U.edg l i).dst.toNat then U.nt cnt (U.edg l i).dst.toNat + 1 else U.nt cnt j := getD_set cnt _ j _ hn
      rw [this]
      have := h2 j
      split <;> omega)
    refine turnK (t26_4 ks bs p q bl cnt l i _) ?_
    rw [List.length_set] at ih
    rw [decide_eq_true (by omega), wrapS hi hl, dropE hi, Nat.zero_add, rowE hi, getE hi, List.length_map, List.length_map]
    simp only [encE, rdI, List.getD_cons_zero, List.getD_cons_succ, int_goI, Nat.zero_add]
    rw [rowI hn, getI hn]
    simp only [List.getD_cons_zero, int_goI]
    have w1 : IntKind.i64.wrap (U.nt cnt (U.edg l i).dst.toNat + 1) = U.nt cnt (U.edg l i).dst.toNat + 1 := by rw [wrap64] <;> omega
    rw [w1, set_mapI]
    exact ⟨⟨by omega, by omega, by omega⟩, by trivial, ⟨by omega, by omega, by omega⟩, by trivial, ⟨by omega, by omega, by omega⟩, by trivial, ih⟩
theorem wf26 (bl : List XB) (hc : CodeOk bl) (hl : bl.length ≤ 3000) (hT : TgtOk bl) : ∃ ys, Wf Try.prog H 26 [.agg [.sl ks, .sl bs, goI p, goI q, .sl (bl.map encB)]] [] = some (.os 0 0 (U.crit bl).length, [.arr 2 ((U.crit bl).map encE ++ ys)], []) := by
  have hel := edges_len bl bl.length 0
  have hel' : (U.edges bl).length < 1000000 := by unfold U.edges; omega
  have hrl : (List.replicate bl.length (0 : Int)).length = bl.length := List.length_replicate
  have h4 := loop26_4 ks bs p q bl (U.edges bl) hel' (U.edges bl).length 0 (List.replicate bl.length 0) (by omega) (fun e he => by
    rw [hrl]
    obtain ⟨_, _, h3, h4⟩ := edge_in hT he
    exact ⟨by omega, h4⟩) (fun j => by
    have : U.nt (List.replicate bl.length (0 : Int)) j = 0 := by
      unfold U.nt
      rw [List.getD_eq_getElem?_getD, List.getElem?_replicate]
      split <;> rfl
    rw [this]; omega)
  rw [List.drop_zero, hrl] at h4
  have htl : (U.tally (U.edges bl) (List.replicate bl.length 0)).length = bl.length := by rw [tally_len, hrl]
  obtain ⟨ys, h49⟩ := wf49 (U.tally (U.edges bl) (List.replicate bl.length 0)) ks bs p q bl hc (U.edges bl) hel' (fun e he => by
    rw [htl]
    obtain ⟨_, _, h3, h4⟩ := edge_in hT he
    exact ⟨by omega, h4⟩)
  refine ⟨ys, runK (t26 ks bs p q bl (U.tally (U.edges bl) (List.replicate bl.length 0)) (U.crit bl) ys _) ?_⟩
  have er : List.replicate bl.length [goI 0] = (List.replicate bl.length (0 : Int)).map encI := by rw [List.map_replicate]; rfl
  rw [List.length_map, edgesR_map, er, List.length_map, hrl, htl]
  unfold S4 S5 at h49
  rw [htl] at h49
  exact ⟨⟨by omega, by omega, by omega⟩, wf20 ks bs p q bl hc hl, h4, h49, rfl⟩
theorem wf52 (c : List XI) (u v : Int) (h1 : 1 ≤ c.length) (h2 : c.length < 1000000) : Wf Try.prog H 52 [.agg [.sl (c.map encIn)], goI u, goI v] [] = some (.agg [.os 0 0 (c.map encIn).length], [.arr 7 (U.leadR (c.map encIn) u v)], []) := by
  refine runK (t52 c u v _) ⟨wf74 c h2, ?_⟩
  have w1 : IntKind.i64.wrap ((c.length : Int) - 1) = ((c.length - 1 : Nat) : Int) := by rw [wrap64] <;> omega
  have hn : c.length - 1 < c.length := by omega
  rw [List.length_map, w1, Int.toNat_natCast, Nat.zero_add, rowIn hn, getIn hn]
  simp only [encIn, rdI, List.getD_cons_zero, List.getD_cons_succ, int_goI]
  refine ⟨⟨by omega, by omega, hn⟩, by trivial, ?_⟩
  unfold U.leadR U.lead
  rw [decIns_map]
  by_cases h : (U.ins c (c.length - 1)).n = u
  · rw [if_pos h, beq_iff_eq.2 h, List.map_set]
    exact ⟨by trivial, rfl⟩
  · rw [if_neg h, beq_eq_false_iff_ne.2 h, List.map_set]
    exact ⟨by trivial, rfl⟩
end
namespace U
def jump (to : Int) : XB := ⟨[⟨21, 0, 0, 0, to, 0, []⟩]⟩
/-- One edge is split. -/
def splitStep (bl : List XB) (e : XE) : List XB := bl.set e.src.toNat ⟨lead (blk bl e.src.toNat).code e.dst bl.length⟩ ++ [jump e.dst]
def splits (bl : List XB) (k : List XE) : List XB := k.foldl splitStep bl
end U
theorem leadR_map (c : List XI) (u v : Int) : U.leadR (c.map encIn) u v = (U.lead c u v).map encIn := by unfold U.leadR; rw [decIns_map]
theorem lead_len (c : List XI) (u v : Int) : (U.lead c u v).length = c.length := by unfold U.lead; rw [List.length_set]
def CodeNe (bl : List XB) : Prop := ∀ b ∈ bl, 1 ≤ b.code.length ∧ b.code.length ≤ 3000
theorem step_len (bl : List XB) (e : XE) : (U.splitStep bl e).length = bl.length + 1 := by unfold U.splitStep; rw [List.length_append, List.length_set]; rfl
theorem step_ne {bl : List XB} {e : XE} (h : CodeNe bl) (he : e.src.toNat < bl.length) : CodeNe (U.splitStep bl e) := by
  intro b hb
  unfold U.splitStep at hb
  rcases List.mem_append.1 hb with hb | hb
  · rcases List.mem_or_eq_of_mem_set hb with hb | rfl
    · exact h b hb
    · have := h _ (blk_mem he)
      show 1 ≤ (U.lead _ _ _).length ∧ (U.lead _ _ _).length ≤ 3000
      rw [lead_len]; exact this
  · have : b = U.jump e.dst := by simpa using hb
    subst this
    exact ⟨by simp [U.jump], by simp [U.jump]⟩
section
variable (ks bs : List (List AV)) (p q : Int)
theorem loop27_6 (k : List XE) (N : Nat) (hk : k.length < 100000) (hN : N ≤ 3000) (hs : ∀ e ∈ k, 0 ≤ e.src ∧ e.src < N) : ∀ (d i : Nat) (bl : List XB), i + d = k.length → bl.length = N + i → CodeNe bl →
    LoopTo Try.prog H (H 27) 0 (loopOf Try.prog 27 6) (mkS 56 [(1, .pt 0 0 0), (2, .pt 1 0 0), (21, .sl (k.map encE)), (22, goI k.length), (23, goI i)] [.box [.sl ks, .sl bs, goI p, goI q, .os 2 0 bl.length], .box [.nil, .nil, goI 0, goI 0, .nil], .arr 1 (bl.map encB), .dead])
      (.exit 0, mkS 56 [(1, .pt 0 0 0), (2, .pt 1 0 0)] [.box [.sl ks, .sl bs, goI p, goI q, .os 2 0 (U.splits bl (k.drop i)).length], .box [.nil, .nil, goI 0, goI 0, .nil], .arr 1 ((U.splits bl (k.drop i)).map encB), .dead])
  | 0, i, bl, hd, hb, hn => by
    refine turnK (t27_6 ks bs p q bl k k.length i _) ?_
    rw [decide_eq_false (show ¬ (i : Int) < k.length by omega), show k.drop i = [] from List.drop_eq_nil_of_le (by omega)]
    exact rfl
  | d + 1, i, bl, hd, hb, hn => by
    have hi : i < k.length := by omega
    obtain ⟨g1, g2⟩ := hs _ (edg_mem hi)
    have hsrc : (U.edg k i).src.toNat < bl.length := by omega
    obtain ⟨c1, c2⟩ := hn _ (blk_mem hsrc)
    have ih := loop27_6 k N hk hN hs d (i + 1) (U.splitStep bl (U.edg k i)) (by omega) (by rw [step_len]; omega) (step_ne hn hsrc)
    rw [step_len] at ih
    have w52 := wf52 (U.blk bl (U.edg k i).src.toNat).code (U.edg k i).dst bl.length c1 (by omega)
    refine turnK (t27_6 ks bs p q bl k k.length i _) ?_
    rw [decide_eq_true (show (i : Int) < k.length by omega), wrapS hi (by omega), dropE hi, rowE hi, getE hi, show U.splits bl (U.edg k i :: k.drop (i + 1)) = U.splits (U.splitStep bl (U.edg k i)) (k.drop (i + 1)) from rfl]
    simp only [encE, rdI, List.getD_cons_zero, List.getD_cons_succ, int_goI, Nat.zero_add]
    rw [rowB hsrc, getB hsrc]
    simp only [encB, rdL, slOf, List.getD_cons_zero]
    have et : List.take ((U.blk bl (U.edg k i).src.toNat).code.map encIn).length (List.drop 0 (U.leadR ((U.blk bl (U.edg k i).src.toNat).code.map encIn) (U.edg k i).dst bl.length)) = (U.lead (U.blk bl (U.edg k i).src.toNat).code (U.edg k i).dst bl.length).map encIn := by
      rw [leadR_map, List.length_map, ← lead_len (U.blk bl (U.edg k i).src.toNat).code (U.edg k i).dst bl.length, take_map]
    rw [et]
    have ex : (U.splitStep bl (U.edg k i)).map encB = (bl.map encB).set (U.edg k i).src.toNat [.sl ((U.lead (U.blk bl (U.edg k i).src.toNat).code (U.edg k i).dst bl.length).map encIn)] ++ [[.sl [[goI 21, goI 0, goI 0, goI 0, goI (U.edg k i).dst, goI 0, .sl []]]]] := by
      unfold U.splitStep
      rw [List.map_append, List.map_set]; rfl
    rw [ex] at ih
    rw [List.length_set, List.length_map]
    exact ⟨⟨by omega, by trivial⟩, ⟨by omega, by omega, by omega⟩, by trivial, w52, ⟨by omega, by omega, by omega⟩, by trivial, by trivial, ⟨rfl, by omega⟩, ih⟩
/-- edge.Split: what it comes to. -/
def splitTo (ks bs : List (List AV)) (p q : Int) (bl : List XB) : AV × List Row × List Nat :=
  if bl.length + (U.crit bl).length > 40 then (.tup [.agg [.sl [], .sl [], goI 0, goI 0, .sl []], goI 9], [], [])
  else (.tup [.agg [.sl ks, .sl bs, goI p, goI q, .os 0 0 (U.splits bl (U.crit bl)).length], goI 0], [.arr 1 ((U.splits bl (U.crit bl)).map encB)], [])
theorem wf27 (bl : List XB) (hn : CodeNe bl) (hl : bl.length ≤ 3000) (hT : TgtOk bl) : Wf Try.prog H 27 [.agg [.sl ks, .sl bs, goI p, goI q, .sl (bl.map encB)]] [] = some (splitTo ks bs p q bl) := by
  obtain ⟨ys, h26⟩ := wf26 ks bs p q bl (fun b hb => (hn b hb).2) hl hT
  have hel := edges_len bl bl.length 0
  have hcl : (U.crit bl).length ≤ 6000 := by
    have : (U.crit bl).length ≤ (U.edges bl).length := List.length_filter_le _ _
    unfold U.edges at this
    omega
  refine runK (t27 ks bs p q bl (U.splits bl (U.crit bl)) (U.crit bl) ys _) ⟨h26, ?_⟩
  rw [take_app, List.length_map, List.length_map]
  have w1 : IntKind.i64.wrap ((bl.length : Int) + ((U.crit bl).length : Int)) = (bl.length : Int) + ((U.crit bl).length : Int) := by rw [wrap64] <;> omega
  rw [w1]
  unfold splitTo
  by_cases h : bl.length + (U.crit bl).length > 40
  · rw [if_pos h, decide_eq_true (by omega)]; exact rfl
  · rw [if_neg h, decide_eq_false (by omega)]
    have h6 := loop27_6 ks bs p q (U.crit bl) bl.length (by omega) hl (fun e he => by
      obtain ⟨g1, g2, _, _⟩ := edge_in hT (List.mem_filter.1 he).1
      exact ⟨g1, g2⟩) (U.crit bl).length 0 bl (by omega) (by omega) hn
    rw [List.drop_zero] at h6
    have h51 := wf51 bl (by omega)
    rw [List.length_map] at h51
    exact ⟨h51, h6, rfl⟩
end
end Go.Proofs.Ytjgnnjoejlijjaa.E
