/- Functions, by what the evaluator asks; the theorems t.. were printed by show.txt, a program of this session. -/
import Derived.Test.Ytjgnnjoejlijjaa13b
set_option linter.unusedVariables false
set_option linter.unusedSimpArgs false
set_option maxRecDepth 100000
namespace Go.Proofs.Ytjgnnjoejlijjaa.E
open Go
def F25 (g : Bool) (n : Int) : CallT := fun f args sto => match f, args with
 | 43, _ => .is (goB g, [], [])
 | 44, _ => .is (goI n, [], [])
 | _, _ => .no
def F5 (o big : Bool) (k : List XE) (ys : List (List AV)) (g : List XB) : CallT := fun f args sto => match f, args with
 | 24, _ => .is (goB true, [], [])
 | 25, _ => .is (goB o, [], [])
 | 26, _ => .is (.os 0 0 k.length, [.arr 2 (k.map encE ++ ys)], [])
 | 27, [.agg [a0, a1, a2, a3, _]] => .by big (.is (.tup [.agg [.sl [], .sl [], goI 0, goI 0, .sl []], goI 9], [], [])) (.is (.tup [.agg [a0, a1, a2, a3, .os 0 0 g.length], goI 0], [.arr 1 (g.map encB)], []))
 | _, _ => .no
def L5 (i : Nat) : Nat → St → LT := fun id st => match id with
 | 6 => .is (.exit 0) (mkS 94 [] [.dead, .dead, .dead])
 | _ => .is (.exit 2) (mkS 94 [(1, .pt 0 0 0), (3, goI i)] st.sto)
set_option maxHeartbeats 4000000

theorem t25 (a : List XF) (g : Bool) (n : Int) (r : AV × List Row × List Nat) : (runT Try.prog H (F25 g n) L0 false 25 [AV.agg [AV.sl (List.map encF a)]] [] fun q => q = r) = (Wf Try.prog H 43 [AV.agg [AV.sl (List.map encF a)]] [] = some (goB g, [], []) ∧
  TB g ((goB true, [], []) = r)
    (Wf Try.prog H 44 [AV.agg [AV.sl (List.map encF a)]] [] = some (goI n, [], []) ∧ (goB !n == 0, [], []) = r)) := by kernel_rfl
theorem t5 (a : List XF) (o : Bool) (r : AV × List Row × List Nat) : (runT Try.prog H (F5 o false [] [] []) (L5 0) false 5 [AV.agg [AV.sl (List.map encF a)]] [] fun q => q = r) = (Wf Try.prog H 24 [] [] = some (goB true, [], []) ∧
  Wf Try.prog H 25 [AV.agg [AV.sl (List.map encF a)]] [] = some (goB o, [], []) ∧
    TB o ((goB true, [], []) = r)
      (LoopTo Try.prog H (H 5) 0 (loopOf Try.prog 5 6)
          (mkS 94 [(1, AV.pt 0 0 0), (3, goI 0)] [Row.box [AV.sl (List.map encF a)], Row.dead, Row.dead])
          (Ex.exit 0, mkS 94 [] [Row.dead, Row.dead, Row.dead]) ∧
        (goB true, [], []) = r)) := by kernel_rfl
theorem t5_6 (a : List XF) (i : Nat) (big : Bool) (k : List XE) (ys : List (List AV)) (g : List XB) (r : Ex × St) : (turnT Try.prog H (F5 false big k ys g) (L5 i) false (H 5) 0 (loopOf Try.prog 5 6)
  (mkS 94 [(1, AV.pt 0 0 0), (3, goI (↑i : Int))] [Row.box [AV.sl (List.map encF a)], Row.dead, Row.dead]) r) = (TB (decide ((↑i : Int) < (↑(List.length (List.map encF a)) : Int)))
  ((0 ≤ (↑i : Int) ∧
      (List.map encF a)[i]? =
        some
          [AV.sl (rdL (rowAt (List.map encF a) i) 0), AV.sl (rdL (rowAt (List.map encF a) i) 1),
            goI (rdI (rowAt (List.map encF a) i) 2), goI (rdI (rowAt (List.map encF a) i) 3),
            AV.sl (rdL (rowAt (List.map encF a) i) 4)]) ∧
    Wf Try.prog H 26
          [AV.agg
              [AV.sl (rdL (rowAt (List.map encF a) i) 0), AV.sl (rdL (rowAt (List.map encF a) i) 1),
                goI (rdI (rowAt (List.map encF a) i) 2), goI (rdI (rowAt (List.map encF a) i) 3),
                AV.sl (rdL (rowAt (List.map encF a) i) 4)]]
          [] =
        some (AV.os 0 0 (List.length k), [Row.arr 2 (List.map encE k ++ ys)], []) ∧
      TB big
        (Wf Try.prog H 27
              [AV.agg
                  [AV.sl (rdL (rowAt (List.map encF a) i) 0), AV.sl (rdL (rowAt (List.map encF a) i) 1),
                    goI (rdI (rowAt (List.map encF a) i) 2), goI (rdI (rowAt (List.map encF a) i) 3),
                    AV.sl (rdL (rowAt (List.map encF a) i) 4)]]
              [] =
            some (AV.tup [AV.agg [AV.sl [], AV.sl [], goI 0, goI 0, AV.sl []], goI 9], [], []) ∧
          TB
            (decide
              (IntKind.wrap IntKind.i64
                  ((↑(List.length (rdL (rowAt (List.map encF a) i) 4)) : Int) +
                    (↑(List.length (List.take (List.length k) (List.drop 0 (List.map encE k ++ ys)))) : Int)) >
                40))
            (LoopTo Try.prog H (H 5) 0 (loopOf Try.prog 5 6)
              (mkS 94 [(1, AV.pt 0 0 0), (3, goI (IntKind.wrap IntKind.i64 ((↑i : Int) + 1)))]
                [Row.box [AV.sl (List.map encF a)], Row.dead, Row.dead])
              r)
            ((Ex.ret, mkS 94 [(2, goB false)] [Row.dead, Row.dead, Row.dead]) = r))
        (Wf Try.prog H 27
              [AV.agg
                  [AV.sl (rdL (rowAt (List.map encF a) i) 0), AV.sl (rdL (rowAt (List.map encF a) i) 1),
                    goI (rdI (rowAt (List.map encF a) i) 2), goI (rdI (rowAt (List.map encF a) i) 3),
                    AV.sl (rdL (rowAt (List.map encF a) i) 4)]]
              [] =
            some
              (AV.tup
                  [AV.agg
                      [AV.sl (rdL (rowAt (List.map encF a) i) 0), AV.sl (rdL (rowAt (List.map encF a) i) 1),
                        goI (rdI (rowAt (List.map encF a) i) 2), goI (rdI (rowAt (List.map encF a) i) 3),
                        AV.os 0 0 (List.length g)],
                    goI 0],
                [Row.arr 1 (List.map encB g)], []) ∧
          TB
            (decide
              (IntKind.wrap IntKind.i64
                  ((↑(List.length (rdL (rowAt (List.map encF a) i) 4)) : Int) +
                    (↑(List.length (List.take (List.length k) (List.drop 0 (List.map encE k ++ ys)))) : Int)) >
                40))
            ((Ex.ret, mkS 94 [(2, goB false)] [Row.dead, Row.dead, Row.dead]) = r)
            (TB
              (!(↑(List.length (List.take (List.length g) (List.drop 0 (List.map encB g)))) : Int) ==
                  IntKind.wrap IntKind.i64
                    ((↑(List.length (rdL (rowAt (List.map encF a) i) 4)) : Int) +
                      (↑(List.length (List.take (List.length k) (List.drop 0 (List.map encE k ++ ys)))) : Int)))
              ((Ex.ret, mkS 94 [(2, goB false)] [Row.dead, Row.dead, Row.dead]) = r)
              (LoopTo Try.prog H (H 5) 0 (loopOf Try.prog 5 17)
                  (mkS 94
                    [(1, AV.pt 0 0 0), (3, goI (↑i : Int)), (4, AV.pt 1 0 0),
                      (5, AV.sl (List.take (List.length k) (List.drop 0 (List.map encE k ++ ys)))), (6, AV.pt 2 0 0),
                      (8, goI 0)]
                    [Row.box [AV.sl (List.map encF a)],
                      Row.box
                        [AV.sl (rdL (rowAt (List.map encF a) i) 0), AV.sl (rdL (rowAt (List.map encF a) i) 1),
                          goI (rdI (rowAt (List.map encF a) i) 2), goI (rdI (rowAt (List.map encF a) i) 3),
                          AV.sl (rdL (rowAt (List.map encF a) i) 4)],
                      Row.box
                        [AV.sl (rdL (rowAt (List.map encF a) i) 0), AV.sl (rdL (rowAt (List.map encF a) i) 1),
                          goI (rdI (rowAt (List.map encF a) i) 2), goI (rdI (rowAt (List.map encF a) i) 3),
                          AV.sl (List.take (List.length g) (List.drop 0 (List.map encB g)))]])
                  (Ex.exit 2,
                    mkS 94 [(1, AV.pt 0 0 0), (3, goI (↑i : Int))]
                      [Row.box [AV.sl (List.map encF a)],
                        Row.box
                          [AV.sl (rdL (rowAt (List.map encF a) i) 0), AV.sl (rdL (rowAt (List.map encF a) i) 1),
                            goI (rdI (rowAt (List.map encF a) i) 2), goI (rdI (rowAt (List.map encF a) i) 3),
                            AV.sl (rdL (rowAt (List.map encF a) i) 4)],
                        Row.box
                          [AV.sl (rdL (rowAt (List.map encF a) i) 0), AV.sl (rdL (rowAt (List.map encF a) i) 1),
                            goI (rdI (rowAt (List.map encF a) i) 2), goI (rdI (rowAt (List.map encF a) i) 3),
                            AV.sl (List.take (List.length g) (List.drop 0 (List.map encB g)))]]) ∧
                LoopTo Try.prog H (H 5) 0 (loopOf Try.prog 5 6)
                  (mkS 94 [(1, AV.pt 0 0 0), (3, goI (IntKind.wrap IntKind.i64 ((↑i : Int) + 1)))]
                    [Row.box [AV.sl (List.map encF a)], Row.dead, Row.dead])
                  r))))
  ((Ex.exit 0, mkS 94 [] [Row.dead, Row.dead, Row.dead]) = r)) := by kernel_rfl
theorem t5_17 (X : List (List AV)) (ks : List (List AV)) (bs : List (List AV)) (ks' : List (List AV)) (bs' : List (List AV)) (p : Int) (q : Int) (p' : Int) (q' : Int) (bl : List XB) (g : List XB) (k : List XE) (i : Nat) (j : Nat) (r : Ex × St) : (turnT Try.prog H (fun f args sto => CT.of (F0 f args sto)) L0 false (H 5) 0 (loopOf Try.prog 5 17)
  (mkS 94
    [(1, AV.pt 0 0 0), (3, goI (↑i : Int)), (4, AV.pt 1 0 0), (5, AV.sl (List.map encE k)), (6, AV.pt 2 0 0),
      (8, goI (↑j : Int))]
    [Row.box [AV.sl X], Row.box [AV.sl ks, AV.sl bs, goI p, goI q, AV.sl (List.map encB bl)],
      Row.box [AV.sl ks', AV.sl bs', goI p', goI q', AV.sl (List.map encB g)]])
  r) = (TB (decide ((↑j : Int) < (↑(List.length (List.map encE k)) : Int)))
  ((0 ≤ IntKind.wrap IntKind.i64 ((↑(List.length (List.map encB bl)) : Int) + (↑j : Int)) ∧
      (List.map encB
            g)[Int.toNat (IntKind.wrap IntKind.i64 ((↑(List.length (List.map encB bl)) : Int) + (↑j : Int)))]? =
        some
          [AV.sl
              (rdL
                (rowAt (List.map encB g)
                  (Int.toNat (IntKind.wrap IntKind.i64 ((↑(List.length (List.map encB bl)) : Int) + (↑j : Int)))))
                0)]) ∧
    TB
      (!(↑(List.length
                (rdL
                  (rowAt (List.map encB g)
                    (Int.toNat (IntKind.wrap IntKind.i64 ((↑(List.length (List.map encB bl)) : Int) + (↑j : Int)))))
                  0)) :
            Int) ==
          1)
      ((Ex.ret, mkS 94 [(2, goB false)] [Row.dead, Row.dead, Row.dead]) = r)
      ((iz 0 ≤ 0 ∧
          (rdL
                (rowAt (List.map encB g)
                  (Int.toNat (IntKind.wrap IntKind.i64 ((↑(List.length (List.map encB bl)) : Int) + (↑j : Int)))))
                0)[0]? =
            some
              [goI
                  (rdI
                    (rowAt
                      (rdL
                        (rowAt (List.map encB g)
                          (Int.toNat
                            (IntKind.wrap IntKind.i64 ((↑(List.length (List.map encB bl)) : Int) + (↑j : Int)))))
                        0)
                      0)
                    0),
                goI
                  (rdI
                    (rowAt
                      (rdL
                        (rowAt (List.map encB g)
                          (Int.toNat
                            (IntKind.wrap IntKind.i64 ((↑(List.length (List.map encB bl)) : Int) + (↑j : Int)))))
                        0)
                      0)
                    1),
                goI
                  (rdI
                    (rowAt
                      (rdL
                        (rowAt (List.map encB g)
                          (Int.toNat
                            (IntKind.wrap IntKind.i64 ((↑(List.length (List.map encB bl)) : Int) + (↑j : Int)))))
                        0)
                      0)
                    2),
                goI
                  (rdI
                    (rowAt
                      (rdL
                        (rowAt (List.map encB g)
                          (Int.toNat
                            (IntKind.wrap IntKind.i64 ((↑(List.length (List.map encB bl)) : Int) + (↑j : Int)))))
                        0)
                      0)
                    3),
                goI
                  (rdI
                    (rowAt
                      (rdL
                        (rowAt (List.map encB g)
                          (Int.toNat
                            (IntKind.wrap IntKind.i64 ((↑(List.length (List.map encB bl)) : Int) + (↑j : Int)))))
                        0)
                      0)
                    4),
                goI
                  (rdI
                    (rowAt
                      (rdL
                        (rowAt (List.map encB g)
                          (Int.toNat
                            (IntKind.wrap IntKind.i64 ((↑(List.length (List.map encB bl)) : Int) + (↑j : Int)))))
                        0)
                      0)
                    5),
                AV.sl
                  (rdL
                    (rowAt
                      (rdL
                        (rowAt (List.map encB g)
                          (Int.toNat
                            (IntKind.wrap IntKind.i64 ((↑(List.length (List.map encB bl)) : Int) + (↑j : Int)))))
                        0)
                      0)
                    6)]) ∧
        TB
          (!rdI
                (rowAt
                  (rdL
                    (rowAt (List.map encB g)
                      (Int.toNat (IntKind.wrap IntKind.i64 ((↑(List.length (List.map encB bl)) : Int) + (↑j : Int)))))
                    0)
                  0)
                0 ==
              21)
          ((Ex.ret, mkS 94 [(2, goB false)] [Row.dead, Row.dead, Row.dead]) = r)
          ((iz 0 ≤ 0 ∧
              (rdL
                    (rowAt (List.map encB g)
                      (Int.toNat (IntKind.wrap IntKind.i64 ((↑(List.length (List.map encB bl)) : Int) + (↑j : Int)))))
                    0)[0]? =
                some
                  [goI
                      (rdI
                        (rowAt
                          (rdL
                            (rowAt (List.map encB g)
                              (Int.toNat
                                (IntKind.wrap IntKind.i64 ((↑(List.length (List.map encB bl)) : Int) + (↑j : Int)))))
                            0)
                          0)
                        0),
                    goI
                      (rdI
                        (rowAt
                          (rdL
                            (rowAt (List.map encB g)
                              (Int.toNat
                                (IntKind.wrap IntKind.i64 ((↑(List.length (List.map encB bl)) : Int) + (↑j : Int)))))
                            0)
                          0)
                        1),
                    goI
                      (rdI
                        (rowAt
                          (rdL
                            (rowAt (List.map encB g)
                              (Int.toNat
                                (IntKind.wrap IntKind.i64 ((↑(List.length (List.map encB bl)) : Int) + (↑j : Int)))))
                            0)
                          0)
                        2),
                    goI
                      (rdI
                        (rowAt
                          (rdL
                            (rowAt (List.map encB g)
                              (Int.toNat
                                (IntKind.wrap IntKind.i64 ((↑(List.length (List.map encB bl)) : Int) + (↑j : Int)))))
                            0)
                          0)
                        3),
                    goI
                      (rdI
                        (rowAt
                          (rdL
                            (rowAt (List.map encB g)
                              (Int.toNat
                                (IntKind.wrap IntKind.i64 ((↑(List.length (List.map encB bl)) : Int) + (↑j : Int)))))
                            0)
                          0)
                        4),
                    goI
                      (rdI
                        (rowAt
                          (rdL
                            (rowAt (List.map encB g)
                              (Int.toNat
                                (IntKind.wrap IntKind.i64 ((↑(List.length (List.map encB bl)) : Int) + (↑j : Int)))))
                            0)
                          0)
                        5),
                    AV.sl
                      (rdL
                        (rowAt
                          (rdL
                            (rowAt (List.map encB g)
                              (Int.toNat
                                (IntKind.wrap IntKind.i64 ((↑(List.length (List.map encB bl)) : Int) + (↑j : Int)))))
                            0)
                          0)
                        6)]) ∧
            (0 ≤ (↑j : Int) ∧
                (List.map encE k)[j]? =
                  some [goI (rdI (rowAt (List.map encE k) j) 0), goI (rdI (rowAt (List.map encE k) j) 1)]) ∧
              TB
                (!rdI
                      (rowAt
                        (rdL
                          (rowAt (List.map encB g)
                            (Int.toNat
                              (IntKind.wrap IntKind.i64 ((↑(List.length (List.map encB bl)) : Int) + (↑j : Int)))))
                          0)
                        0)
                      4 ==
                    rdI (rowAt (List.map encE k) j) 1)
                ((Ex.ret, mkS 94 [(2, goB false)] [Row.dead, Row.dead, Row.dead]) = r)
                (LoopTo Try.prog H (H 5) 0 (loopOf Try.prog 5 17)
                  (mkS 94
                    [(1, AV.pt 0 0 0), (3, goI (↑i : Int)), (4, AV.pt 1 0 0), (5, AV.sl (List.map encE k)),
                      (6, AV.pt 2 0 0), (8, goI (IntKind.wrap IntKind.i64 ((↑j : Int) + 1)))]
                    [Row.box [AV.sl X], Row.box [AV.sl ks, AV.sl bs, goI p, goI q, AV.sl (List.map encB bl)],
                      Row.box [AV.sl ks', AV.sl bs', goI p', goI q', AV.sl (List.map encB g)]])
                  r))))
  ((Ex.exit 2,
      mkS 94 [(1, AV.pt 0 0 0), (3, goI (↑i : Int))]
        [Row.box [AV.sl X], Row.box [AV.sl ks, AV.sl bs, goI p, goI q, AV.sl (List.map encB bl)],
          Row.box [AV.sl ks', AV.sl bs', goI p', goI q', AV.sl (List.map encB g)]]) =
    r)) := by kernel_rfl
theorem wf25 (p : XP) (hp : HandP p) : Wf Try.prog H 25 [.agg (encP p)] [] = some (goB (U.out p), [], []) := by
  refine runK (t25 p.funcs (U.great p) (if U.okProg p.funcs then 0 else 5) _) ⟨wf43 p hp, ?_⟩
  unfold U.out
  cases hg : U.great p with
  | true => exact rfl
  | false =>
    obtain ⟨h1, h2⟩ := small_of hg
    refine ⟨wf44 p.funcs h1 h2, ?_⟩
    cases U.okProg p.funcs with
    | true => exact rfl
    | false => exact rfl
theorem wf24 : Wf Try.prog H 24 [] [] = some (goB true, [], []) := Wf_at 60 (by kernel_rfl)
theorem tgtOk_of {P : List XF} (h : U.okProg P = true) {i : Nat} (hi : i < P.length) : TgtOk (U.fun_ P i).blocks := by
  intro b hb t ht
  have hf := funcOk_of (okFunc_at h (fun_mem hi))
  obtain ⟨c1, c2⟩ := hf.code _ (blk_mem hb)
  unfold U.nextAt at ht
  rw [if_neg (by omega), Int.toNat_natCast, if_neg (by omega)] at ht
  have hx := okIns_at h hi (blk_mem hb) (ins_mem (i := (U.blk (U.fun_ P i).blocks b).code.length - 1) (by omega))
  unfold U.okIns at hx
  simp only [Bool.and_eq_true] at hx
  have := (inFrom_iff _ _ _).1 hx.1.2 t ht
  omega
theorem codeNe_of {P : List XF} (h : U.okProg P = true) {i : Nat} (hi : i < P.length) : CodeNe (U.fun_ P i).blocks := fun b hb => by
  have hf := funcOk_of (okFunc_at h (fun_mem hi))
  obtain ⟨c1, c2⟩ := hf.code _ hb
  exact ⟨c1, by omega⟩
theorem splits_len : ∀ (k : List XE) (bl : List XB), (U.splits bl k).length = bl.length + k.length
  | [], bl => rfl
  | e :: k, bl => by
    show (U.splits (U.splitStep bl e) k).length = _
    rw [splits_len k, step_len, List.length_cons]; omega
theorem blk_step (bl : List XB) (e : XE) (N : Nat) (hs : e.src.toNat < N) (hN : N ≤ bl.length) (i : Nat) (h1 : N ≤ i) (h2 : i ≤ bl.length) : U.blk (U.splitStep bl e) i = if i < bl.length then U.blk bl i else U.jump e.dst := by
  unfold U.splitStep U.blk
  rw [List.getD_eq_getElem?_getD, List.getD_eq_getElem?_getD]
  by_cases h : i < bl.length
  · rw [if_pos h, List.getElem?_append_left (by rw [List.length_set]; exact h), List.getElem?_set, if_neg (by omega)]
    exact (List.getD_eq_getElem?_getD ..).symm
  · rw [if_neg h, List.getElem?_append_right (by rw [List.length_set]; omega), List.length_set, show i - bl.length = 0 by omega]
    rfl
/-- What stands behind the old blocks once these edges are split. -/
theorem splits_blk (N : Nat) : ∀ (k : List XE) (bl : List XB), (∀ e ∈ k, e.src.toNat < N) → N ≤ bl.length →
    (∀ i, N ≤ i → i < bl.length → U.blk (U.splits bl k) i = U.blk bl i) ∧ (∀ j, j < k.length → U.blk (U.splits bl k) (bl.length + j) = U.jump (U.edg k j).dst)
  | [], bl, _, _ => ⟨fun i _ _ => rfl, fun j hj => by simp at hj⟩
  | e :: k, bl, hs, hN => by
    have hse := hs e (by simp)
    obtain ⟨h1, h2⟩ := splits_blk N k (U.splitStep bl e) (fun e' he' => hs e' (by simp [he'])) (by rw [step_len]; omega)
    rw [step_len] at h1 h2
    refine ⟨fun i g1 g2 => ?_, fun j hj => ?_⟩
    · show U.blk (U.splits (U.splitStep bl e) k) i = _
      rw [h1 i g1 (by omega), blk_step bl e N hse hN i g1 (by omega), if_pos g2]
    · show U.blk (U.splits (U.splitStep bl e) k) _ = _
      cases j with
      | zero =>
        rw [Nat.add_zero, h1 bl.length hN (by omega), blk_step bl e N hse hN bl.length hN (Nat.le_refl _), if_neg (by omega)]
        rfl
      | succ j =>
        have := h2 j (by simp at hj; omega)
        rw [show bl.length + (j + 1) = bl.length + 1 + j by omega, this]
        rfl
theorem loop5_17 (X ks bs ks' bs' : List (List AV)) (p q p' q' : Int) (bl g : List XB) (k : List XE) (i : Nat) (hk : k.length < 10000) (hb : bl.length ≤ 3000) (hg : g.length = bl.length + k.length) (hj : ∀ j, j < k.length → U.blk g (bl.length + j) = U.jump (U.edg k j).dst) : ∀ (d j : Nat), j + d = k.length →
    LoopTo Try.prog H (H 5) 0 (loopOf Try.prog 5 17) (mkS 94 [(1, .pt 0 0 0), (3, goI i), (4, .pt 1 0 0), (5, .sl (k.map encE)), (6, .pt 2 0 0), (8, goI j)] [.box [.sl X], .box [.sl ks, .sl bs, goI p, goI q, .sl (bl.map encB)], .box [.sl ks', .sl bs', goI p', goI q', .sl (g.map encB)]])
      (.exit 2, mkS 94 [(1, .pt 0 0 0), (3, goI i)] [.box [.sl X], .box [.sl ks, .sl bs, goI p, goI q, .sl (bl.map encB)], .box [.sl ks', .sl bs', goI p', goI q', .sl (g.map encB)]])
  | 0, j, hd => by
    refine turnK (t5_17 X ks bs ks' bs' p q p' q' bl g k i j _) ?_
    rw [List.length_map, decide_eq_false (by omega)]
    exact rfl
  | d + 1, j, hd => by
    have hjk : j < k.length := by omega
    have ih := loop5_17 X ks bs ks' bs' p q p' q' bl g k i hk hb hg hj d (j + 1) (by omega)
    refine turnK (t5_17 X ks bs ks' bs' p q p' q' bl g k i j _) ?_
    have w1 : IntKind.i64.wrap ((bl.length : Int) + (j : Int)) = ((bl.length + j : Nat) : Int) := by rw [wrap64] <;> omega
    have hn : bl.length + j < g.length := by omega
    rw [List.length_map, List.length_map, decide_eq_true (by omega), wrapS hjk (by omega), w1, Int.toNat_natCast, rowB hn, getB hn, hj j hjk, rowE hjk, getE hjk]
    simp only [U.jump, encB, encE, encIn, rdI, rdL, slOf, rowAt, List.map_cons, List.map_nil, List.getD_cons_zero, List.getD_cons_succ, int_goI, List.length_cons, List.length_nil, List.getElem?_cons_zero, beq_self_eq_true]
    exact ⟨⟨by omega, by trivial⟩, ⟨by decide, by trivial⟩, ⟨by decide, by trivial⟩, ⟨by omega, by trivial⟩, ih⟩
theorem loop5_6 (a : List XF) (hok : U.okProg a = true) (ha : a.length ≤ 3000) : ∀ (d i : Nat), i + d = a.length →
    LoopTo Try.prog H (H 5) 0 (loopOf Try.prog 5 6) (mkS 94 [(1, .pt 0 0 0), (3, goI i)] [.box [.sl (a.map encF)], .dead, .dead]) (.exit 0, mkS 94 [] [.dead, .dead, .dead])
  | 0, i, hd => by
    refine turnK (t5_6 a i false [] [] [] _) ?_
    rw [List.length_map, decide_eq_false (show ¬ (i : Int) < a.length by omega)]
    exact rfl
  | d + 1, i, hd => by
    have hi : i < a.length := by omega
    have ih := loop5_6 a hok ha d (i + 1) (by omega)
    have hf := funcOk_of (okFunc_at hok (fun_mem hi))
    have hT := tgtOk_of hok hi
    have hn := codeNe_of hok hi
    have hl : (U.fun_ a i).blocks.length ≤ 3000 := by have := hf.blocks; omega
    obtain ⟨ys, w26⟩ := wf26 ((U.fun_ a i).kinds.map encI) ((U.fun_ a i).base.map encI) (U.fun_ a i).params (U.fun_ a i).result (U.fun_ a i).blocks (fun b hb => (hn b hb).2) hl hT
    have w27 := wf27 ((U.fun_ a i).kinds.map encI) ((U.fun_ a i).base.map encI) (U.fun_ a i).params (U.fun_ a i).result (U.fun_ a i).blocks hn hl hT
    have hel := edges_len (U.fun_ a i).blocks (U.fun_ a i).blocks.length 0
    have hcl : (U.crit (U.fun_ a i).blocks).length ≤ 6000 := by
      have : (U.crit (U.fun_ a i).blocks).length ≤ (U.edges (U.fun_ a i).blocks).length := List.length_filter_le _ _
      unfold U.edges at this
      omega
    have hgl := splits_len (U.crit (U.fun_ a i).blocks) (U.fun_ a i).blocks
    obtain ⟨_, hj⟩ := splits_blk (U.fun_ a i).blocks.length (U.crit (U.fun_ a i).blocks) (U.fun_ a i).blocks (fun e he => by
      obtain ⟨g1, g2, _, _⟩ := edge_in hT (List.mem_filter.1 he).1
      omega) (Nat.le_refl _)
    refine turnK (t5_6 a i (decide ((U.fun_ a i).blocks.length + (U.crit (U.fun_ a i).blocks).length > 40)) (U.crit (U.fun_ a i).blocks) ys (U.splits (U.fun_ a i).blocks (U.crit (U.fun_ a i).blocks)) _) ?_
    rw [List.length_map, decide_eq_true (show (i : Int) < a.length by omega), wrapS hi (by omega), rowF hi, getF hi]
    simp only [encF, rdI, rdL, slOf, List.getD_cons_zero, List.getD_cons_succ, int_goI, take_app, take_map]
    rw [List.length_map, List.length_map, List.length_map, hgl]
    have w1 : IntKind.i64.wrap (((U.fun_ a i).blocks.length : Int) + ((U.crit (U.fun_ a i).blocks).length : Int)) = (((U.fun_ a i).blocks.length + (U.crit (U.fun_ a i).blocks).length : Nat) : Int) := by rw [wrap64] <;> omega
    rw [w1]
    refine ⟨⟨by omega, by trivial⟩, w26, ?_⟩
    unfold splitTo at w27
    by_cases hb : (U.fun_ a i).blocks.length + (U.crit (U.fun_ a i).blocks).length > 40
    · rw [if_pos hb] at w27
      rw [decide_eq_true hb, decide_eq_true (show (((U.fun_ a i).blocks.length + (U.crit (U.fun_ a i).blocks).length : Nat) : Int) > 40 by omega)]
      exact ⟨w27, ih⟩
    · rw [if_neg hb] at w27
      have h17 := loop5_17 (a.map encF) ((U.fun_ a i).kinds.map encI) ((U.fun_ a i).base.map encI) ((U.fun_ a i).kinds.map encI) ((U.fun_ a i).base.map encI) (U.fun_ a i).params (U.fun_ a i).result (U.fun_ a i).params (U.fun_ a i).result (U.fun_ a i).blocks (U.splits (U.fun_ a i).blocks (U.crit (U.fun_ a i).blocks)) (U.crit (U.fun_ a i).blocks) i (by omega) hl hgl hj (U.crit (U.fun_ a i).blocks).length 0 (by omega)
      rw [hgl] at w27
      rw [decide_eq_false hb, decide_eq_false (show ¬ (((U.fun_ a i).blocks.length + (U.crit (U.fun_ a i).blocks).length : Nat) : Int) > 40 by omega), beq_self_eq_true]
      exact ⟨w27, h17, ih⟩
theorem wf5 (p : XP) (hp : HandP p) : Wf Try.prog H 5 [.agg (encP p)] [] = some (goB true, [], []) := by
  refine runK (t5 p.funcs (U.out p) _) ⟨wf24, wf25 p hp, ?_⟩
  cases ho : U.out p with
  | true => exact rfl
  | false =>
    unfold U.out at ho
    rw [Bool.or_eq_false_iff] at ho
    obtain ⟨h1, h2⟩ := small_of ho.1
    have hok : U.okProg p.funcs = true := by simpa using ho.2
    exact ⟨loop5_6 p.funcs hok h1 p.funcs.length 0 (by omega), rfl⟩
end Go.Proofs.Ytjgnnjoejlijjaa.E
