/- Functions, by what the evaluator asks; the theorems t.. were printed by show.txt, a program of this session. -/
import Derived.Test.Ythbkemkjkpaoaab17h
set_option linter.unusedVariables false
set_option linter.unusedSimpArgs false
set_option maxRecDepth 100000
namespace Go.Proofs.Ythbkemkjkpaoaab.E
open Go
def F9 (rg tb : Bool) (n v : Int) (k : Nat) (zs : List (List AV)) : CallF := fun f args sto => match f, args with
 | 12, _ => some (goB rg, sto, [])
 | 23, [.agg [.v (.int .i64 a), .v (.int .i64 b)]] => some (goB (U.may a b), [], [])
 | 24, _ => some (goB tb, sto, [])
 | 26, [.sl xs] => some (.os 0 0 xs.length, [.arr 4 xs], [])
 | 25, _ => some (.os 0 0 k, [.arr 4 zs], [])
 | 27, _ => some (goI v, sto, [])
 | 28, _ => some (.os 0 0 k, [.arr 4 zs], [])
 | _, _ => none
def L9 (x : Loc) (os1 : List (List AV)) : Nat → St → LT := fun id st => match id, st.env with
 | 7, _ => .is (.exit 0) (mkS 79 [(8, .os 3 0 os1.length)] [.dead, .dead, .dead, .arr 4 os1])
 | _, _ => .no
def L915 (x y : Loc) (n : Nat) (os1 zs : List (List AV)) : Nat → St → LT := fun id st => .is (.exit 2) (mkS 79 [(3, .pt 0 0 0), (8, .os 3 0 os1.length), (9, .os 2 0 n)] [.box (encL x), .box (encL y), .arr 4 zs, .arr 4 os1])

theorem t9 (l : List Mv) (x : Loc) (rg : Bool) (tb : Bool) (k : Nat) (zs : List (List AV)) (os1 : List (List AV)) (r : AV × List Row × List Nat) : (runT Try.prog H (fun f args sto => CT.of (F9 rg tb 0 0 k zs f args sto)) (L9 x os1) false 9
  [AV.sl (List.map encM l), AV.agg (encL x)] [] fun q => q = r) = (Wf Try.prog H 12 [AV.sl (List.map encM l)] [] = some (goB rg, [], []) ∧
  TB (!rg) ((AV.tup [AV.sl [], goI 1], [], []) = r)
    (Wf Try.prog H 23 [AV.agg [goI x.1, goI x.2]] [] = some (goB (U.may x.1 x.2), [], []) ∧
      TB (!U.may x.1 x.2) ((AV.tup [AV.sl [], goI 1], [], []) = r)
        (Wf Try.prog H 24 [AV.sl (List.map encM l), AV.clo 22 [AV.pt 0 0 0]] [Row.box [goI x.1, goI x.2]] =
            some (goB tb, [Row.box [goI x.1, goI x.2]], []) ∧
          TB tb ((AV.tup [AV.sl [], goI 1], [], []) = r)
            (Wf Try.prog H 26 [AV.sl (List.map encM l)] [] =
                some (AV.os 0 0 (List.length (List.map encM l)), [Row.arr 4 (List.map encM l)], []) ∧
              Wf Try.prog H 25 [AV.os 0 0 (List.length (List.map encM l)), AV.clo 21 []] [Row.arr 4 (List.map encM l)] =
                  some (AV.os 0 0 k, [Row.arr 4 zs], []) ∧
                LoopTo Try.prog H (H 9) 0 (loopOf Try.prog 9 7)
                    (mkS 79 [(3, AV.pt 0 0 0), (8, AV.os 3 0 0), (9, AV.os 2 0 k)]
                      [Row.box [goI x.1, goI x.2], Row.dead, Row.arr 4 zs, Row.arr 4 []])
                    (Ex.exit 0,
                      mkS 79 [(8, AV.os 3 0 (List.length os1))] [Row.dead, Row.dead, Row.dead, Row.arr 4 os1]) ∧
                  (AV.tup [AV.os 0 0 (List.length os1), goI 0], [Row.arr 4 os1], []) = r)))) := by kernel_rfl
theorem t9_7 (x : Loc) (y : Loc) (n : Nat) (k : Nat) (v : Int) (xs : List (List AV)) (zs : List (List AV)) (zs2 : List (List AV)) (os0 : List (List AV)) (r : Ex × St) : (turnT Try.prog H (fun f args sto => CT.of (F9 true true 0 v k zs f args sto))
  (L915 x y n (os0 ++ [encM (Mv.mk x y)]) zs2) false (H 9) 0 (loopOf Try.prog 9 7)
  (mkS 79 [(3, AV.pt 0 0 0), (8, AV.os 3 0 (List.length os0)), (9, AV.os 2 0 n)]
    [Row.box (encL x), Row.dead, Row.arr 4 xs, Row.arr 4 os0])
  r) = (TB (decide ((↑n : Int) > 0))
  (Wf Try.prog H 27 [AV.sl (List.take n (List.drop 0 xs))] [] = some (goI v, [], []) ∧
    TB (decide (v ≥ 0))
      ((0 ≤ v ∧ v < (↑n : Int) ∧ 0 + Int.toNat v < List.length xs) ∧
        cutAt 4 0 xs[0 + Int.toNat v]? =
            some
              [goI (rdI (rowAt xs (0 + Int.toNat v)) 0), goI (rdI (rowAt xs (0 + Int.toNat v)) 1),
                goI (rdI (rowAt xs (0 + Int.toNat v)) 2), goI (rdI (rowAt xs (0 + Int.toNat v)) 3)] ∧
          true = true ∧
            (List.length os0 = List.length os0 ∧ List.length os0 + 1 ≤ 1000000) ∧
              Wf Try.prog H 28 [AV.os 0 0 n, goI v, goI (IntKind.wrap IntKind.i64 (v + 1))] [Row.arr 4 xs] =
                  some (AV.os 0 0 k, [Row.arr 4 zs], []) ∧
                LoopTo Try.prog H (H 9) 0 (loopOf Try.prog 9 7)
                  (mkS 79 [(3, AV.pt 0 0 0), (8, AV.os 3 0 (List.length os0 + 1)), (9, AV.os 2 0 k)]
                    [Row.box [goI x.1, goI x.2], Row.dead, Row.arr 4 zs,
                      Row.arr 4
                        (os0 ++
                          [[goI (rdI (rowAt xs (0 + Int.toNat v)) 0), goI (rdI (rowAt xs (0 + Int.toNat v)) 1),
                              goI (rdI (rowAt xs (0 + Int.toNat v)) 2), goI (rdI (rowAt xs (0 + Int.toNat v)) 3)]])])
                  r)
      ((iz 0 ≤ 0 ∧ 0 < (↑n : Int) ∧ 0 < List.length xs) ∧
        cutAt 2 0 xs[0]? = some [goI (rdI (rowAt xs 0) 0), goI (rdI (rowAt xs 0) 1)] ∧
          true = true ∧
            (List.length os0 = List.length os0 ∧ List.length os0 + 1 ≤ 1000000) ∧
              LoopTo Try.prog H (H 9) 0 (loopOf Try.prog 9 15)
                  (mkS 79
                    [(3, AV.pt 0 0 0), (8, AV.os 3 0 (List.length os0 + 1)), (9, AV.os 2 0 n), (11, AV.pt 1 0 0),
                      (61, goI (↑n : Int)), (62, goI 0)]
                    [Row.box [goI x.1, goI x.2], Row.box [goI (rdI (rowAt xs 0) 0), goI (rdI (rowAt xs 0) 1)],
                      Row.arr 4 xs,
                      Row.arr 4 (os0 ++ [[goI x.1, goI x.2, goI (rdI (rowAt xs 0) 0), goI (rdI (rowAt xs 0) 1)]])])
                  (Ex.exit 2,
                    mkS 79
                      [(3, AV.pt 0 0 0),
                        (8,
                          AV.os 3 0
                            (List.length
                              (os0 ++
                                [[goI (Mv.to (Mv.mk x y)).1, goI (Mv.to (Mv.mk x y)).2, goI (Mv.fr (Mv.mk x y)).1,
                                    goI (Mv.fr (Mv.mk x y)).2]]))),
                        (9, AV.os 2 0 n)]
                      [Row.box [goI x.1, goI x.2], Row.box [goI y.1, goI y.2], Row.arr 4 zs2,
                        Row.arr 4
                          (os0 ++
                            [[goI (Mv.to (Mv.mk x y)).1, goI (Mv.to (Mv.mk x y)).2, goI (Mv.fr (Mv.mk x y)).1,
                                goI (Mv.fr (Mv.mk x y)).2]])]) ∧
                LoopTo Try.prog H (H 9) 0 (loopOf Try.prog 9 7)
                  (mkS 79
                    [(3, AV.pt 0 0 0),
                      (8,
                        AV.os 3 0
                          (List.length
                            (os0 ++
                              [[goI (Mv.to (Mv.mk x y)).1, goI (Mv.to (Mv.mk x y)).2, goI (Mv.fr (Mv.mk x y)).1,
                                  goI (Mv.fr (Mv.mk x y)).2]]))),
                      (9, AV.os 2 0 n)]
                    [Row.box [goI x.1, goI x.2], Row.dead, Row.arr 4 zs2,
                      Row.arr 4
                        (os0 ++
                          [[goI (Mv.to (Mv.mk x y)).1, goI (Mv.to (Mv.mk x y)).2, goI (Mv.fr (Mv.mk x y)).1,
                              goI (Mv.fr (Mv.mk x y)).2]])])
                  r))
  ((Ex.exit 0, mkS 79 [(8, AV.os 3 0 (List.length os0))] [Row.dead, Row.dead, Row.dead, Row.arr 4 os0]) = r)) := by kernel_rfl
theorem t9_15 (x : Loc) (y : Loc) (n : Nat) (i : Nat) (xs : List (List AV)) (os0 : List (List AV)) (r : Ex × St) : (turnT Try.prog H (fun f args sto => CT.of (F0 f args sto)) L0 false (H 9) 0 (loopOf Try.prog 9 15)
  (mkS 79
    [(3, AV.pt 0 0 0), (8, AV.os 3 0 (List.length os0)), (9, AV.os 2 0 n), (11, AV.pt 1 0 0), (61, goI (↑n : Int)),
      (62, goI (↑i : Int))]
    [Row.box (encL x), Row.box (encL y), Row.arr 4 xs, Row.arr 4 os0])
  r) = (TB (decide ((↑i : Int) < (↑n : Int)))
  ((0 ≤ (↑i : Int) ∧ (↑i : Int) < (↑n : Int) ∧ 0 + i < List.length xs) ∧
    cutAt 2 2 xs[0 + i]? = some [goI (rdI (rowAt xs (0 + i)) 2), goI (rdI (rowAt xs (0 + i)) 3)] ∧
      TB (rdI (rowAt xs (0 + i)) 2 == y.1 && (rdI (rowAt xs (0 + i)) 3 == y.2 && true))
        ((0 ≤ (↑i : Int) ∧ (↑i : Int) < (↑n : Int) ∧ 0 + i < List.length xs) ∧
          Option.map List.length xs[0 + i]? = some 4 ∧
            LoopTo Try.prog H (H 9) 0 (loopOf Try.prog 9 15)
              (mkS 79
                [(3, AV.pt 0 0 0), (8, AV.os 3 0 (List.length os0)), (9, AV.os 2 0 n), (11, AV.pt 1 0 0),
                  (61, goI (↑n : Int)), (62, goI (IntKind.wrap IntKind.i64 ((↑i : Int) + 1)))]
                [Row.box [goI x.1, goI x.2], Row.box [goI y.1, goI y.2],
                  Row.arr 4 (List.set xs (0 + i) (splice (rowAt xs (0 + i)) 2 [goI x.1, goI x.2])), Row.arr 4 os0])
              r)
        (LoopTo Try.prog H (H 9) 0 (loopOf Try.prog 9 15)
          (mkS 79
            [(3, AV.pt 0 0 0), (8, AV.os 3 0 (List.length os0)), (9, AV.os 2 0 n), (11, AV.pt 1 0 0),
              (61, goI (↑n : Int)), (62, goI (IntKind.wrap IntKind.i64 ((↑i : Int) + 1)))]
            [Row.box [goI x.1, goI x.2], Row.box [goI y.1, goI y.2], Row.arr 4 xs, Row.arr 4 os0])
          r))
  ((Ex.exit 2,
      mkS 79 [(3, AV.pt 0 0 0), (8, AV.os 3 0 (List.length os0)), (9, AV.os 2 0 n)]
        [Row.box [goI x.1, goI x.2], Row.box [goI y.1, goI y.2], Row.arr 4 xs, Row.arr 4 os0]) =
    r)) := by kernel_rfl
def sub (x y : Loc) (m : Mv) : Mv := if m.fr = y then ⟨m.to, x⟩ else m
def cur (x y : Loc) (K : List Mv) (i : Nat) : List Mv := (K.take i).map (sub x y) ++ K.drop i
theorem drop_cons (K : List Mv) {i : Nat} (hi : i < K.length) : K.drop i = K.getD i default :: K.drop (i + 1) := by
  rw [List.drop_eq_getElem_cons hi, List.getD_eq_getElem?_getD, List.getElem?_eq_getElem hi]; rfl
theorem cur_at (x y : Loc) (K : List Mv) {i : Nat} (hi : i < K.length) : cur x y K i = (K.take i).map (sub x y) ++ K.getD i default :: K.drop (i + 1) := by rw [cur, drop_cons K hi]
theorem cur_next (x y : Loc) (K : List Mv) {i : Nat} (hi : i < K.length) : cur x y K (i + 1) = (K.take i).map (sub x y) ++ sub x y (K.getD i default) :: K.drop (i + 1) := by
  have e : K.take (i + 1) = K.take i ++ [K.getD i default] := by rw [List.take_add_one, get_ok hi]; rfl
  rw [cur, e, List.map_append, List.append_assoc]; rfl
theorem mid_get (A : List Mv) (m : Mv) (B : List Mv) (G : List (List AV)) {i : Nat} (hA : A.length = i) : ((A ++ m :: B).map encM ++ G)[0 + i]? = some (encM m) := by
  subst hA
  simp [List.getElem?_append]
theorem mid_row (A : List Mv) (m : Mv) (B : List Mv) (G : List (List AV)) {i : Nat} (hA : A.length = i) : rowAt ((A ++ m :: B).map encM ++ G) (0 + i) = encM m := by
  unfold rowAt; rw [List.getD_eq_getElem?_getD, mid_get A m B G hA]; rfl
theorem mid_set (A : List Mv) (m m' : Mv) (B : List Mv) (G : List (List AV)) {i : Nat} (hA : A.length = i) : ((A ++ m :: B).map encM ++ G).set (0 + i) (encM m') = (A ++ m' :: B).map encM ++ G := by
  subst hA
  simp [List.set_append]
theorem loop9_15 (x y : Loc) (K : List Mv) (hK : K.length < 1000000) (G os0 : List (List AV)) : ∀ (d i : Nat), i + d = K.length →
    LoopTo Try.prog H (H 9) 0 (loopOf Try.prog 9 15) (mkS 79 [(3, .pt 0 0 0), (8, .os 3 0 os0.length), (9, .os 2 0 K.length), (11, .pt 1 0 0), (61, goI K.length), (62, goI i)] [.box (encL x), .box (encL y), .arr 4 ((cur x y K i).map encM ++ G), .arr 4 os0])
      (.exit 2, mkS 79 [(3, .pt 0 0 0), (8, .os 3 0 os0.length), (9, .os 2 0 K.length)] [.box (encL x), .box (encL y), .arr 4 ((K.map (sub x y)).map encM ++ G), .arr 4 os0])
  | 0, i, hd => turnT_ok (viaK (t9_15 x y K.length i _ os0 _) (by
    have hi : i = K.length := by omega
    subst hi
    have e : cur x y K K.length = K.map (sub x y) := by simp [cur]
    rw [e]
    simp [TB_iff, encL]))
  | d + 1, i, hd => turnT_ok (viaK (t9_15 x y K.length i _ os0 _) (by
    have hi : i < K.length := by omega
    have ih := loop9_15 x y K hK G os0 d (i + 1) (by omega)
    have hwr : IntKind.i64.wrap ((i : Int) + 1) = ((i + 1 : Nat) : Int) := by rw [wrap64] <;> omega
    have hA : ((K.take i).map (sub x y)).length = i := by simp; omega
    rw [cur_next x y K hi] at ih
    rw [cur_at x y K hi]
    generalize hm : K.getD i default = m at ih ⊢
    generalize (K.take i).map (sub x y) = A at hA ih ⊢
    have hlen : i < ((A ++ m :: K.drop (i + 1)).map encM ++ G).length := by simp; omega
    rw [mid_get A m _ G hA, mid_row A m _ G hA]
    have e1 : encM m = [goI m.to.k, goI m.to.n, goI m.fr.k, goI m.fr.n] := rfl
    simp only [TB_iff, decide_eq_true_eq, hwr]
    refine ⟨fun _ => ⟨⟨by omega, by omega, by omega⟩, ?_⟩, fun h => absurd h (by simp; omega)⟩
    refine ⟨by rw [e1]; rfl, fun h => ?_, fun h => ?_⟩
    · have hf : m.fr = y := by rw [Loc.eq_iff]; simpa [e1] using h
      have es : sub x y m = ⟨m.to, x⟩ := by simp [sub, hf]
      refine ⟨⟨by omega, by omega, by omega⟩, by rw [e1]; rfl, ?_⟩
      have ep : splice (encM m) 2 [goI x.k, goI x.n] = encM (sub x y m) := by rw [es]; rfl
      rw [ep, mid_set A m _ _ G hA]
      exact ih
    · have hf : ¬ m.fr = y := by rw [Loc.eq_iff]; simpa [e1] using h
      have es : sub x y m = m := by simp [sub, hf]
      rw [es] at ih
      exact ih))
end Go.Proofs.Ythbkemkjkpaoaab.E
