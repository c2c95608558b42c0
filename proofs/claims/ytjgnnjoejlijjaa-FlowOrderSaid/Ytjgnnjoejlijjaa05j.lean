/- Functions, by what the evaluator asks; the theorems t.. were printed by show.txt, a program of this session. -/
import Derived.Test.Ytjgnnjoejlijjaa05i
set_option linter.unusedVariables false
set_option linter.unusedSimpArgs false
set_option maxRecDepth 100000
namespace Go.Proofs.Ytjgnnjoejlijjaa.E
open Go
namespace U
def prevR (bl : List (List AV)) (n : Int) : List Int := prevAt (bl.map decB) n
def edgesR (bl : List (List AV)) : List XE := edges (bl.map decB)
def sizeR (bl : List (List AV)) : Int := size (bl.map decB)
end U
def F3 (o : Bool) : CallT := fun f args sto => match f, args with
 | 12, _ => .is (goB true, [], [])
 | 13, _ => .is (goB o, [], [])
 | 15, [.agg [_, _, _, _, .sl bl], .v (.int _ n)] => .is (.sl (U.nextR bl n), [], [])
 | 16, [.agg [_, _, _, _, .sl bl], .v (.int _ n)] => .is (.sl (U.nextR bl n), [], [])
 | 17, [.agg [_, _, _, _, .sl bl], .v (.int _ n)] => .by (decide (n < 0) || decide (n ≥ bl.length)) (.is (.sl [], [], [])) (.is (.os 0 0 (U.prevR bl n).length, [.arr 1 ((U.prevR bl n).map encI)], []))
 | 18, [.agg [_, _, _, _, .sl bl], .v (.int _ n)] => .is (.os 0 0 (U.prevR bl n).length, [.arr 1 ((U.prevR bl n).map encI)], [])
 | 20, [.agg [_, _, _, _, .sl bl]] => .is (.os 0 0 (U.edgesR bl).length, [.arr 2 ((U.edgesR bl).map encE)], [])
 | 21, [.agg [_, _, _, _, .sl bl]] => .is (.os 0 0 (U.edgesR bl).length, [.arr 2 ((U.edgesR bl).map encE)], [])
 | 22, [.agg [_, _, _, _, .sl bl]] => .is (goI (U.sizeR bl), [], [])
 | 23, [.agg [_, _, _, _, .sl bl]] => .is (goI (U.sizeR bl), [], [])
 | 14, _ => .is (goB true, [], [])
 | 19, _ => .is (goB true, [], [])
 | _, _ => .no
set_option maxHeartbeats 4000000

theorem t3 (a : List XF) (n : Int) (o : Bool) (r : AV × List Row × List Nat) : (runT Try.prog H (F3 o) (fun id st => LT.is (Ex.exit 0) (mkS 56 [] [Row.dead, Row.dead])) false 3
  [AV.agg [AV.sl (List.map encF a)], goI n] [] fun q => q = r) = (Wf Try.prog H 12 [] [] = some (goB true, [], []) ∧
  Wf Try.prog H 13 [AV.agg [AV.sl (List.map encF a)]] [] = some (goB o, [], []) ∧
    TB o ((goB true, [], []) = r)
      (LoopTo Try.prog H (H 3) 0 (loopOf Try.prog 3 6)
          (mkS 56 [(1, goI n), (2, AV.pt 0 0 0), (5, goI 0)] [Row.box [AV.sl (List.map encF a)], Row.dead])
          (Ex.exit 0, mkS 56 [] [Row.dead, Row.dead]) ∧
        (goB true, [], []) = r)) := by kernel_rfl
theorem t3_6 (a : List XF) (n : Int) (i : Nat) (r : Ex × St) : (turnT Try.prog H (F3 false) L0 false (H 3) 0 (loopOf Try.prog 3 6)
  (mkS 56 [(1, goI n), (2, AV.pt 0 0 0), (5, goI (↑i : Int))] [Row.box [AV.sl (List.map encF a)], Row.dead]) r) = (TB (decide ((↑i : Int) < (↑(List.length (List.map encF a)) : Int)))
  ((0 ≤ (↑i : Int) ∧
      (List.map encF a)[i]? =
        some
          [AV.sl (rdL (rowAt (List.map encF a) i) 0), AV.sl (rdL (rowAt (List.map encF a) i) 1),
            goI (rdI (rowAt (List.map encF a) i) 2), goI (rdI (rowAt (List.map encF a) i) 3),
            AV.sl (rdL (rowAt (List.map encF a) i) 4)]) ∧
    Wf Try.prog H 15
          [AV.agg
              [AV.sl (rdL (rowAt (List.map encF a) i) 0), AV.sl (rdL (rowAt (List.map encF a) i) 1),
                goI (rdI (rowAt (List.map encF a) i) 2), goI (rdI (rowAt (List.map encF a) i) 3),
                AV.sl (rdL (rowAt (List.map encF a) i) 4)],
            goI n]
          [] =
        some (AV.sl (U.nextR (rdL (rowAt (List.map encF a) i) 4) n), [], []) ∧
      Wf Try.prog H 16
            [AV.agg
                [AV.sl (rdL (rowAt (List.map encF a) i) 0), AV.sl (rdL (rowAt (List.map encF a) i) 1),
                  goI (rdI (rowAt (List.map encF a) i) 2), goI (rdI (rowAt (List.map encF a) i) 3),
                  AV.sl (rdL (rowAt (List.map encF a) i) 4)],
              goI n]
            [] =
          some (AV.sl (U.nextR (rdL (rowAt (List.map encF a) i) 4) n), [], []) ∧
        Wf Try.prog H 14
              [AV.sl (U.nextR (rdL (rowAt (List.map encF a) i) 4) n),
                AV.sl (U.nextR (rdL (rowAt (List.map encF a) i) 4) n)]
              [] =
            some (goB true, [], []) ∧
          TB (decide (n < 0) || decide (n ≥ (↑(List.length (rdL (rowAt (List.map encF a) i) 4)) : Int)))
            (Wf Try.prog H 17
                  [AV.agg
                      [AV.sl (rdL (rowAt (List.map encF a) i) 0), AV.sl (rdL (rowAt (List.map encF a) i) 1),
                        goI (rdI (rowAt (List.map encF a) i) 2), goI (rdI (rowAt (List.map encF a) i) 3),
                        AV.sl (rdL (rowAt (List.map encF a) i) 4)],
                    goI n]
                  [] =
                some (AV.sl [], [], []) ∧
              Wf Try.prog H 18
                    [AV.agg
                        [AV.sl (rdL (rowAt (List.map encF a) i) 0), AV.sl (rdL (rowAt (List.map encF a) i) 1),
                          goI (rdI (rowAt (List.map encF a) i) 2), goI (rdI (rowAt (List.map encF a) i) 3),
                          AV.sl (rdL (rowAt (List.map encF a) i) 4)],
                      goI n]
                    [] =
                  some
                    (AV.os 0 0 (List.length (U.prevR (rdL (rowAt (List.map encF a) i) 4) n)),
                      [Row.arr 1 (List.map encI (U.prevR (rdL (rowAt (List.map encF a) i) 4) n))], []) ∧
                Wf Try.prog H 14
                      [AV.sl [],
                        AV.sl
                          (List.take (List.length (U.prevR (rdL (rowAt (List.map encF a) i) 4) n))
                            (List.drop 0 (List.map encI (U.prevR (rdL (rowAt (List.map encF a) i) 4) n))))]
                      [] =
                    some (goB true, [], []) ∧
                  Wf Try.prog H 20
                        [AV.agg
                            [AV.sl (rdL (rowAt (List.map encF a) i) 0), AV.sl (rdL (rowAt (List.map encF a) i) 1),
                              goI (rdI (rowAt (List.map encF a) i) 2), goI (rdI (rowAt (List.map encF a) i) 3),
                              AV.sl (rdL (rowAt (List.map encF a) i) 4)]]
                        [] =
                      some
                        (AV.os 0 0 (List.length (U.edgesR (rdL (rowAt (List.map encF a) i) 4))),
                          [Row.arr 2 (List.map encE (U.edgesR (rdL (rowAt (List.map encF a) i) 4)))], []) ∧
                    Wf Try.prog H 21
                          [AV.agg
                              [AV.sl (rdL (rowAt (List.map encF a) i) 0), AV.sl (rdL (rowAt (List.map encF a) i) 1),
                                goI (rdI (rowAt (List.map encF a) i) 2), goI (rdI (rowAt (List.map encF a) i) 3),
                                AV.sl (rdL (rowAt (List.map encF a) i) 4)]]
                          [] =
                        some
                          (AV.os 0 0 (List.length (U.edgesR (rdL (rowAt (List.map encF a) i) 4))),
                            [Row.arr 2 (List.map encE (U.edgesR (rdL (rowAt (List.map encF a) i) 4)))], []) ∧
                      Wf Try.prog H 19
                            [AV.sl
                                (List.take (List.length (U.edgesR (rdL (rowAt (List.map encF a) i) 4)))
                                  (List.drop 0 (List.map encE (U.edgesR (rdL (rowAt (List.map encF a) i) 4))))),
                              AV.sl
                                (List.take (List.length (U.edgesR (rdL (rowAt (List.map encF a) i) 4)))
                                  (List.drop 0 (List.map encE (U.edgesR (rdL (rowAt (List.map encF a) i) 4)))))]
                            [] =
                          some (goB true, [], []) ∧
                        Wf Try.prog H 22
                              [AV.agg
                                  [AV.sl (rdL (rowAt (List.map encF a) i) 0), AV.sl (rdL (rowAt (List.map encF a) i) 1),
                                    goI (rdI (rowAt (List.map encF a) i) 2), goI (rdI (rowAt (List.map encF a) i) 3),
                                    AV.sl (rdL (rowAt (List.map encF a) i) 4)]]
                              [] =
                            some (goI (U.sizeR (rdL (rowAt (List.map encF a) i) 4)), [], []) ∧
                          Wf Try.prog H 23
                                [AV.agg
                                    [AV.sl (rdL (rowAt (List.map encF a) i) 0),
                                      AV.sl (rdL (rowAt (List.map encF a) i) 1),
                                      goI (rdI (rowAt (List.map encF a) i) 2), goI (rdI (rowAt (List.map encF a) i) 3),
                                      AV.sl (rdL (rowAt (List.map encF a) i) 4)]]
                                [] =
                              some (goI (U.sizeR (rdL (rowAt (List.map encF a) i) 4)), [], []) ∧
                            TB
                              (!U.sizeR (rdL (rowAt (List.map encF a) i) 4) ==
                                  U.sizeR (rdL (rowAt (List.map encF a) i) 4))
                              ((Ex.ret, mkS 56 [(4, goB false)] [Row.dead, Row.dead]) = r)
                              (LoopTo Try.prog H (H 3) 0 (loopOf Try.prog 3 6)
                                (mkS 56
                                  [(1, goI n), (2, AV.pt 0 0 0), (5, goI (IntKind.wrap IntKind.i64 ((↑i : Int) + 1)))]
                                  [Row.box [AV.sl (List.map encF a)], Row.dead])
                                r))
            (Wf Try.prog H 17
                  [AV.agg
                      [AV.sl (rdL (rowAt (List.map encF a) i) 0), AV.sl (rdL (rowAt (List.map encF a) i) 1),
                        goI (rdI (rowAt (List.map encF a) i) 2), goI (rdI (rowAt (List.map encF a) i) 3),
                        AV.sl (rdL (rowAt (List.map encF a) i) 4)],
                    goI n]
                  [] =
                some
                  (AV.os 0 0 (List.length (U.prevR (rdL (rowAt (List.map encF a) i) 4) n)),
                    [Row.arr 1 (List.map encI (U.prevR (rdL (rowAt (List.map encF a) i) 4) n))], []) ∧
              Wf Try.prog H 18
                    [AV.agg
                        [AV.sl (rdL (rowAt (List.map encF a) i) 0), AV.sl (rdL (rowAt (List.map encF a) i) 1),
                          goI (rdI (rowAt (List.map encF a) i) 2), goI (rdI (rowAt (List.map encF a) i) 3),
                          AV.sl (rdL (rowAt (List.map encF a) i) 4)],
                      goI n]
                    [] =
                  some
                    (AV.os 0 0 (List.length (U.prevR (rdL (rowAt (List.map encF a) i) 4) n)),
                      [Row.arr 1 (List.map encI (U.prevR (rdL (rowAt (List.map encF a) i) 4) n))], []) ∧
                Wf Try.prog H 14
                      [AV.sl
                          (List.take (List.length (U.prevR (rdL (rowAt (List.map encF a) i) 4) n))
                            (List.drop 0 (List.map encI (U.prevR (rdL (rowAt (List.map encF a) i) 4) n)))),
                        AV.sl
                          (List.take (List.length (U.prevR (rdL (rowAt (List.map encF a) i) 4) n))
                            (List.drop 0 (List.map encI (U.prevR (rdL (rowAt (List.map encF a) i) 4) n))))]
                      [] =
                    some (goB true, [], []) ∧
                  Wf Try.prog H 20
                        [AV.agg
                            [AV.sl (rdL (rowAt (List.map encF a) i) 0), AV.sl (rdL (rowAt (List.map encF a) i) 1),
                              goI (rdI (rowAt (List.map encF a) i) 2), goI (rdI (rowAt (List.map encF a) i) 3),
                              AV.sl (rdL (rowAt (List.map encF a) i) 4)]]
                        [] =
                      some
                        (AV.os 0 0 (List.length (U.edgesR (rdL (rowAt (List.map encF a) i) 4))),
                          [Row.arr 2 (List.map encE (U.edgesR (rdL (rowAt (List.map encF a) i) 4)))], []) ∧
                    Wf Try.prog H 21
                          [AV.agg
                              [AV.sl (rdL (rowAt (List.map encF a) i) 0), AV.sl (rdL (rowAt (List.map encF a) i) 1),
                                goI (rdI (rowAt (List.map encF a) i) 2), goI (rdI (rowAt (List.map encF a) i) 3),
                                AV.sl (rdL (rowAt (List.map encF a) i) 4)]]
                          [] =
                        some
                          (AV.os 0 0 (List.length (U.edgesR (rdL (rowAt (List.map encF a) i) 4))),
                            [Row.arr 2 (List.map encE (U.edgesR (rdL (rowAt (List.map encF a) i) 4)))], []) ∧
                      Wf Try.prog H 19
                            [AV.sl
                                (List.take (List.length (U.edgesR (rdL (rowAt (List.map encF a) i) 4)))
                                  (List.drop 0 (List.map encE (U.edgesR (rdL (rowAt (List.map encF a) i) 4))))),
                              AV.sl
                                (List.take (List.length (U.edgesR (rdL (rowAt (List.map encF a) i) 4)))
                                  (List.drop 0 (List.map encE (U.edgesR (rdL (rowAt (List.map encF a) i) 4)))))]
                            [] =
                          some (goB true, [], []) ∧
                        Wf Try.prog H 22
                              [AV.agg
                                  [AV.sl (rdL (rowAt (List.map encF a) i) 0), AV.sl (rdL (rowAt (List.map encF a) i) 1),
                                    goI (rdI (rowAt (List.map encF a) i) 2), goI (rdI (rowAt (List.map encF a) i) 3),
                                    AV.sl (rdL (rowAt (List.map encF a) i) 4)]]
                              [] =
                            some (goI (U.sizeR (rdL (rowAt (List.map encF a) i) 4)), [], []) ∧
                          Wf Try.prog H 23
                                [AV.agg
                                    [AV.sl (rdL (rowAt (List.map encF a) i) 0),
                                      AV.sl (rdL (rowAt (List.map encF a) i) 1),
                                      goI (rdI (rowAt (List.map encF a) i) 2), goI (rdI (rowAt (List.map encF a) i) 3),
                                      AV.sl (rdL (rowAt (List.map encF a) i) 4)]]
                                [] =
                              some (goI (U.sizeR (rdL (rowAt (List.map encF a) i) 4)), [], []) ∧
                            TB
                              (!U.sizeR (rdL (rowAt (List.map encF a) i) 4) ==
                                  U.sizeR (rdL (rowAt (List.map encF a) i) 4))
                              ((Ex.ret, mkS 56 [(4, goB false)] [Row.dead, Row.dead]) = r)
                              (LoopTo Try.prog H (H 3) 0 (loopOf Try.prog 3 6)
                                (mkS 56
                                  [(1, goI n), (2, AV.pt 0 0 0), (5, goI (IntKind.wrap IntKind.i64 ((↑i : Int) + 1)))]
                                  [Row.box [AV.sl (List.map encF a)], Row.dead])
                                r)))
  ((Ex.exit 0, mkS 56 [] [Row.dead, Row.dead]) = r)) := by kernel_rfl
theorem prevR_map (bl : List XB) (n : Int) : U.prevR (bl.map encB) n = U.prevAt bl n := by unfold U.prevR; rw [decBs_map]
theorem edgesR_map (bl : List XB) : U.edgesR (bl.map encB) = U.edges bl := by unfold U.edgesR; rw [decBs_map]
theorem sizeR_map (bl : List XB) : U.sizeR (bl.map encB) = U.size bl := by unfold U.sizeR; rw [decBs_map]
theorem wf12 : Wf Try.prog H 12 [] [] = some (goB true, [], []) := Wf_at 60 (by kernel_rfl)
theorem wf14s (l : List Int) (hl : l.length < 1000000) : Wf Try.prog H 14 [.sl (l.map encI), .sl (l.map encI)] [] = some (goB true, [], []) := by
  have h := wf14 l l hl
  rw [same_self] at h
  exact h
theorem codeOk_of {f : XF} (h : SmallF f) : CodeOk f.blocks := fun b hb => (h.2.2.2 b hb).1
theorem loop3_6 (a : List XF) (n : Int) (ha : a.length ≤ 3000) (hs : ∀ f ∈ a, SmallF f) : ∀ (d i : Nat), i + d = a.length →
    LoopTo Try.prog H (H 3) 0 (loopOf Try.prog 3 6) (mkS 56 [(1, goI n), (2, .pt 0 0 0), (5, goI i)] [.box [.sl (a.map encF)], .dead]) (.exit 0, mkS 56 [] [.dead, .dead])
  | 0, i, hd => by
    refine turnK (t3_6 a n i _) ?_
    rw [List.length_map, decide_eq_false (by omega)]
    exact rfl
  | d + 1, i, hd => by
    have hi : i < a.length := by omega
    have ih := loop3_6 a n ha hs d (i + 1) (by omega)
    have hf := hs _ (fun_mem hi)
    have hc := codeOk_of hf
    have hl : (U.fun_ a i).blocks.length ≤ 3000 := hf.2.2.1
    have w15 := wf15 ((U.fun_ a i).kinds.map encI) ((U.fun_ a i).base.map encI) (U.fun_ a i).params (U.fun_ a i).result (U.fun_ a i).blocks n hc
    have w16 := wf16 ((U.fun_ a i).kinds.map encI) ((U.fun_ a i).base.map encI) (U.fun_ a i).params (U.fun_ a i).result (U.fun_ a i).blocks n hc
    have w17 := wf17 ((U.fun_ a i).kinds.map encI) ((U.fun_ a i).base.map encI) (U.fun_ a i).params (U.fun_ a i).result (U.fun_ a i).blocks hc hl n
    have w18 := wf18 ((U.fun_ a i).kinds.map encI) ((U.fun_ a i).base.map encI) (U.fun_ a i).params (U.fun_ a i).result (U.fun_ a i).blocks hc hl n
    have w20 := wf20 ((U.fun_ a i).kinds.map encI) ((U.fun_ a i).base.map encI) (U.fun_ a i).params (U.fun_ a i).result (U.fun_ a i).blocks hc hl
    have w21 := wf21 ((U.fun_ a i).kinds.map encI) ((U.fun_ a i).base.map encI) (U.fun_ a i).params (U.fun_ a i).result (U.fun_ a i).blocks hc hl
    have w22 := wf22 ((U.fun_ a i).kinds.map encI) ((U.fun_ a i).base.map encI) (U.fun_ a i).params (U.fun_ a i).result (U.fun_ a i).blocks hc hl
    have w23 := wf23 ((U.fun_ a i).kinds.map encI) ((U.fun_ a i).base.map encI) (U.fun_ a i).params (U.fun_ a i).result (U.fun_ a i).blocks hc hl
    have wn := wf14s (U.nextAt (U.fun_ a i).blocks n) (by have := nextAt_len (U.fun_ a i).blocks n; omega)
    have wp := wf14s (U.prevAt (U.fun_ a i).blocks n) (by have := prev_len (U.fun_ a i).blocks n (U.fun_ a i).blocks.length 0; unfold U.prevAt; omega)
    have we := wf19 (U.edges (U.fun_ a i).blocks) (by have := edges_len (U.fun_ a i).blocks (U.fun_ a i).blocks.length 0; unfold U.edges; omega)
    refine turnK (t3_6 a n i _) ?_
    rw [List.length_map, decide_eq_true (show (i : Int) < a.length by omega), wrapS hi (by omega), rowF hi, getF hi]
    simp only [encF, rdI, rdL, slOf, List.getD_cons_zero, List.getD_cons_succ, int_goI, nextR_map, prevR_map, edgesR_map, sizeR_map, take_map, beq_self_eq_true]
    rw [List.length_map]
    refine ⟨⟨by omega, by trivial⟩, w15, w16, wn, ?_⟩
    cases hcond : (decide (n < 0) || decide (n ≥ ((U.fun_ a i).blocks.length : Int))) with
    | true =>
      rw [hcond] at w17
      have hz : U.prevAt (U.fun_ a i).blocks n = [] := by
        rw [Bool.or_eq_true, decide_eq_true_eq, decide_eq_true_eq] at hcond
        exact out_prev hcond _ _
      rw [hz] at wp w18 ⊢
      exact ⟨w17, w18, wp, w20, w21, we, w22, w23, ih⟩
    | false =>
      rw [hcond] at w17
      exact ⟨w17, w18, wp, w20, w21, we, w22, w23, ih⟩
theorem wf3 (p : XP) (n : Int) (hp : HandP p) : Wf Try.prog H 3 [.agg (encP p), goI n] [] = some (goB true, [], []) := by
  refine runK (t3 p.funcs n (U.out p) _) ⟨wf12, wf13 p hp, ?_⟩
  cases ho : U.out p with
  | true => exact rfl
  | false =>
    unfold U.out at ho
    rw [Bool.or_eq_false_iff] at ho
    obtain ⟨h1, h2⟩ := small_of ho.1
    exact ⟨loop3_6 p.funcs n h1 h2 p.funcs.length 0 (by omega), rfl⟩
end Go.Proofs.Ytjgnnjoejlijjaa.E
