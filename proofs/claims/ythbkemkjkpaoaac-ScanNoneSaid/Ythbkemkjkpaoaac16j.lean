/- Functions, by what the evaluator asks; the theorems t.. were printed by show.txt, a program of this session. -/
import Derived.Test.Ythbkemkjkpaoaac16i
set_option linter.unusedVariables false
set_option linter.unusedSimpArgs false
set_option maxRecDepth 100000
namespace Go.Proofs.Ythbkemkjkpaoaac.E
open Go
namespace U
def good (l : List Span) (k : Int) : Bool := !(decide (k < 0) || (decide (k > 32) || !(right l)))
def goodR (l : List (List AV)) (k : Int) : Bool := good (decS l) k
def scanR (l : List (List AV)) (k : Int) : List (List AV) := (scan (decS l) k.toNat).map encL
def sameLR (a b : List (List AV)) : Bool := decide ((decL a).length = (decL b).length) && sameL (decL a) (decL b) 0
def sameSR (a b : List (List AV)) : Bool := decide ((decS a).length = (decS b).length) && sameS (decS a) (decS b) 0
end U
def F3 : CallT := fun f args sto => match f, args with
 | 8, _ => .is (goB true, [], [])
 | 9, [.sl l, .v (.int _ k)] => .by (U.goodR l k) (.is (.tup [.os 0 0 l.length, goI 0], [.arr 2 (U.scanR l k)], [])) (.is (.tup [.sl [], goI 1], [], []))
 | 10, [.sl l, .v (.int _ k)] => .by (U.goodR l k) (.is (.tup [.os 0 0 l.length, goI 0], [.arr 2 (U.scanR l k)], [])) (.is (.tup [.sl [], goI 1], [], []))
 | 11, [.sl a, .sl b] => .is (goB (U.sameLR a b), [], [])
 | 12, [.sl l] => .is (goB (U.rightR l), [], [])
 | 13, [.sl l] => .is (goB (U.rightR l), [], [])
 | 14, [.sl a, .sl b] => .is (goB (U.sameSR a b), [], [])
 | _, _ => .no

theorem t3 (l : List Span) (k : Int) (r : AV × List Row × List Nat) : (runT Try.prog H F3 L0 false 3 [AV.sl (List.map encS l), goI k] [] fun q => q = r) = (Wf Try.prog H 8 [] [] = some (goB true, [], []) ∧
  TB (decide ((↑(List.length (List.map encS l)) : Int) > 100)) ((goB true, [], []) = r)
    (rowsOk 4 (List.map encS l) = true ∧
      (0 = 0 ∧ 0 + List.length (List.map encS l) ≤ 1000000) ∧
        TB (U.goodR (List.take (0 + List.length (List.map encS l)) (List.drop 0 ([] ++ List.map encS l))) k)
          (Wf Try.prog H 9
                [AV.sl (List.take (0 + List.length (List.map encS l)) (List.drop 0 ([] ++ List.map encS l))), goI k]
                [] =
              some
                (AV.tup
                    [AV.os 0 0
                        (List.length
                          (List.take (0 + List.length (List.map encS l)) (List.drop 0 ([] ++ List.map encS l)))),
                      goI 0],
                  [Row.arr 2
                      (U.scanR (List.take (0 + List.length (List.map encS l)) (List.drop 0 ([] ++ List.map encS l)))
                        k)],
                  []) ∧
            (List.all (U.scanR (List.take (0 + List.length (List.map encS l)) (List.drop 0 ([] ++ List.map encS l))) k)
                  fun r => List.all r scalarA) =
                true ∧
              TB (U.goodR (List.map encS l) k)
                (Wf Try.prog H 10 [AV.sl (List.map encS l), goI k] [] =
                    some
                      (AV.tup [AV.os 0 0 (List.length (List.map encS l)), goI 0],
                        [Row.arr 2 (U.scanR (List.map encS l) k)], []) ∧
                  Wf Try.prog H 11
                        [AV.sl
                            (List.take
                              (List.length
                                (List.take (0 + List.length (List.map encS l)) (List.drop 0 ([] ++ List.map encS l))))
                              (List.drop 0
                                (U.scanR
                                  (List.take (0 + List.length (List.map encS l)) (List.drop 0 ([] ++ List.map encS l)))
                                  k))),
                          AV.sl (List.take (List.length (List.map encS l)) (List.drop 0 (U.scanR (List.map encS l) k)))]
                        [] =
                      some
                        (goB
                            (U.sameLR
                              (List.take
                                (List.length
                                  (List.take (0 + List.length (List.map encS l)) (List.drop 0 ([] ++ List.map encS l))))
                                (List.drop 0
                                  (U.scanR
                                    (List.take (0 + List.length (List.map encS l))
                                      (List.drop 0 ([] ++ List.map encS l)))
                                    k)))
                              (List.take (List.length (List.map encS l)) (List.drop 0 (U.scanR (List.map encS l) k)))),
                          [], []) ∧
                    TB
                      (U.sameLR
                        (List.take
                          (List.length
                            (List.take (0 + List.length (List.map encS l)) (List.drop 0 ([] ++ List.map encS l))))
                          (List.drop 0
                            (U.scanR
                              (List.take (0 + List.length (List.map encS l)) (List.drop 0 ([] ++ List.map encS l))) k)))
                        (List.take (List.length (List.map encS l)) (List.drop 0 (U.scanR (List.map encS l) k))))
                      (Wf Try.prog H 12
                            [AV.sl
                                (List.take (0 + List.length (List.map encS l)) (List.drop 0 ([] ++ List.map encS l)))]
                            [] =
                          some
                            (goB
                                (U.rightR
                                  (List.take (0 + List.length (List.map encS l))
                                    (List.drop 0 ([] ++ List.map encS l)))),
                              [], []) ∧
                        Wf Try.prog H 13 [AV.sl (List.map encS l)] [] =
                            some (goB (U.rightR (List.map encS l)), [], []) ∧
                          TB
                            (U.rightR
                                (List.take (0 + List.length (List.map encS l)) (List.drop 0 ([] ++ List.map encS l))) ==
                              U.rightR (List.map encS l))
                            (Wf Try.prog H 14
                                  [AV.sl
                                      (List.take (0 + List.length (List.map encS l))
                                        (List.drop 0 ([] ++ List.map encS l))),
                                    AV.sl (List.map encS l)]
                                  [] =
                                some
                                  (goB
                                      (U.sameSR
                                        (List.take (0 + List.length (List.map encS l))
                                          (List.drop 0 ([] ++ List.map encS l)))
                                        (List.map encS l)),
                                    [], []) ∧
                              (goB
                                    (U.sameSR
                                      (List.take (0 + List.length (List.map encS l))
                                        (List.drop 0 ([] ++ List.map encS l)))
                                      (List.map encS l)),
                                  [], []) =
                                r)
                            ((goB false, [], []) = r))
                      ((goB false, [], []) = r))
                (Wf Try.prog H 10 [AV.sl (List.map encS l), goI k] [] = some (AV.tup [AV.sl [], goI 1], [], []) ∧
                  Wf Try.prog H 11
                        [AV.sl
                            (List.take
                              (List.length
                                (List.take (0 + List.length (List.map encS l)) (List.drop 0 ([] ++ List.map encS l))))
                              (List.drop 0
                                (U.scanR
                                  (List.take (0 + List.length (List.map encS l)) (List.drop 0 ([] ++ List.map encS l)))
                                  k))),
                          AV.sl []]
                        [] =
                      some
                        (goB
                            (U.sameLR
                              (List.take
                                (List.length
                                  (List.take (0 + List.length (List.map encS l)) (List.drop 0 ([] ++ List.map encS l))))
                                (List.drop 0
                                  (U.scanR
                                    (List.take (0 + List.length (List.map encS l))
                                      (List.drop 0 ([] ++ List.map encS l)))
                                    k)))
                              []),
                          [], []) ∧
                    TB
                      (U.sameLR
                        (List.take
                          (List.length
                            (List.take (0 + List.length (List.map encS l)) (List.drop 0 ([] ++ List.map encS l))))
                          (List.drop 0
                            (U.scanR
                              (List.take (0 + List.length (List.map encS l)) (List.drop 0 ([] ++ List.map encS l))) k)))
                        [])
                      ((goB false, [], []) = r) ((goB false, [], []) = r)))
          (Wf Try.prog H 9
                [AV.sl (List.take (0 + List.length (List.map encS l)) (List.drop 0 ([] ++ List.map encS l))), goI k]
                [] =
              some (AV.tup [AV.sl [], goI 1], [], []) ∧
            TB (U.goodR (List.map encS l) k)
              (Wf Try.prog H 10 [AV.sl (List.map encS l), goI k] [] =
                  some
                    (AV.tup [AV.os 0 0 (List.length (List.map encS l)), goI 0],
                      [Row.arr 2 (U.scanR (List.map encS l) k)], []) ∧
                Wf Try.prog H 11
                      [AV.sl [],
                        AV.sl (List.take (List.length (List.map encS l)) (List.drop 0 (U.scanR (List.map encS l) k)))]
                      [] =
                    some
                      (goB
                          (U.sameLR []
                            (List.take (List.length (List.map encS l)) (List.drop 0 (U.scanR (List.map encS l) k)))),
                        [], []) ∧
                  TB
                    (U.sameLR []
                      (List.take (List.length (List.map encS l)) (List.drop 0 (U.scanR (List.map encS l) k))))
                    ((goB false, [], []) = r) ((goB false, [], []) = r))
              (Wf Try.prog H 10 [AV.sl (List.map encS l), goI k] [] = some (AV.tup [AV.sl [], goI 1], [], []) ∧
                Wf Try.prog H 11 [AV.sl [], AV.sl []] [] = some (goB true, [], []) ∧
                  Wf Try.prog H 12
                        [AV.sl (List.take (0 + List.length (List.map encS l)) (List.drop 0 ([] ++ List.map encS l)))]
                        [] =
                      some
                        (goB
                            (U.rightR
                              (List.take (0 + List.length (List.map encS l)) (List.drop 0 ([] ++ List.map encS l)))),
                          [], []) ∧
                    Wf Try.prog H 13 [AV.sl (List.map encS l)] [] = some (goB (U.rightR (List.map encS l)), [], []) ∧
                      TB
                        (U.rightR
                            (List.take (0 + List.length (List.map encS l)) (List.drop 0 ([] ++ List.map encS l))) ==
                          U.rightR (List.map encS l))
                        (Wf Try.prog H 14
                              [AV.sl
                                  (List.take (0 + List.length (List.map encS l)) (List.drop 0 ([] ++ List.map encS l))),
                                AV.sl (List.map encS l)]
                              [] =
                            some
                              (goB
                                  (U.sameSR
                                    (List.take (0 + List.length (List.map encS l))
                                      (List.drop 0 ([] ++ List.map encS l)))
                                    (List.map encS l)),
                                [], []) ∧
                          (goB
                                (U.sameSR
                                  (List.take (0 + List.length (List.map encS l)) (List.drop 0 ([] ++ List.map encS l)))
                                  (List.map encS l)),
                              [], []) =
                            r)
                        ((goB false, [], []) = r))))) := by kernel_rfl
theorem good_of {l : List Span} {k : Int} (h : U.good l k = true) : ∃ n : Nat, k = n ∧ n ≤ 32 ∧ U.right l = true := by
  unfold U.good at h
  simp only [Bool.not_eq_true', Bool.or_eq_false_iff, decide_eq_false_iff_not, Bool.not_eq_false'] at h
  exact ⟨k.toNat, by omega, by omega, h.2.2⟩
theorem good_no {l : List Span} {k : Int} (h : U.good l k = false) : (decide (k < 0) || (decide (k > 32) || !(U.right l))) = true := by
  unfold U.good at h
  simpa only [Bool.not_eq_false'] using h
theorem scan_len (l : List Span) (n : Nat) : (U.scan l n).length = l.length := (upTo_len l n l.length).1
theorem goodR_map (l : List Span) (k : Int) : U.goodR (l.map encS) k = U.good l k := by unfold U.goodR; rw [decS_map]
theorem scanR_map (l : List Span) (n : Nat) : U.scanR (l.map encS) n = (U.scan l n).map encL := by unfold U.scanR; rw [decS_map, Int.toNat_natCast]
theorem sameLR_map (a b : List Loc) : U.sameLR (a.map encL) (b.map encL) = (decide (a.length = b.length) && U.sameL a b 0) := by unfold U.sameLR; rw [decL_map, decL_map]
theorem sameSR_map (a b : List Span) : U.sameSR (a.map encS) (b.map encS) = (decide (a.length = b.length) && U.sameS a b 0) := by unfold U.sameSR; rw [decS_map, decS_map]
theorem rightR_map (l : List Span) : U.rightR (l.map encS) = U.right l := by unfold U.rightR; rw [decS_map]
theorem take_scan (l : List Span) (n : Nat) : List.take l.length (List.drop 0 ((U.scan l n).map encL)) = (U.scan l n).map encL := by
  have h := take_map encL (U.scan l n)
  rw [scan_len] at h
  exact h
theorem scalarL (l : List Loc) : ((l.map encL).all fun r => r.all scalarA) = true := by
  rw [List.all_map, List.all_eq_true]
  intro x _
  rfl
theorem wf3 (l : List Span) (k : Int) (hw : ∀ s ∈ l, In64 s.v) : Wf Try.prog H 3 [.sl (l.map encS), goI k] [] = some (goB true, [], []) := by
  refine runK (t3 l k _) ⟨wf8, ?_⟩
  rw [List.length_map]
  by_cases h1 : 100 < l.length
  · rw [decide_eq_true (by omega)]; exact rfl
  rw [decide_eq_false (by omega)]
  have eall : List.take (0 + l.length) (List.drop 0 ([] ++ l.map encS)) = l.map encS := by rw [Nat.zero_add, List.nil_append]; exact take_map encS l
  rw [eall, goodR_map, rightR_map, sameSR_map, selfS]
  refine ⟨rowsOk_of (enc := encS) (s := 4) (fun _ => rfl) l, ⟨rfl, by omega⟩, ?_⟩
  have h12 := wf12 l hw
  have h13 := wf13 l
  have h14 := wf14 l l (by omega)
  rw [selfS] at h14
  cases hg : U.good l k with
  | false =>
    have h11 := wf11 [] [] (by simp)
    refine ⟨wf9_no l k hw (good_no hg), wf10_no l k (good_no hg), h11, h12, h13, ?_⟩
    rw [beq_self_eq_true]
    exact ⟨h14, rfl⟩
  | true =>
    obtain ⟨n, rfl, hn, hR⟩ := good_of hg
    have h11 := wf11 (U.scan l n) (U.scan l n) (by rw [scan_len]; omega)
    rw [selfL] at h11
    have h9 := wf9 l n hw hn hR
    have h10 := wf10 l n hn hR (who_all n hR)
    rw [scanR_map, List.length_map, take_scan, sameLR_map, selfL]
    refine ⟨h9, scalarL _, h10, h11, h12, h13, ?_⟩
    rw [beq_self_eq_true]
    exact ⟨h14, rfl⟩
end Go.Proofs.Ythbkemkjkpaoaac.E
