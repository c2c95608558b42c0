/- Functions, by what the evaluator asks; the theorems t.. were printed by show.txt, a program of this session. -/
import Derived.Test.Ythbkemkjkpaoaac16b
set_option linter.unusedVariables false
set_option linter.unusedSimpArgs false
set_option maxRecDepth 100000
namespace Go.Proofs.Ythbkemkjkpaoaac.E
open Go
namespace U
def slotR (l hs : List (List AV)) (i : Nat) : Int := slotOf (decS l) (decL hs) i
def decI (xs : List (List AV)) : List Int := xs.map fun r => rdI r 0
def expR (l rs : List (List AV)) (p : Int) : List (List AV) := (expire (decS l) p (decI rs)).map encI
def idxR (rs : List (List AV)) (x : Int) : Int := idxI (decI rs) x
def farR (l : List (List AV)) (a b : Nat) : Bool := far (decS l) a b
end U
def F20 : CallT := fun f args sto => match f, args, sto with
 | 26, [_, .v (.int _ p)], [.box [.sl l, .os _ _ a, .os _ _ b], .arr _ hs, .arr _ rs] => .is (.tup [], [.box [.sl l, .os 1 0 a, .os 2 0 b], .arr 2 hs, .arr 1 (U.expR l rs p)], [])
 | 27, [_, .v (.int _ i)], [.box [.sl l, .os _ _ a, .os _ _ b], .arr _ hs, .arr _ rs] => .is (.tup [], [.box [.sl l, .os 1 0 a, .os 2 0 b], .arr 2 (hs.set i.toNat [goI 2, goI (U.slotR l hs i.toNat)]), .arr 1 rs], [])
 | 28, [.sl rs, .v (.int _ x)], _ => .is (goI (U.idxR rs x), [], [])
 | 29, [_, .v (.int _ i), .v (.int _ k)], [.box [.sl l, .os _ _ a, .os _ _ b], .arr _ hs, .arr _ rs] => .is (goB (U.farR l i.toNat k.toNat), [.box [.sl l, .os 1 0 a, .os 2 0 b], .arr 2 hs, .arr 1 rs], [])
 | _, _, _ => .no
def L20 (i : Nat) (f : Nat) (a : Int) : Nat → St → LT := fun id st => .is (.exit 0) (mkS 102 [(0, .pt 0 0 0), (1, goI i), (5, goI f), (6, goI a)] st.sto)

theorem t20 (l : List Span) (hs : List Loc) (rs : List Int) (i : Nat) (f : Nat) (a : Int) (r : AV × List Row × List Nat) : (runT Try.prog H F20 (L20 i f a) false 20 [AV.pt 0 0 0, goI (↑i : Int)] (scn l hs rs) fun q => q = r) = ((0 ≤ (↑i : Int) ∧
    (List.map encS l)[i]? =
      some
        [goI (rdI (rowAt (List.map encS l) i) 0), goI (rdI (rowAt (List.map encS l) i) 1),
          goI (rdI (rowAt (List.map encS l) i) 2), goB (rdB (rowAt (List.map encS l) i) 3)]) ∧
  Wf Try.prog H 26 [AV.pt 0 0 0, goI (rdI (rowAt (List.map encS l) i) 1)]
        [Row.box [AV.sl (List.map encS l), AV.os 1 0 (List.length hs), AV.os 2 0 (List.length rs)],
          Row.arr 2 (List.map encL hs), Row.arr 1 (List.map encI rs)] =
      some
        (AV.tup [],
          [Row.box [AV.sl (List.map encS l), AV.os 1 0 (List.length hs), AV.os 2 0 (List.length rs)],
            Row.arr 2 (List.map encL hs),
            Row.arr 1 (U.expR (List.map encS l) (List.map encI rs) (rdI (rowAt (List.map encS l) i) 1))],
          []) ∧
    (0 ≤ (↑i : Int) ∧
        (List.map encS l)[i]? =
          some
            [goI (rdI (rowAt (List.map encS l) i) 0), goI (rdI (rowAt (List.map encS l) i) 1),
              goI (rdI (rowAt (List.map encS l) i) 2), goB (rdB (rowAt (List.map encS l) i) 3)]) ∧
      TB (rdB (rowAt (List.map encS l) i) 3)
        (Wf Try.prog H 27 [AV.pt 0 0 0, goI (↑i : Int)]
              [Row.box [AV.sl (List.map encS l), AV.os 1 0 (List.length hs), AV.os 2 0 (List.length rs)],
                Row.arr 2 (List.map encL hs),
                Row.arr 1 (U.expR (List.map encS l) (List.map encI rs) (rdI (rowAt (List.map encS l) i) 1))] =
            some
              (AV.tup [],
                [Row.box [AV.sl (List.map encS l), AV.os 1 0 (List.length hs), AV.os 2 0 (List.length rs)],
                  Row.arr 2
                    (List.set (List.map encL hs) i [goI 2, goI (U.slotR (List.map encS l) (List.map encL hs) i)]),
                  Row.arr 1 (U.expR (List.map encS l) (List.map encI rs) (rdI (rowAt (List.map encS l) i) 1))],
                []) ∧
          (AV.tup [],
              [Row.box [AV.sl (List.map encS l), AV.os 1 0 (List.length hs), AV.os 2 0 (List.length rs)],
                Row.arr 2 (List.set (List.map encL hs) i [goI 2, goI (U.slotR (List.map encS l) (List.map encL hs) i)]),
                Row.arr 1 (U.expR (List.map encS l) (List.map encI rs) (rdI (rowAt (List.map encS l) i) 1))],
              []) =
            r)
        (Wf Try.prog H 28
              [AV.sl
                  (List.take (List.length rs)
                    (List.drop 0 (U.expR (List.map encS l) (List.map encI rs) (rdI (rowAt (List.map encS l) i) 1)))),
                goI (-1)]
              [] =
            some
              (goI
                  (U.idxR
                    (List.take (List.length rs)
                      (List.drop 0 (U.expR (List.map encS l) (List.map encI rs) (rdI (rowAt (List.map encS l) i) 1))))
                    (-1)),
                [], []) ∧
          TB
            (decide
              (U.idxR
                  (List.take (List.length rs)
                    (List.drop 0 (U.expR (List.map encS l) (List.map encI rs) (rdI (rowAt (List.map encS l) i) 1))))
                  (-1) ≥
                0))
            ((0 ≤
                  U.idxR
                    (List.take (List.length rs)
                      (List.drop 0 (U.expR (List.map encS l) (List.map encI rs) (rdI (rowAt (List.map encS l) i) 1))))
                    (-1) ∧
                U.idxR
                      (List.take (List.length rs)
                        (List.drop 0 (U.expR (List.map encS l) (List.map encI rs) (rdI (rowAt (List.map encS l) i) 1))))
                      (-1) <
                    (↑(List.length rs) : Int) ∧
                  0 +
                      Int.toNat
                        (U.idxR
                          (List.take (List.length rs)
                            (List.drop 0
                              (U.expR (List.map encS l) (List.map encI rs) (rdI (rowAt (List.map encS l) i) 1))))
                          (-1)) <
                    List.length (U.expR (List.map encS l) (List.map encI rs) (rdI (rowAt (List.map encS l) i) 1))) ∧
              Option.map List.length
                    (U.expR (List.map encS l) (List.map encI rs)
                        (rdI (rowAt (List.map encS l) i)
                          1))[0 +
                        Int.toNat
                          (U.idxR
                            (List.take (List.length rs)
                              (List.drop 0
                                (U.expR (List.map encS l) (List.map encI rs) (rdI (rowAt (List.map encS l) i) 1))))
                            (-1))]? =
                  some 1 ∧
                (0 ≤ (↑i : Int) ∧ (↑i : Int) < (↑(List.length hs) : Int) ∧ 0 + i < List.length (List.map encL hs)) ∧
                  Option.map List.length (List.map encL hs)[0 + i]? = some 2 ∧
                    (AV.tup [],
                        [Row.box [AV.sl (List.map encS l), AV.os 1 0 (List.length hs), AV.os 2 0 (List.length rs)],
                          Row.arr 2
                            (List.set (List.map encL hs) (0 + i)
                              [goI 1,
                                goI
                                  (U.idxR
                                    (List.take (List.length rs)
                                      (List.drop 0
                                        (U.expR (List.map encS l) (List.map encI rs)
                                          (rdI (rowAt (List.map encS l) i) 1))))
                                    (-1))]),
                          Row.arr 1
                            (List.set (U.expR (List.map encS l) (List.map encI rs) (rdI (rowAt (List.map encS l) i) 1))
                              (0 +
                                Int.toNat
                                  (U.idxR
                                    (List.take (List.length rs)
                                      (List.drop 0
                                        (U.expR (List.map encS l) (List.map encI rs)
                                          (rdI (rowAt (List.map encS l) i) 1))))
                                    (-1)))
                              [goI (↑i : Int)])],
                        []) =
                      r)
            (LoopTo Try.prog H (H 20) 3 (loopOf Try.prog 20 8)
                (mkS 102
                  [(0, AV.pt 0 0 0), (1, goI (↑i : Int)), (5, goI (↑i : Int)), (6, goI (-1)),
                    (56, AV.os 2 0 (List.length rs)), (57, goI (↑(List.length rs) : Int)), (58, goI 0)]
                  [Row.box [AV.sl (List.map encS l), AV.os 1 0 (List.length hs), AV.os 2 0 (List.length rs)],
                    Row.arr 2 (List.map encL hs),
                    Row.arr 1 (U.expR (List.map encS l) (List.map encI rs) (rdI (rowAt (List.map encS l) i) 1))])
                (Ex.exit 0,
                  mkS 102 [(0, AV.pt 0 0 0), (1, goI (↑i : Int)), (5, goI (↑f : Int)), (6, goI a)]
                    [Row.box [AV.sl (List.map encS l), AV.os 1 0 (List.length hs), AV.os 2 0 (List.length rs)],
                      Row.arr 2 (List.map encL hs),
                      Row.arr 1 (U.expR (List.map encS l) (List.map encI rs) (rdI (rowAt (List.map encS l) i) 1))]) ∧
              TB (decide (a ≥ 0))
                ((0 ≤ (↑f : Int) ∧ (↑f : Int) < (↑(List.length hs) : Int) ∧ 0 + f < List.length (List.map encL hs)) ∧
                  cutAt 2 0 (List.map encL hs)[0 + f]? =
                      some
                        [goI (rdI (rowAt (List.map encL hs) (0 + f)) 0),
                          goI (rdI (rowAt (List.map encL hs) (0 + f)) 1)] ∧
                    (0 ≤ a ∧
                        a < (↑(List.length rs) : Int) ∧
                          0 + Int.toNat a <
                            List.length
                              (U.expR (List.map encS l) (List.map encI rs) (rdI (rowAt (List.map encS l) i) 1))) ∧
                      Option.map List.length
                            (U.expR (List.map encS l) (List.map encI rs)
                                (rdI (rowAt (List.map encS l) i) 1))[0 + Int.toNat a]? =
                          some 1 ∧
                        (0 ≤ (↑i : Int) ∧
                            (↑i : Int) < (↑(List.length hs) : Int) ∧ 0 + i < List.length (List.map encL hs)) ∧
                          Option.map List.length (List.map encL hs)[0 + i]? = some 2 ∧
                            (0 ≤ (↑f : Int) ∧
                                (↑f : Int) < (↑(List.length hs) : Int) ∧
                                  0 + f <
                                    List.length
                                      (List.set (List.map encL hs) (0 + i)
                                        [goI (rdI (rowAt (List.map encL hs) (0 + f)) 0),
                                          goI (rdI (rowAt (List.map encL hs) (0 + f)) 1)])) ∧
                              Option.map List.length
                                    (List.set (List.map encL hs) (0 + i)
                                        [goI (rdI (rowAt (List.map encL hs) (0 + f)) 0),
                                          goI (rdI (rowAt (List.map encL hs) (0 + f)) 1)])[0 + f]? =
                                  some 2 ∧
                                Wf Try.prog H 27 [AV.pt 0 0 0, goI (↑f : Int)]
                                      [Row.box
                                          [AV.sl (List.map encS l), AV.os 1 0 (List.length hs),
                                            AV.os 2 0 (List.length rs)],
                                        Row.arr 2
                                          (List.set
                                            (List.set (List.map encL hs) (0 + i)
                                              [goI (rdI (rowAt (List.map encL hs) (0 + f)) 0),
                                                goI (rdI (rowAt (List.map encL hs) (0 + f)) 1)])
                                            (0 + f) [goI 0, goI 0]),
                                        Row.arr 1
                                          (List.set
                                            (U.expR (List.map encS l) (List.map encI rs)
                                              (rdI (rowAt (List.map encS l) i) 1))
                                            (0 + Int.toNat a) [goI (↑i : Int)])] =
                                    some
                                      (AV.tup [],
                                        [Row.box
                                            [AV.sl (List.map encS l), AV.os 1 0 (List.length hs),
                                              AV.os 2 0 (List.length rs)],
                                          Row.arr 2
                                            (List.set
                                              (List.set
                                                (List.set (List.map encL hs) (0 + i)
                                                  [goI (rdI (rowAt (List.map encL hs) (0 + f)) 0),
                                                    goI (rdI (rowAt (List.map encL hs) (0 + f)) 1)])
                                                (0 + f) [goI 0, goI 0])
                                              f
                                              [goI 2,
                                                goI
                                                  (U.slotR (List.map encS l)
                                                    (List.set
                                                      (List.set (List.map encL hs) (0 + i)
                                                        [goI (rdI (rowAt (List.map encL hs) (0 + f)) 0),
                                                          goI (rdI (rowAt (List.map encL hs) (0 + f)) 1)])
                                                      (0 + f) [goI 0, goI 0])
                                                    f)]),
                                          Row.arr 1
                                            (List.set
                                              (U.expR (List.map encS l) (List.map encI rs)
                                                (rdI (rowAt (List.map encS l) i) 1))
                                              (0 + Int.toNat a) [goI (↑i : Int)])],
                                        []) ∧
                                  (AV.tup [],
                                      [Row.box
                                          [AV.sl (List.map encS l), AV.os 1 0 (List.length hs),
                                            AV.os 2 0 (List.length rs)],
                                        Row.arr 2
                                          (List.set
                                            (List.set
                                              (List.set (List.map encL hs) (0 + i)
                                                [goI (rdI (rowAt (List.map encL hs) (0 + f)) 0),
                                                  goI (rdI (rowAt (List.map encL hs) (0 + f)) 1)])
                                              (0 + f) [goI 0, goI 0])
                                            f
                                            [goI 2,
                                              goI
                                                (U.slotR (List.map encS l)
                                                  (List.set
                                                    (List.set (List.map encL hs) (0 + i)
                                                      [goI (rdI (rowAt (List.map encL hs) (0 + f)) 0),
                                                        goI (rdI (rowAt (List.map encL hs) (0 + f)) 1)])
                                                    (0 + f) [goI 0, goI 0])
                                                  f)]),
                                        Row.arr 1
                                          (List.set
                                            (U.expR (List.map encS l) (List.map encI rs)
                                              (rdI (rowAt (List.map encS l) i) 1))
                                            (0 + Int.toNat a) [goI (↑i : Int)])],
                                      []) =
                                    r)
                (Wf Try.prog H 27 [AV.pt 0 0 0, goI (↑f : Int)]
                      [Row.box [AV.sl (List.map encS l), AV.os 1 0 (List.length hs), AV.os 2 0 (List.length rs)],
                        Row.arr 2 (List.map encL hs),
                        Row.arr 1 (U.expR (List.map encS l) (List.map encI rs) (rdI (rowAt (List.map encS l) i) 1))] =
                    some
                      (AV.tup [],
                        [Row.box [AV.sl (List.map encS l), AV.os 1 0 (List.length hs), AV.os 2 0 (List.length rs)],
                          Row.arr 2
                            (List.set (List.map encL hs) f
                              [goI 2, goI (U.slotR (List.map encS l) (List.map encL hs) f)]),
                          Row.arr 1 (U.expR (List.map encS l) (List.map encI rs) (rdI (rowAt (List.map encS l) i) 1))],
                        []) ∧
                  (AV.tup [],
                      [Row.box [AV.sl (List.map encS l), AV.os 1 0 (List.length hs), AV.os 2 0 (List.length rs)],
                        Row.arr 2
                          (List.set (List.map encL hs) f [goI 2, goI (U.slotR (List.map encS l) (List.map encL hs) f)]),
                        Row.arr 1 (U.expR (List.map encS l) (List.map encI rs) (rdI (rowAt (List.map encS l) i) 1))],
                      []) =
                    r)))) := by kernel_rfl
theorem t20_8 (l : List Span) (hs : List Loc) (rs : List Int) (i : Nat) (f : Nat) (k : Nat) (a : Int) (r : Ex × St) : (turnT Try.prog H F20 L0 false (H 20) 3 (loopOf Try.prog 20 8)
  (mkS 102
    [(0, AV.pt 0 0 0), (1, goI (↑i : Int)), (5, goI (↑f : Int)), (6, goI a), (56, AV.os 2 0 (List.length rs)),
      (57, goI (↑(List.length rs) : Int)), (58, goI (↑k : Int))]
    (scn l hs rs))
  r) = (TB (decide ((↑k : Int) < (↑(List.length rs) : Int)))
  ((0 ≤ (↑k : Int) ∧ (↑k : Int) < (↑(List.length rs) : Int) ∧ 0 + k < List.length (List.map encI rs)) ∧
    cutAt 1 0 (List.map encI rs)[0 + k]? = some [goI (rdI (rowAt (List.map encI rs) (0 + k)) 0)] ∧
      Wf Try.prog H 29 [AV.pt 0 0 0, goI (rdI (rowAt (List.map encI rs) (0 + k)) 0), goI (↑f : Int)]
            [Row.box [AV.sl (List.map encS l), AV.os 1 0 (List.length hs), AV.os 2 0 (List.length rs)],
              Row.arr 2 (List.map encL hs), Row.arr 1 (List.map encI rs)] =
          some
            (goB (U.farR (List.map encS l) (Int.toNat (rdI (rowAt (List.map encI rs) (0 + k)) 0)) f),
              [Row.box [AV.sl (List.map encS l), AV.os 1 0 (List.length hs), AV.os 2 0 (List.length rs)],
                Row.arr 2 (List.map encL hs), Row.arr 1 (List.map encI rs)],
              []) ∧
        TB (U.farR (List.map encS l) (Int.toNat (rdI (rowAt (List.map encI rs) (0 + k)) 0)) f)
          (LoopTo Try.prog H (H 20) 3 (loopOf Try.prog 20 8)
            (mkS 102
              [(0, AV.pt 0 0 0), (1, goI (↑i : Int)), (5, goI (rdI (rowAt (List.map encI rs) (0 + k)) 0)),
                (6, goI (↑k : Int)), (56, AV.os 2 0 (List.length rs)), (57, goI (↑(List.length rs) : Int)),
                (58, goI (IntKind.wrap IntKind.i64 ((↑k : Int) + 1)))]
              [Row.box [AV.sl (List.map encS l), AV.os 1 0 (List.length hs), AV.os 2 0 (List.length rs)],
                Row.arr 2 (List.map encL hs), Row.arr 1 (List.map encI rs)])
            r)
          (LoopTo Try.prog H (H 20) 3 (loopOf Try.prog 20 8)
            (mkS 102
              [(0, AV.pt 0 0 0), (1, goI (↑i : Int)), (5, goI (↑f : Int)), (6, goI a), (56, AV.os 2 0 (List.length rs)),
                (57, goI (↑(List.length rs) : Int)), (58, goI (IntKind.wrap IntKind.i64 ((↑k : Int) + 1)))]
              [Row.box [AV.sl (List.map encS l), AV.os 1 0 (List.length hs), AV.os 2 0 (List.length rs)],
                Row.arr 2 (List.map encL hs), Row.arr 1 (List.map encI rs)])
            r))
  ((Ex.exit 0,
      mkS 102 [(0, AV.pt 0 0 0), (1, goI (↑i : Int)), (5, goI (↑f : Int)), (6, goI a)]
        [Row.box [AV.sl (List.map encS l), AV.os 1 0 (List.length hs), AV.os 2 0 (List.length rs)],
          Row.arr 2 (List.map encL hs), Row.arr 1 (List.map encI rs)]) =
    r)) := by kernel_rfl
theorem decI_map (l : List Int) : U.decI (l.map encI) = l := by
  unfold U.decI
  rw [List.map_map]
  refine (List.map_congr_left (g := id) (fun m _ => ?_)).trans (List.map_id l)
  rfl
namespace U
/-- Who goes on longest, of those that have registers, and the span itself. -/
def pick (l : List Span) : List Int → Nat → Nat → Int → Nat × Int
  | [], _, f, a => (f, a)
  | k :: rest, r, f, a => if far l k.toNat f then pick l rest (r + 1) k.toNat r else pick l rest (r + 1) f a
/-- A span gets its location. -/
def place (l : List Span) (i : Nat) (hs : List Loc) (rs : List Int) : List Loc × List Int :=
  if (sp l i).call then (hs.set i ⟨2, slotOf l hs i⟩, expire l (sp l i).fr rs)
  else if 0 ≤ idxI (expire l (sp l i).fr rs) (-1) then (hs.set i ⟨1, idxI (expire l (sp l i).fr rs) (-1)⟩, (expire l (sp l i).fr rs).set (idxI (expire l (sp l i).fr rs) (-1)).toNat i)
  else
    let q := pick l (expire l (sp l i).fr rs) 0 i (-1)
    if 0 ≤ q.2 then (((hs.set i (lc hs q.1)).set q.1 ⟨0, 0⟩).set q.1 ⟨2, slotOf l ((hs.set i (lc hs q.1)).set q.1 ⟨0, 0⟩) q.1⟩, (expire l (sp l i).fr rs).set q.2.toNat i)
    else (hs.set q.1 ⟨2, slotOf l hs q.1⟩, expire l (sp l i).fr rs)
end U
theorem loop20_8 (l : List Span) (hs : List Loc) (rs : List Int) (i : Nat) (hl : rs.length < 1000000) (hr : ∀ k ∈ rs, 0 ≤ k ∧ k < l.length) : ∀ (d k f : Nat) (a : Int), k + d = rs.length → f < l.length →
    LoopTo Try.prog H (H 20) 3 (loopOf Try.prog 20 8) (mkS 102 [(0, .pt 0 0 0), (1, goI i), (5, goI f), (6, goI a), (56, .os 2 0 rs.length), (57, goI rs.length), (58, goI k)] (scn l hs rs))
      (.exit 0, mkS 102 [(0, .pt 0 0 0), (1, goI i), (5, goI (U.pick l (rs.drop k) k f a).1), (6, goI (U.pick l (rs.drop k) k f a).2)] (scn l hs rs))
  | 0, k, f, a, hd, hf => by
    refine turnK (t20_8 l hs rs i f k a _) ?_
    rw [decide_eq_false (by omega), List.drop_eq_nil_of_le (by omega)]
    exact rfl
  | d + 1, k, f, a, hd, hf => by
    have hk : k < rs.length := by omega
    refine turnK (t20_8 l hs rs i f k a _) ?_
    have hrk := hr _ (nt_mem hk)
    obtain ⟨w, hw⟩ : ∃ w : Nat, U.nt rs k = w := ⟨(U.nt rs k).toNat, by omega⟩
    rw [hw] at hrk
    have hwl : w < l.length := by omega
    have h29 := wf29 l hs rs w f hwl hf
    have ed : rs.drop k = (w : Int) :: rs.drop (k + 1) := by rw [drop_cons' rs hk, ← hw]; rfl
    have ef : U.farR (l.map encS) w f = U.far l w f := by unfold U.farR; rw [decS_map]
    rw [decide_eq_true (by omega), wrapS hk hl, Nat.zero_add, rowI hk, getI hk, hw, ed]
    simp only [rdI, List.getD_cons_zero, int_goI, Int.toNat_natCast]
    rw [ef]
    refine ⟨⟨by omega, by omega, by rw [List.length_map]; exact hk⟩, by rfl, h29, ?_⟩
    have ep : U.pick l ((w : Int) :: rs.drop (k + 1)) k f a = if U.far l w f then U.pick l (rs.drop (k + 1)) (k + 1) w k else U.pick l (rs.drop (k + 1)) (k + 1) f a := by
      simp only [U.pick, Int.toNat_natCast]
    rw [ep]
    cases U.far l w f with
    | true => exact loop20_8 l hs rs i hl hr d (k + 1) w k (by omega) hwl
    | false => exact loop20_8 l hs rs i hl hr d (k + 1) f a (by omega) hf
theorem pick_spec (l : List Span) : ∀ (rs : List Int) (r f : Nat) (a : Int), (∀ k ∈ rs, 0 ≤ k ∧ k < l.length) → f < l.length → (U.pick l rs r f a).1 < l.length ∧ ((U.pick l rs r f a).2 = a ∨ (∃ q : Nat, (U.pick l rs r f a).2 = q ∧ r ≤ q ∧ q < r + rs.length))
  | [], r, f, a, _, hf => ⟨hf, .inl rfl⟩
  | k :: rs, r, f, a, hr, hf => by
    have hk := hr k (by simp)
    simp only [U.pick]
    split
    · obtain ⟨h1, h2⟩ := pick_spec l rs (r + 1) k.toNat r (fun k hk => hr k (by simp [hk])) (by omega)
      refine ⟨h1, .inr ?_⟩
      rcases h2 with h2 | ⟨q, h2, h3, h4⟩
      · exact ⟨r, h2, Nat.le_refl _, by simp⟩
      · exact ⟨q, h2, by omega, by simp; omega⟩
    · obtain ⟨h1, h2⟩ := pick_spec l rs (r + 1) f a (fun k hk => hr k (by simp [hk])) hf
      refine ⟨h1, ?_⟩
      rcases h2 with h2 | ⟨q, h2, h3, h4⟩
      · exact .inl h2
      · exact .inr ⟨q, h2, by omega, by simp; omega⟩
theorem expire_ok {l : List Span} {p : Int} {rs : List Int} (hr : RegsOk l.length rs) : RegsOk l.length (U.expire l p rs) := fun k hk => by
  obtain ⟨k0, h0, rfl⟩ := List.mem_map.1 hk
  unfold U.expire1
  split
  · exact .inl rfl
  · exact hr k0 h0
theorem expire_len (l : List Span) (p : Int) (rs : List Int) : (U.expire l p rs).length = rs.length := by simp [U.expire]
set_option maxHeartbeats 1000000 in
theorem wf20 (l : List Span) (hs : List Loc) (rs : List Int) (i : Nat) (hi : i < l.length) (hh : hs.length = l.length) (hl : l.length < 100000) (hr : RegsOk l.length rs) (hrl : rs.length < 100000) : Wf Try.prog H 20 [.pt 0 0 0, goI i] (scn l hs rs) = some (.tup [], scn l (U.place l i hs rs).1 (U.place l i hs rs).2, []) := by
  have h26 := wf26 l hs rs (U.sp l i).fr hr (by omega)
  have hr1 := expire_ok (p := (U.sp l i).fr) hr
  have hlen1 := expire_len l (U.sp l i).fr rs
  have eexp : U.expR (l.map encS) (rs.map encI) (U.sp l i).fr = (U.expire l (U.sp l i).fr rs).map encI := by unfold U.expR; rw [decS_map, decI_map]
  unfold U.place
  have eslot : ∀ (gs : List Loc) (j : Nat), U.slotR (l.map encS) (gs.map encL) j = U.slotOf l gs j := fun gs j => by unfold U.slotR; rw [decS_map, decL_map]
  have eidx : ∀ (qs : List Int) (x : Int), U.idxR (qs.map encI) x = U.idxI qs x := fun qs x => by unfold U.idxR; rw [decI_map]
  generalize hrs : U.expire l (U.sp l i).fr rs = rs1 at h26 hr1 hlen1 eexp
  have htk : List.take rs.length (List.drop 0 (rs1.map encI)) = rs1.map encI := by rw [← hlen1]; exact take_map encI rs1
  have hset2 : ∀ (gs : List Loc) (j : Nat) (x : Loc), (gs.map encL).set j [goI x.k, goI x.n] = (gs.set j x).map encL := fun gs j x => set_map encL gs j x
  have h28 := wf28 rs1 (-1) (by omega)
  have hsl : ((l.map encS)[i]? = some [goI (U.sp l i).v, goI (U.sp l i).fr, goI (U.sp l i).to, goB (U.sp l i).call]) := getS hi
  cases hc : (U.sp l i).call with
  | true =>
    have h27 := wf27 l hs rs1 i hi hh hl
    refine runK (t20 l hs rs i 0 0 _) ?_
    rw [rowS hi, hsl]
    simp only [rdI, rdB, List.getD_cons_zero, List.getD_cons_succ, int_goI, bool_goB]
    rw [eexp, hc, eslot]
    refine ⟨⟨by omega, by trivial⟩, ?_, ⟨by omega, by trivial⟩, ?_, ?_⟩
    · unfold scn at h26; rw [hlen1] at h26; exact h26
    · unfold scn at h27; rw [hlen1, List.length_set] at h27
      rw [hset2 hs i ⟨2, U.slotOf l hs i⟩]
      exact h27
    · rw [hset2 hs i ⟨2, U.slotOf l hs i⟩]
      simp [scn, hlen1]
  | false =>
    by_cases hx : 0 ≤ U.idxI rs1 (-1)
    · obtain ⟨w, hw1, _, hw2, hw3⟩ := firstOf_val _ _ _ hx
      have hw1' : U.idxI rs1 (-1) = w := hw1
      refine runK (t20 l hs rs i 0 0 _) ?_
      rw [rowS hi, hsl]
      simp only [rdI, rdB, List.getD_cons_zero, List.getD_cons_succ, int_goI, bool_goB]
      rw [eexp, hc, htk, eidx, hw1', Int.toNat_natCast, decide_eq_true (show ((w : Nat) : Int) ≥ 0 by omega)]
      rw [hw1'] at h28
      refine ⟨⟨by omega, by trivial⟩, ?_, ⟨by omega, by trivial⟩, h28, ⟨by omega, by omega, by rw [List.length_map]; omega⟩, ?_, ⟨by omega, by omega, by rw [List.length_map]; omega⟩, ?_, ?_⟩
      · unfold scn at h26; rw [hlen1] at h26; exact h26
      · rw [Nat.zero_add, getI (by omega)]; rfl
      · rw [Nat.zero_add, getL (by omega)]; rfl
      · rw [Nat.zero_add, Nat.zero_add, set_mapI, hset2 hs i ⟨1, w⟩]
        simp [scn, hlen1]
    · have hneg : U.idxI rs1 (-1) = -1 := (firstOf_neg _ _ _).resolve_left hx
      have hall : ∀ k ∈ rs1, 0 ≤ k ∧ k < l.length := fun k hk => by
        rcases hr1 k hk with h | h
        · exfalso
          subst h
          obtain ⟨j, hj, hje⟩ := mem_getD (K := rs1) hk
          exact hx (firstOf_ge _ _ 0 j (Nat.zero_le _) (by omega) (decide_eq_true (by unfold U.nt; exact hje)))
        · exact h
      obtain ⟨hp1, hp2⟩ := pick_spec l rs1 0 i (-1) hall hi
      have h8 := loop20_8 l hs rs1 i (by omega) hall rs1.length 0 i (-1) (by omega) hi
      rw [List.drop_zero] at h8
      generalize hq : U.pick l rs1 0 i (-1) = q at hp1 hp2 h8
      obtain ⟨f, a⟩ := q
      simp only at hp1 hp2 h8 ⊢
      refine runK (t20 l hs rs i f a _) ?_
      rw [rowS hi, hsl]
      simp only [rdI, rdB, List.getD_cons_zero, List.getD_cons_succ, int_goI, bool_goB]
      rw [eexp, hc, htk, eidx, hneg]
      rw [hneg] at h28
      have h26' : Wf Try.prog H 26 [.pt 0 0 0, goI (U.sp l i).fr] [.box [.sl (l.map encS), .os 1 0 hs.length, .os 2 0 rs.length], .arr 2 (hs.map encL), .arr 1 (rs.map encI)] = some (.tup [], [.box [.sl (l.map encS), .os 1 0 hs.length, .os 2 0 rs.length], .arr 2 (hs.map encL), .arr 1 (rs1.map encI)], []) := by
        unfold scn at h26; rw [hlen1] at h26; exact h26
      have h8' := h8
      unfold scn at h8'
      rw [hlen1] at h8'
      refine ⟨⟨by omega, by trivial⟩, h26', ⟨by omega, by trivial⟩, h28, h8', ?_⟩
      rcases hp2 with hp2 | ⟨w, hp2, _, hp3⟩
      · subst hp2
        have h27 := wf27 l hs rs1 f hp1 hh hl
        have hno : decide ((-1 : Int) ≥ 0) = false := rfl
        rw [hno, eslot]
        refine ⟨?_, ?_⟩
        · unfold scn at h27; rw [hlen1, List.length_set] at h27
          rw [hset2 hs f ⟨2, U.slotOf l hs f⟩]
          exact h27
        · rw [hset2 hs f ⟨2, U.slotOf l hs f⟩]
          simp [scn, hlen1]
      · subst hp2
        have hff : f < hs.length := by omega
        have h27 := wf27 l ((hs.set i (U.lc hs f)).set f ⟨0, 0⟩) (rs1.set w i) f hp1 (by simp [hh]) hl
        rw [decide_eq_true (show ((w : Nat) : Int) ≥ 0 by omega), Int.toNat_natCast, Nat.zero_add, Nat.zero_add, Nat.zero_add, rowL hff, getL hff]
        simp only [List.getD_cons_zero, List.getD_cons_succ, int_goI]
        have e1 : (hs.map encL).set i [goI (U.lc hs f).k, goI (U.lc hs f).n] = (hs.set i (U.lc hs f)).map encL := hset2 hs i _
        have e2 : ((hs.set i (U.lc hs f)).map encL).set f [goI 0, goI 0] = ((hs.set i (U.lc hs f)).set f ⟨0, 0⟩).map encL := hset2 _ f ⟨0, 0⟩
        rw [e1, e2, set_mapI, eslot, hset2 _ f ⟨2, U.slotOf l ((hs.set i (U.lc hs f)).set f ⟨0, 0⟩) f⟩]
        have h27' := h27
        unfold scn at h27'
        simp only [List.length_set] at h27'
        rw [hlen1] at h27'
        refine ⟨⟨by omega, by omega, by rw [List.length_map]; exact hff⟩, by rfl, ⟨by omega, by omega, by rw [List.length_map]; omega⟩, ?_, ⟨by omega, by omega, by rw [List.length_map]; omega⟩, ?_, ⟨by omega, by omega, by rw [List.length_map, List.length_set]; exact hff⟩, ?_, ?_⟩
        · rw [getI (by omega)]; rfl
        · rw [getL (by omega)]; rfl
        · rw [getL (by rw [List.length_set]; exact hff)]; rfl
        · refine ⟨h27', ?_⟩
          simp [scn, hlen1]
end Go.Proofs.Ythbkemkjkpaoaac.E
