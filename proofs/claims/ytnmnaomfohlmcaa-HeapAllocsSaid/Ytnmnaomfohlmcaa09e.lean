/- Functions, by what the evaluator asks; the theorems t.. were printed by show.txt, a program of this session. -/
import Derived.Test.Ytnmnaomfohlmcaa09c
set_option linter.unusedVariables false
set_option linter.unusedSimpArgs false
set_option maxRecDepth 100000
namespace Go.Proofs.Ytnmnaomfohlmcaa.E
open Go
namespace U
def greatR (l : List (List AV)) : Bool := decide (great (decO l) l.length > 300)
def leR (l : List (List AV)) (o n : Int) : Int := le (decO l) o n
def lvR (l : List (List AV)) (o n : Int) : Int := lv (decO l) o n
def reR (l : List (List AV)) (o n : Int) : Int := re (decO l) o n
def rvR (l : List (List AV)) (o n : Int) : Int := rv (decO l) o n
def storedR (l : List (List AV)) (o n v : Int) : List (List AV) := (stored (decO l) o n v).map encO
def sameR (a b : List (List AV)) : Bool := same (decO a) (decO b)
end U
def F5 : CallT := fun f args sto => match f, args with
 | 8, _ => .is (goB true, [], [])
 | 9, [.agg [.sl l]] => .is (goB (U.greatR l), [], [])
 | 13, [.agg [.sl l], .agg [.sl m]] => .is (goB (U.sameR l m), [], [])
 | 14, [.agg [.sl l]] => .is (goB (U.rightR l), [], [])
 | 19, [.agg [.sl l], .v (.int _ o), .v (.int _ n), .v (.int _ v)] => .by (decide (U.leR l o n = 0)) (.is (.tup [.agg [.os 0 0 l.length], goI 0], [.arr 2 (U.storedR l o n v)], [])) (.is (.tup [.agg [.sl l], goI (U.leR l o n)], [], []))
 | 20, [.agg [.sl l], .v (.int _ o), .v (.int _ n)] => .is (.tup [goI (U.lvR l o n), goI (U.leR l o n)], [], [])
 | 21, [.agg [.sl l], .v (.int _ o), .v (.int _ n)] => .is (.tup [goI (U.rvR l o n), goI (U.reR l o n)], [], [])
 | _, _ => .no
set_option maxHeartbeats 4000000

theorem t5 (h : List Obj) (a : Int) (b : Int) (c : Int) (x : Int) (y : Int) (z : Int) (r : AV × List Row × List Nat) : (runT Try.prog H F5 L0 false 5 [hp h, AV.agg [goI a, goI b, goI c], AV.agg [goI x, goI y, goI z]] [] fun q => q = r) = (Wf Try.prog H 8 [] [] = some (goB true, [], []) ∧
  Wf Try.prog H 9 [AV.agg [AV.sl (List.map encO h)]] [] = some (goB (U.greatR (List.map encO h)), [], []) ∧
    TB (U.greatR (List.map encO h)) ((goB true, [], []) = r)
      ((iz 0 ≤ 0 ∧ 0 < (↑3 : Int)) ∧
        (iz 0 ≤ 1 ∧ 1 < (↑3 : Int)) ∧
          (iz 0 ≤ 2 ∧ 2 < (↑3 : Int)) ∧
            TB (decide (U.leR (List.map encO h) a b = 0))
              (Wf Try.prog H 19 [AV.agg [AV.sl (List.map encO h)], goI a, goI b, goI c] [] =
                  some
                    (AV.tup [AV.agg [AV.os 0 0 (List.length (List.map encO h))], goI 0],
                      [Row.arr 2 (U.storedR (List.map encO h) a b c)], []) ∧
                (iz 0 ≤ 0 ∧ 0 < (↑3 : Int)) ∧
                  (iz 0 ≤ 1 ∧ 1 < (↑3 : Int)) ∧
                    Wf Try.prog H 20
                          [AV.agg
                              [AV.sl
                                  (List.take (List.length (List.map encO h))
                                    (List.drop 0 (U.storedR (List.map encO h) a b c)))],
                            goI a, goI b]
                          [] =
                        some
                          (AV.tup
                              [goI
                                  (U.lvR
                                    (List.take (List.length (List.map encO h))
                                      (List.drop 0 (U.storedR (List.map encO h) a b c)))
                                    a b),
                                goI
                                  (U.leR
                                    (List.take (List.length (List.map encO h))
                                      (List.drop 0 (U.storedR (List.map encO h) a b c)))
                                    a b)],
                            [], []) ∧
                      (iz 0 ≤ 0 ∧ 0 < (↑3 : Int)) ∧
                        (iz 0 ≤ 1 ∧ 1 < (↑3 : Int)) ∧
                          Wf Try.prog H 20
                                [AV.agg
                                    [AV.sl
                                        (List.take (List.length (List.map encO h))
                                          (List.drop 0 (U.storedR (List.map encO h) a b c)))],
                                  goI x, goI y]
                                [] =
                              some
                                (AV.tup
                                    [goI
                                        (U.lvR
                                          (List.take (List.length (List.map encO h))
                                            (List.drop 0 (U.storedR (List.map encO h) a b c)))
                                          x y),
                                      goI
                                        (U.leR
                                          (List.take (List.length (List.map encO h))
                                            (List.drop 0 (U.storedR (List.map encO h) a b c)))
                                          x y)],
                                  [], []) ∧
                            (iz 0 ≤ 0 ∧ 0 < (↑3 : Int)) ∧
                              (iz 0 ≤ 1 ∧ 1 < (↑3 : Int)) ∧
                                Wf Try.prog H 20 [AV.agg [AV.sl (List.map encO h)], goI x, goI y] [] =
                                    some
                                      (AV.tup [goI (U.lvR (List.map encO h) x y), goI (U.leR (List.map encO h) x y)],
                                        [], []) ∧
                                  (iz 0 ≤ 0 ∧ 0 < (↑3 : Int)) ∧
                                    (iz 0 ≤ 1 ∧ 1 < (↑3 : Int)) ∧
                                      Wf Try.prog H 21
                                            [AV.agg
                                                [AV.sl
                                                    (List.take (List.length (List.map encO h))
                                                      (List.drop 0 (U.storedR (List.map encO h) a b c)))],
                                              goI x, goI y]
                                            [] =
                                          some
                                            (AV.tup
                                                [goI
                                                    (U.rvR
                                                      (List.take (List.length (List.map encO h))
                                                        (List.drop 0 (U.storedR (List.map encO h) a b c)))
                                                      x y),
                                                  goI
                                                    (U.reR
                                                      (List.take (List.length (List.map encO h))
                                                        (List.drop 0 (U.storedR (List.map encO h) a b c)))
                                                      x y)],
                                              [], []) ∧
                                        (iz 0 ≤ 0 ∧ 0 < (↑3 : Int)) ∧
                                          (iz 0 ≤ 1 ∧ 1 < (↑3 : Int)) ∧
                                            Wf Try.prog H 21 [AV.agg [AV.sl (List.map encO h)], goI x, goI y] [] =
                                                some
                                                  (AV.tup
                                                      [goI (U.rvR (List.map encO h) x y),
                                                        goI (U.reR (List.map encO h) x y)],
                                                    [], []) ∧
                                              TB
                                                (U.leR
                                                    (List.take (List.length (List.map encO h))
                                                      (List.drop 0 (U.storedR (List.map encO h) a b c)))
                                                    a b ==
                                                  0)
                                                ((iz 0 ≤ 2 ∧ 2 < (↑3 : Int)) ∧
                                                  TB
                                                    (U.lvR
                                                        (List.take (List.length (List.map encO h))
                                                          (List.drop 0 (U.storedR (List.map encO h) a b c)))
                                                        a b ==
                                                      c)
                                                    (Wf Try.prog H 14
                                                          [AV.agg
                                                              [AV.sl
                                                                  (List.take (List.length (List.map encO h))
                                                                    (List.drop 0 (U.storedR (List.map encO h) a b c)))]]
                                                          [] =
                                                        some
                                                          (goB
                                                              (U.rightR
                                                                (List.take (List.length (List.map encO h))
                                                                  (List.drop 0 (U.storedR (List.map encO h) a b c)))),
                                                            [], []) ∧
                                                      TB
                                                        (U.rightR
                                                          (List.take (List.length (List.map encO h))
                                                            (List.drop 0 (U.storedR (List.map encO h) a b c))))
                                                        (TB
                                                          (U.leR
                                                              (List.take (List.length (List.map encO h))
                                                                (List.drop 0 (U.storedR (List.map encO h) a b c)))
                                                              x y ==
                                                            U.leR (List.map encO h) x y)
                                                          (TB
                                                            (U.reR
                                                                (List.take (List.length (List.map encO h))
                                                                  (List.drop 0 (U.storedR (List.map encO h) a b c)))
                                                                x y ==
                                                              U.reR (List.map encO h) x y)
                                                            (TB
                                                              (U.rvR
                                                                  (List.take (List.length (List.map encO h))
                                                                    (List.drop 0 (U.storedR (List.map encO h) a b c)))
                                                                  x y ==
                                                                U.rvR (List.map encO h) x y)
                                                              (TB
                                                                (U.lvR
                                                                    (List.take (List.length (List.map encO h))
                                                                      (List.drop 0 (U.storedR (List.map encO h) a b c)))
                                                                    x y ==
                                                                  U.lvR (List.map encO h) x y)
                                                                ((goB true, [], []) = r)
                                                                ((iz 0 ≤ 0 ∧ 0 < (↑3 : Int)) ∧
                                                                  (iz 0 ≤ 0 ∧ 0 < (↑3 : Int)) ∧
                                                                    TB (a == x)
                                                                      ((iz 0 ≤ 1 ∧ 1 < (↑3 : Int)) ∧
                                                                        (iz 0 ≤ 1 ∧ 1 < (↑3 : Int)) ∧
                                                                          (goB (b == y), [], []) = r)
                                                                      ((goB false, [], []) = r)))
                                                              ((goB false, [], []) = r))
                                                            ((goB false, [], []) = r))
                                                          ((goB false, [], []) = r))
                                                        ((goB false, [], []) = r))
                                                    ((goB false, [], []) = r))
                                                ((goB false, [], []) = r))
              (Wf Try.prog H 19 [AV.agg [AV.sl (List.map encO h)], goI a, goI b, goI c] [] =
                  some (AV.tup [AV.agg [AV.sl (List.map encO h)], goI (U.leR (List.map encO h) a b)], [], []) ∧
                TB (!U.leR (List.map encO h) a b == 0)
                  (Wf Try.prog H 13 [AV.agg [AV.sl (List.map encO h)], AV.agg [AV.sl (List.map encO h)]] [] =
                      some (goB (U.sameR (List.map encO h) (List.map encO h)), [], []) ∧
                    (goB (U.sameR (List.map encO h) (List.map encO h)), [], []) = r)
                  ((iz 0 ≤ 0 ∧ 0 < (↑3 : Int)) ∧
                    (iz 0 ≤ 1 ∧ 1 < (↑3 : Int)) ∧
                      Wf Try.prog H 20 [AV.agg [AV.sl (List.map encO h)], goI a, goI b] [] =
                          some (AV.tup [goI (U.lvR (List.map encO h) a b), goI (U.leR (List.map encO h) a b)], [], []) ∧
                        (iz 0 ≤ 0 ∧ 0 < (↑3 : Int)) ∧
                          (iz 0 ≤ 1 ∧ 1 < (↑3 : Int)) ∧
                            Wf Try.prog H 20 [AV.agg [AV.sl (List.map encO h)], goI x, goI y] [] =
                                some
                                  (AV.tup [goI (U.lvR (List.map encO h) x y), goI (U.leR (List.map encO h) x y)], [],
                                    []) ∧
                              (iz 0 ≤ 0 ∧ 0 < (↑3 : Int)) ∧
                                (iz 0 ≤ 1 ∧ 1 < (↑3 : Int)) ∧
                                  Wf Try.prog H 20 [AV.agg [AV.sl (List.map encO h)], goI x, goI y] [] =
                                      some
                                        (AV.tup [goI (U.lvR (List.map encO h) x y), goI (U.leR (List.map encO h) x y)],
                                          [], []) ∧
                                    (iz 0 ≤ 0 ∧ 0 < (↑3 : Int)) ∧
                                      (iz 0 ≤ 1 ∧ 1 < (↑3 : Int)) ∧
                                        Wf Try.prog H 21 [AV.agg [AV.sl (List.map encO h)], goI x, goI y] [] =
                                            some
                                              (AV.tup
                                                  [goI (U.rvR (List.map encO h) x y),
                                                    goI (U.reR (List.map encO h) x y)],
                                                [], []) ∧
                                          (iz 0 ≤ 0 ∧ 0 < (↑3 : Int)) ∧
                                            (iz 0 ≤ 1 ∧ 1 < (↑3 : Int)) ∧
                                              Wf Try.prog H 21 [AV.agg [AV.sl (List.map encO h)], goI x, goI y] [] =
                                                  some
                                                    (AV.tup
                                                        [goI (U.rvR (List.map encO h) x y),
                                                          goI (U.reR (List.map encO h) x y)],
                                                      [], []) ∧
                                                TB (U.leR (List.map encO h) a b == 0)
                                                  ((iz 0 ≤ 2 ∧ 2 < (↑3 : Int)) ∧
                                                    TB (U.lvR (List.map encO h) a b == c)
                                                      (Wf Try.prog H 14 [AV.agg [AV.sl (List.map encO h)]] [] =
                                                          some (goB (U.rightR (List.map encO h)), [], []) ∧
                                                        TB (U.rightR (List.map encO h))
                                                          (TB
                                                            (U.leR (List.map encO h) x y == U.leR (List.map encO h) x y)
                                                            (TB
                                                              (U.reR (List.map encO h) x y ==
                                                                U.reR (List.map encO h) x y)
                                                              (TB
                                                                (U.rvR (List.map encO h) x y ==
                                                                  U.rvR (List.map encO h) x y)
                                                                (TB
                                                                  (U.lvR (List.map encO h) x y ==
                                                                    U.lvR (List.map encO h) x y)
                                                                  ((goB true, [], []) = r)
                                                                  ((iz 0 ≤ 0 ∧ 0 < (↑3 : Int)) ∧
                                                                    (iz 0 ≤ 0 ∧ 0 < (↑3 : Int)) ∧
                                                                      TB (a == x)
                                                                        ((iz 0 ≤ 1 ∧ 1 < (↑3 : Int)) ∧
                                                                          (iz 0 ≤ 1 ∧ 1 < (↑3 : Int)) ∧
                                                                            (goB (b == y), [], []) = r)
                                                                        ((goB false, [], []) = r)))
                                                                ((goB false, [], []) = r))
                                                              ((goB false, [], []) = r))
                                                            ((goB false, [], []) = r))
                                                          ((goB false, [], []) = r))
                                                      ((goB false, [], []) = r))
                                                  ((goB false, [], []) = r))))) := by kernel_rfl
section
variable {h : List Obj} {a b c : Int}
theorem stored_len : (U.stored h a b c).length = h.length := by simp [U.stored]
theorem ob_set (l : List Obj) {i : Nat} (j : Nat) (v : Obj) (hi : i < l.length) : U.ob (l.set i v) j = if j = i then v else U.ob l j := getD_set l i j v hi
theorem stored_ob (hz : U.le h a b = 0) (j : Nat) : U.ob (U.stored h a b c) j = if j = (a - 1).toNat then ⟨(U.oo h a).refs, (U.oo h a).ints.set b.toNat c⟩ else U.ob h j := by
  have h0 : U.oe h a = 0 := by
    unfold U.le at hz
    by_cases h0 : U.oe h a = 0
    · exact h0
    · rw [if_neg h0] at hz; exact absurd hz h0
  obtain ⟨_, o1, o2, _⟩ := oe_zero h0
  exact ob_set h j _ (by omega)
theorem le_parts (hz : U.le h a b = 0) : U.oe h a = 0 ∧ U.fe (U.oo h a).ints b = 0 := by
  unfold U.le at hz
  by_cases h0 : U.oe h a = 0
  · rw [if_pos h0] at hz; exact ⟨h0, hz⟩
  · rw [if_neg h0] at hz; exact absurd hz h0
theorem stored_refs (hz : U.le h a b = 0) (j : Nat) : (U.ob (U.stored h a b c) j).refs = (U.ob h j).refs ∧ (U.ob (U.stored h a b c) j).ints.length = (U.ob h j).ints.length := by
  rw [stored_ob hz]
  by_cases e : j = (a - 1).toNat
  · rw [if_pos e, (oe_zero (le_parts hz).1).2.2.2, e]; simp
  · rw [if_neg e]; exact ⟨rfl, rfl⟩
theorem stored_right (hz : U.le h a b = 0) : U.right (U.stored h a b c) = true := by
  have hr := (oe_zero (le_parts hz).1).1
  rw [right_iff] at hr ⊢
  intro o ho
  obtain ⟨j, hj, rfl⟩ := mem_getD ho
  rw [stored_len] at hj ⊢
  have h1 := hr _ (ob_mem hj)
  obtain ⟨h2, h3⟩ := stored_refs (c := c) hz j
  show U.badOb h.length (U.ob (U.stored h a b c) j) = false
  unfold U.badOb U.badO at h1 ⊢
  rw [h2]
  simp only [List.length_map] at h1 ⊢
  rw [h3]
  exact h1
theorem stored_oe (hz : U.le h a b = 0) (o : Int) : U.oe (U.stored h a b c) o = U.oe h o := by
  unfold U.oe
  rw [stored_right hz, (oe_zero (le_parts hz).1).1, stored_len]
theorem stored_oo (hz : U.le h a b = 0) (o : Int) : (U.oo (U.stored h a b c) o).refs = (U.oo h o).refs ∧ (U.oo (U.stored h a b c) o).ints.length = (U.oo h o).ints.length ∧ (o ≠ a → (U.oo (U.stored h a b c) o).ints = (U.oo h o).ints) ∧ (o = a → (U.oo (U.stored h a b c) o).ints = (U.oo h a).ints.set b.toNat c) := by
  by_cases h0 : U.oe h o = 0
  · obtain ⟨_, o1, o2, e1⟩ := oe_zero h0
    obtain ⟨_, _, _, e2⟩ := oe_zero ((stored_oe (c := c) hz o).trans h0)
    obtain ⟨_, a1, a2, _⟩ := oe_zero (le_parts hz).1
    rw [e1, e2]
    obtain ⟨h2, h3⟩ := stored_refs (c := c) hz (o - 1).toNat
    refine ⟨h2, h3, fun hne => ?_, fun he => ?_⟩
    · rw [stored_ob hz, if_neg (by omega)]
    · rw [stored_ob hz, if_pos (by omega)]
  · have e1 : U.oo h o = ⟨[], []⟩ := if_neg h0
    have e2 : U.oo (U.stored h a b c) o = ⟨[], []⟩ := if_neg (by rw [stored_oe hz]; exact h0)
    rw [e1, e2]
    exact ⟨rfl, rfl, fun _ => rfl, fun he => by subst he; exact absurd (le_parts hz).1 h0⟩
theorem stored_le (hz : U.le h a b = 0) (o n : Int) : U.le (U.stored h a b c) o n = U.le h o n := by
  obtain ⟨_, h2, _, _⟩ := stored_oo (c := c) hz o
  unfold U.le U.fe
  rw [stored_oe hz, h2]
theorem stored_re (hz : U.le h a b = 0) (o n : Int) : U.re (U.stored h a b c) o n = U.re h o n ∧ U.rv (U.stored h a b c) o n = U.rv h o n := by
  obtain ⟨h1, _, _, _⟩ := stored_oo (c := c) hz o
  unfold U.re U.rv
  rw [stored_oe hz, h1]
  exact ⟨rfl, rfl⟩
theorem nt_setI (l : List Int) {i : Nat} (j : Nat) (v : Int) (hi : i < l.length) : U.nt (l.set i v) j = if j = i then v else U.nt l j := getD_set l i j v hi
theorem stored_lv (hz : U.le h a b = 0) : U.lv (U.stored h a b c) a b = c := by
  obtain ⟨h0, hf⟩ := le_parts hz
  obtain ⟨n1, n2⟩ := fe_zero hf
  obtain ⟨_, _, _, h4⟩ := stored_oo (c := c) hz a
  unfold U.lv
  rw [if_pos ((stored_oe hz a).trans h0), h4 rfl]
  unfold U.fv
  rw [if_neg (by rw [List.length_set]; omega), nt_setI _ _ _ (by omega), if_pos rfl]
theorem stored_other (hz : U.le h a b = 0) (o n : Int) (hne : ¬ (a = o ∧ b = n)) : U.lv (U.stored h a b c) o n = U.lv h o n := by
  obtain ⟨h0, hf⟩ := le_parts hz
  obtain ⟨n1, n2⟩ := fe_zero hf
  obtain ⟨_, h2, h3, h4⟩ := stored_oo (c := c) hz o
  unfold U.lv
  rw [stored_oe hz]
  by_cases ho : U.oe h o = 0
  · rw [if_pos ho, if_pos ho]
    by_cases e : o = a
    · subst e
      rw [h4 rfl]
      unfold U.fv
      rw [List.length_set]
      by_cases hx : n < 0 ∨ n ≥ ((U.oo h o).ints.length : Int)
      · rw [if_pos hx, if_pos hx]
      · rw [if_neg hx, if_neg hx, nt_setI _ _ _ (by omega), if_neg (fun e2 => hne ⟨rfl, by omega⟩)]
    · rw [h3 e]
  · rw [if_neg ho, if_neg ho]
end
theorem short_stored {h : List Obj} {a b c : Int} (hs : Short h) (hz : U.le h a b = 0) : Short (U.stored h a b c) := by
  refine ⟨by rw [stored_len]; exact hs.1, fun o ho => ?_⟩
  obtain ⟨j, hj, rfl⟩ := mem_getD ho
  rw [stored_len] at hj
  obtain ⟨h2, h3⟩ := stored_refs (c := c) hz j
  have := hs.2 _ (ob_mem hj)
  show (U.ob (U.stored h a b c) j).refs.length ≤ 9223372036854775807 ∧ (U.ob (U.stored h a b c) j).ints.length ≤ 9223372036854775807
  rw [h2, h3]
  exact this
theorem wf8 : Wf Try.prog H 8 [] [] = some (goB true, [], []) := Wf_at 60 (by kernel_rfl)
set_option maxHeartbeats 2000000 in
theorem wf5 (h : List Obj) (a b c x y z : Int) (hh : Handed h) : Wf Try.prog H 5 [hp h, .agg [goI a, goI b, goI c], .agg [goI x, goI y, goI z]] [] = some (goB true, [], []) := by
  refine runK (t5 h a b c x y z _) ⟨wf8, ?_⟩
  have eg : U.greatR (h.map encO) = decide (U.great h h.length > 300) := by unfold U.greatR; rw [decO_map, List.length_map]
  have el : ∀ (l : List Obj) (o n : Int), U.leR (l.map encO) o n = U.le l o n := fun l o n => by unfold U.leR; rw [decO_map]
  have ev : ∀ (l : List Obj) (o n : Int), U.lvR (l.map encO) o n = U.lv l o n := fun l o n => by unfold U.lvR; rw [decO_map]
  have er : ∀ (l : List Obj) (o n : Int), U.reR (l.map encO) o n = U.re l o n := fun l o n => by unfold U.reR; rw [decO_map]
  have ew : ∀ (l : List Obj) (o n : Int), U.rvR (l.map encO) o n = U.rv l o n := fun l o n => by unfold U.rvR; rw [decO_map]
  have et : ∀ (l : List Obj), U.rightR (l.map encO) = U.right l := fun l => by unfold U.rightR; rw [decO_map]
  have es : U.storedR (h.map encO) a b c = (U.stored h a b c).map encO := by unfold U.storedR; rw [decO_map]
  have em : U.sameR (h.map encO) (h.map encO) = true := by unfold U.sameR; rw [decO_map]; exact same_self h
  rw [eg]
  refine ⟨wf9 h hh, ?_⟩
  by_cases hgr : U.great h h.length > 300
  · rw [decide_eq_true hgr]; exact rfl
  rw [decide_eq_false hgr]
  have hs := short_of hh (show U.great h h.length ≤ 300 by omega)
  have etk : List.take (h.map encO).length (List.drop 0 ((U.stored h a b c).map encO)) = (U.stored h a b c).map encO := by
    have := take_map encO (U.stored h a b c)
    rw [stored_len] at this
    rw [List.length_map]; exact this
  rw [es, etk]
  simp only [el, ev, er, ew, et, em]
  refine ⟨by decide, by decide, by decide, ?_⟩
  by_cases hz : U.le h a b = 0
  · rw [decide_eq_true hz]
    have h19 := wf19 h a b c hs hz
    have hst := short_stored (c := c) hs hz
    have k1 := wf20 (U.stored h a b c) a b hst
    have k2 := wf20 (U.stored h a b c) x y hst
    have k3 := wf20 h x y hs
    have k4 := wf21 (U.stored h a b c) x y hst
    have k5 := wf21 h x y hs
    have k6 := wf14 (U.stored h a b c) hst.1
    have r1 : U.le (U.stored h a b c) a b = 0 := (stored_le hz a b).trans hz
    have r2 := stored_le (c := c) hz x y
    obtain ⟨r3, r4⟩ := stored_re (c := c) hz x y
    have r5 := stored_lv (c := c) hz
    have r6 := stored_right (c := c) hz
    rw [List.length_map]
    refine ⟨h19, by decide, by decide, k1, by decide, by decide, k2, by decide, by decide, k3, by decide, by decide, k4, by decide, by decide, k5, ?_⟩
    rw [r6] at k6
    rw [r1, r2, r3, r4, r5, r6, beq_self_eq_true, beq_self_eq_true, beq_self_eq_true, beq_self_eq_true, beq_self_eq_true]
    refine ⟨by decide, k6, ?_⟩
    by_cases hv : U.lv (U.stored h a b c) x y = U.lv h x y
    · rw [hv, beq_self_eq_true]; first | exact True.intro | exact rfl
    · rw [beq_eq_false_iff_ne.2 hv]
      have hne : a = x ∧ b = y := Decidable.byContradiction fun q => hv (stored_other hz x y q)
      rw [hne.1, hne.2, beq_self_eq_true, beq_self_eq_true]
      exact ⟨by decide, by decide, by decide, by decide, rfl⟩
  · rw [decide_eq_false hz]
    have h19 := wf19_no h a b c hs hz
    have h13 := wf13 h h hs
    rw [same_self] at h13
    rw [beq_eq_false_iff_ne.2 hz]
    exact ⟨h19, h13, True.intro⟩
end Go.Proofs.Ytnmnaomfohlmcaa.E
