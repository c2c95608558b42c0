/- Functions, by what the evaluator asks; the theorems t.. were printed by show.txt, a program of this session. -/
import Derived.Test.Ytnmnaomfohlmcaa09b
set_option linter.unusedVariables false
set_option linter.unusedSimpArgs false
set_option maxRecDepth 100000
namespace Go.Proofs.Ytnmnaomfohlmcaa.E
open Go
namespace U
def fe (a : List Int) (n : Int) : Int := if n < 0 ∨ n ≥ a.length then 15 else 0
def fv (a : List Int) (n : Int) : Int := if n < 0 ∨ n ≥ a.length then 0 else nt a n.toNat
def oe (hs : List Obj) (n : Int) : Int := if right hs = false then 1 else if n = 0 then 14 else if n < 0 ∨ n > hs.length then 1 else 0
def oo (hs : List Obj) (n : Int) : Obj := if oe hs n = 0 then ob hs (n - 1).toNat else ⟨[], []⟩
def feR (l : List (List AV)) (n : Int) : Int := fe (l.map fun r => rdI r 0) n
def fvR (l : List (List AV)) (n : Int) : Int := fv (l.map fun r => rdI r 0) n
def oeR (l : List (List AV)) (n : Int) : Int := oe (decO l) n
def oaR (l : List (List AV)) (n : Int) : List (List AV) := (oo (decO l) n).refs.map encI
def obR (l : List (List AV)) (n : Int) : List (List AV) := (oo (decO l) n).ints.map encI
def stR (l : List (List AV)) (n : Int) (a b : List (List AV)) : List (List AV) := l.set (n - 1).toNat [.sl a, .sl b]
end U
def F20 : CallT := fun f args sto => match f, args, sto with
 | 35, [.agg [.sl l], .v (.int _ n)], _ => .is (.tup [.agg [.sl (U.oaR l n), .sl (U.obR l n)], goI (U.oeR l n)], [], [])
 | 36, [.sl l, .v (.int _ n)], _ => .is (.tup [goI (U.fvR l n), goI (U.feR l n)], [], [])
 | 33, [.sl l], _ => .is (.os 0 0 l.length, [.arr 1 l], [])
 | 43, [.sl l], _ => .is (.os 0 0 l.length, [.arr 2 l], [])
 | 37, [.agg [.sl l], .v (.int _ n), .agg [.sl a, .os 0 0 k]], [.arr 1 b] => .is (.agg [.os 1 0 l.length], [.dead, .arr 2 (U.stR l n a b)], [0])
 | _, _, _ => .no

theorem t20 (a : List Obj) (o : Int) (n : Int) (r : AV × List Row × List Nat) : (runT Try.prog H F20 L0 false 20 [hp a, goI o, goI n] [] fun q => q = r) = (Wf Try.prog H 35 [AV.agg [AV.sl (List.map encO a)], goI o] [] =
    some
      (AV.tup
          [AV.agg [AV.sl (U.oaR (List.map encO a) o), AV.sl (U.obR (List.map encO a) o)],
            goI (U.oeR (List.map encO a) o)],
        [], []) ∧
  TB (!U.oeR (List.map encO a) o == 0) ((AV.tup [goI 0, goI (U.oeR (List.map encO a) o)], [], []) = r)
    (Wf Try.prog H 36 [AV.sl (U.obR (List.map encO a) o), goI n] [] =
        some (AV.tup [goI (U.fvR (U.obR (List.map encO a) o) n), goI (U.feR (U.obR (List.map encO a) o) n)], [], []) ∧
      (AV.tup [goI (U.fvR (U.obR (List.map encO a) o) n), goI (U.feR (U.obR (List.map encO a) o) n)], [], []) = r)) := by kernel_rfl
theorem t21 (a : List Obj) (o : Int) (n : Int) (r : AV × List Row × List Nat) : (runT Try.prog H F20 L0 false 21 [hp a, goI o, goI n] [] fun q => q = r) = (Wf Try.prog H 35 [AV.agg [AV.sl (List.map encO a)], goI o] [] =
    some
      (AV.tup
          [AV.agg [AV.sl (U.oaR (List.map encO a) o), AV.sl (U.obR (List.map encO a) o)],
            goI (U.oeR (List.map encO a) o)],
        [], []) ∧
  TB (!U.oeR (List.map encO a) o == 0) ((AV.tup [goI 0, goI (U.oeR (List.map encO a) o)], [], []) = r)
    (Wf Try.prog H 36 [AV.sl (U.oaR (List.map encO a) o), goI n] [] =
        some (AV.tup [goI (U.fvR (U.oaR (List.map encO a) o) n), goI (U.feR (U.oaR (List.map encO a) o) n)], [], []) ∧
      (AV.tup [goI (U.fvR (U.oaR (List.map encO a) o) n), goI (U.feR (U.oaR (List.map encO a) o) n)], [], []) = r)) := by kernel_rfl
theorem t37 (a : List Obj) (n : Int) (x : List (List AV)) (y : List Int) (r : AV × List Row × List Nat) : (runT Try.prog H F20 L0 false 37 [hp a, goI n, AV.agg [AV.sl x, AV.os 0 0 (List.length y)]] [Row.arr 1 (List.map encI y)]
  fun q => q = r) = (Wf Try.prog H 43 [AV.sl (List.map encO a)] [] =
    some (AV.os 0 0 (List.length (List.map encO a)), [Row.arr 2 (List.map encO a)], []) ∧
  (0 ≤ IntKind.wrap IntKind.i64 (n - 1) ∧
      IntKind.wrap IntKind.i64 (n - 1) < (↑(List.length (List.map encO a)) : Int) ∧
        0 + Int.toNat (IntKind.wrap IntKind.i64 (n - 1)) < List.length (List.map encO a)) ∧
    Option.map List.length (List.map encO a)[0 + Int.toNat (IntKind.wrap IntKind.i64 (n - 1))]? = some 2 ∧
      (AV.agg [AV.os 1 0 (List.length (List.map encO a))],
          [Row.dead,
            Row.arr 2
              (List.set (List.map encO a) (0 + Int.toNat (IntKind.wrap IntKind.i64 (n - 1)))
                [AV.sl x, AV.sl (List.take (List.length y) (List.drop 0 (List.map encI y)))])],
          [0]) =
        r) := by kernel_rfl
theorem t19 (a : List Obj) (o : Int) (n : Int) (v : Int) (r : AV × List Row × List Nat) : (runT Try.prog H F20 L0 false 19 [hp a, goI o, goI n, goI v] [] fun q => q = r) = (Wf Try.prog H 35 [AV.agg [AV.sl (List.map encO a)], goI o] [] =
    some
      (AV.tup
          [AV.agg [AV.sl (U.oaR (List.map encO a) o), AV.sl (U.obR (List.map encO a) o)],
            goI (U.oeR (List.map encO a) o)],
        [], []) ∧
  TB (!U.oeR (List.map encO a) o == 0)
    ((AV.tup [AV.agg [AV.sl (List.map encO a)], goI (U.oeR (List.map encO a) o)], [], []) = r)
    (Wf Try.prog H 36 [AV.sl (U.obR (List.map encO a) o), goI n] [] =
        some (AV.tup [goI (U.fvR (U.obR (List.map encO a) o) n), goI (U.feR (U.obR (List.map encO a) o) n)], [], []) ∧
      TB (!U.feR (U.obR (List.map encO a) o) n == 0)
        ((AV.tup [AV.agg [AV.sl (List.map encO a)], goI (U.feR (U.obR (List.map encO a) o) n)], [], []) = r)
        (Wf Try.prog H 33 [AV.sl (U.obR (List.map encO a) o)] [] =
            some (AV.os 0 0 (List.length (U.obR (List.map encO a) o)), [Row.arr 1 (U.obR (List.map encO a) o)], []) ∧
          (0 ≤ n ∧
              n < (↑(List.length (U.obR (List.map encO a) o)) : Int) ∧
                0 + Int.toNat n < List.length (U.obR (List.map encO a) o)) ∧
            Option.map List.length (U.obR (List.map encO a) o)[0 + Int.toNat n]? = some 1 ∧
              Wf Try.prog H 37
                    [AV.agg [AV.sl (List.map encO a)], goI o,
                      AV.agg [AV.sl (U.oaR (List.map encO a) o), AV.os 0 0 (List.length (U.obR (List.map encO a) o))]]
                    [Row.arr 1 (List.set (U.obR (List.map encO a) o) (0 + Int.toNat n) [goI v])] =
                  some
                    (AV.agg [AV.os 1 0 (List.length (List.map encO a))],
                      [Row.dead,
                        Row.arr 2
                          (U.stR (List.map encO a) o (U.oaR (List.map encO a) o)
                            (List.set (U.obR (List.map encO a) o) (0 + Int.toNat n) [goI v]))],
                      [0]) ∧
                (AV.tup [AV.agg [AV.os 0 0 (List.length (List.map encO a))], goI 0],
                    [Row.arr 2
                        (U.stR (List.map encO a) o (U.oaR (List.map encO a) o)
                          (List.set (U.obR (List.map encO a) o) (0 + Int.toNat n) [goI v]))],
                    []) =
                  r))) := by kernel_rfl
theorem feR_map (a : List Int) (n : Int) : U.feR (a.map encI) n = U.fe a n := by unfold U.feR; rw [decI1]
theorem fvR_map (a : List Int) (n : Int) : U.fvR (a.map encI) n = U.fv a n := by unfold U.fvR; rw [decI1]
theorem oeR_map (a : List Obj) (n : Int) : U.oeR (a.map encO) n = U.oe a n := by unfold U.oeR; rw [decO_map]
theorem oaR_map (a : List Obj) (n : Int) : U.oaR (a.map encO) n = (U.oo a n).refs.map encI := by unfold U.oaR; rw [decO_map]
theorem obR_map (a : List Obj) (n : Int) : U.obR (a.map encO) n = (U.oo a n).ints.map encI := by unfold U.obR; rw [decO_map]
theorem wf36 (a : List Int) (n : Int) : Wf Try.prog H 36 [.sl (a.map encI), goI n] [] = some (.tup [goI (U.fv a n), goI (U.fe a n)], [], []) := by
  refine runK (t36 a n _) ?_
  rw [List.length_map]
  unfold U.fv U.fe
  by_cases h1 : n < 0
  · rw [decide_eq_true h1, if_pos (.inl h1), if_pos (.inl h1)]; exact rfl
  rw [decide_eq_false h1]
  by_cases h2 : n ≥ a.length
  · rw [decide_eq_true h2, if_pos (.inr h2), if_pos (.inr h2)]; exact rfl
  rw [decide_eq_false h2, if_neg (fun q => q.elim h1 h2), if_neg (fun q => q.elim h1 h2)]
  obtain ⟨w, rfl⟩ : ∃ w : Nat, n = w := ⟨n.toNat, by omega⟩
  have hw : w < a.length := by omega
  rw [Int.toNat_natCast, rowI hw, getI hw]
  exact ⟨⟨by omega, rfl⟩, rfl⟩
theorem wf35 (a : List Obj) (n : Int) (hl : Short a) : Wf Try.prog H 35 [hp a, goI n] [] = some (.tup [.agg (encO (U.oo a n)), goI (U.oe a n)], [], []) := by
  refine runK (t35 a n _) ?_
  have h14 := wf14 a hl.1
  have er : U.rightR (a.map encO) = U.right a := by unfold U.rightR; rw [decO_map]
  rw [er]
  refine ⟨h14, ?_⟩
  unfold U.oo U.oe
  rw [List.length_map]
  have hl1 := hl.1
  cases hr : U.right a with
  | false => exact rfl
  | true =>
    by_cases h0 : n = 0
    · subst h0; exact rfl
    · rw [beq_eq_false_iff_ne.2 h0]
      by_cases h1 : n < 0
      · have e : (if true = false then (1 : Int) else if n = 0 then 14 else if n < 0 ∨ n > a.length then 1 else 0) = 1 := by
          rw [if_neg (by simp), if_neg h0, if_pos (.inl h1)]
        rw [decide_eq_true h1, e]; exact rfl
      rw [decide_eq_false h1]
      by_cases h2 : n > a.length
      · have e : (if true = false then (1 : Int) else if n = 0 then 14 else if n < 0 ∨ n > a.length then 1 else 0) = 1 := by
          rw [if_neg (by simp), if_neg h0, if_pos (.inr h2)]
        rw [decide_eq_true h2, e]; exact rfl
      have e : (if true = false then (1 : Int) else if n = 0 then 14 else if n < 0 ∨ n > a.length then 1 else 0) = 0 := by
        rw [if_neg (by simp), if_neg h0, if_neg (fun q => q.elim h1 h2)]
      have hwr : IntKind.i64.wrap (n - 1) = n - 1 := by rw [wrap64] <;> omega
      have hi : (n - 1).toNat < a.length := by omega
      rw [decide_eq_false h2, e, hwr, rowO hi, getO hi]
      exact ⟨⟨by omega, rfl⟩, rfl⟩
namespace U
def lv (a : List Obj) (o n : Int) : Int := if oe a o = 0 then fv (oo a o).ints n else 0
def le (a : List Obj) (o n : Int) : Int := if oe a o = 0 then fe (oo a o).ints n else oe a o
def rv (a : List Obj) (o n : Int) : Int := if oe a o = 0 then fv (oo a o).refs n else 0
def re (a : List Obj) (o n : Int) : Int := if oe a o = 0 then fe (oo a o).refs n else oe a o
/-- What a store into a number comes to. -/
def stored (a : List Obj) (o n v : Int) : List Obj := a.set (o - 1).toNat ⟨(oo a o).refs, (oo a o).ints.set n.toNat v⟩
end U
theorem wf20 (a : List Obj) (o n : Int) (hl : Short a) : Wf Try.prog H 20 [hp a, goI o, goI n] [] = some (.tup [goI (U.lv a o n), goI (U.le a o n)], [], []) := by
  refine runK (t20 a o n _) ?_
  rw [oaR_map, obR_map, oeR_map, fvR_map, feR_map]
  refine ⟨wf35 a o hl, ?_⟩
  unfold U.lv U.le
  by_cases h : U.oe a o = 0
  · rw [if_pos h, if_pos h, beq_iff_eq.2 h]
    exact ⟨wf36 _ n, rfl⟩
  · rw [if_neg h, if_neg h, beq_eq_false_iff_ne.2 h]; exact rfl
theorem wf21 (a : List Obj) (o n : Int) (hl : Short a) : Wf Try.prog H 21 [hp a, goI o, goI n] [] = some (.tup [goI (U.rv a o n), goI (U.re a o n)], [], []) := by
  refine runK (t21 a o n _) ?_
  rw [oaR_map, obR_map, oeR_map, fvR_map, feR_map]
  refine ⟨wf35 a o hl, ?_⟩
  unfold U.rv U.re
  by_cases h : U.oe a o = 0
  · rw [if_pos h, if_pos h, beq_iff_eq.2 h]
    exact ⟨wf36 _ n, rfl⟩
  · rw [if_neg h, if_neg h, beq_eq_false_iff_ne.2 h]; exact rfl
theorem wf33 (l : List Int) (hl : l.length < 1000000) : Wf Try.prog H 33 [.sl (l.map encI)] [] = some (.os 0 0 (l.map encI).length, [.arr 1 (l.map encI)], []) :=
  Wf_prim (p := cloneP 1) (by rfl) (by
    unfold cloneP
    simp only
    rw [if_pos ⟨rowsOk_of (enc := encI) (s := 1) (fun _ => rfl) l, by rw [List.length_map]; show l.length ≤ 1000000; omega⟩])
theorem wf43 (l : List Obj) (hl : l.length < 1000000) : Wf Try.prog H 43 [.sl (l.map encO)] [] = some (.os 0 0 (l.map encO).length, [.arr 2 (l.map encO)], []) :=
  Wf_prim (p := cloneP 2) (by rfl) (by
    unfold cloneP
    simp only
    rw [if_pos ⟨rowsOk_of (enc := encO) (s := 2) (fun _ => rfl) l, by rw [List.length_map]; show l.length ≤ 1000000; omega⟩])
theorem wf37 (a : List Obj) (n : Int) (x y : List Int) (hl : a.length < 1000000) (h1 : 1 ≤ n) (h2 : n ≤ a.length) : Wf Try.prog H 37 [hp a, goI n, .agg [.sl (x.map encI), .os 0 0 (y.map encI).length]] [.arr 1 (y.map encI)] = some (.agg [.os 1 0 (a.map encO).length], [.dead, .arr 2 ((a.set (n - 1).toNat ⟨x, y⟩).map encO)], [0]) := by
  rw [List.length_map (f := encI)]
  refine runK (t37 a n (x.map encI) y _) ?_
  have hwr : IntKind.i64.wrap (n - 1) = n - 1 := by rw [wrap64] <;> omega
  have hi : (n - 1).toNat < a.length := by omega
  rw [hwr, Nat.zero_add, take_map encI y, getO hi]
  have e : (a.map encO).set (n - 1).toNat [.sl (x.map encI), .sl (y.map encI)] = (a.set (n - 1).toNat ⟨x, y⟩).map encO := set_map encO a _ ⟨x, y⟩
  rw [e]
  refine ⟨wf43 a hl, ⟨by omega, by rw [List.length_map]; omega, by rw [List.length_map]; omega⟩, rfl, rfl⟩
theorem oe_zero {a : List Obj} {o : Int} (h : U.oe a o = 0) : U.right a = true ∧ 1 ≤ o ∧ o ≤ a.length ∧ U.oo a o = U.ob a (o - 1).toNat := by
  have e : U.oo a o = U.ob a (o - 1).toNat := by unfold U.oo; rw [if_pos h]
  unfold U.oe at h
  split at h
  · cases h
  · rename_i hr
    split at h
    · cases h
    · split at h
      · cases h
      · exact ⟨by simpa using hr, by omega, by omega, e⟩
theorem fe_zero {l : List Int} {n : Int} (h : U.fe l n = 0) : 0 ≤ n ∧ n < l.length := by
  unfold U.fe at h
  split at h
  · cases h
  · omega
theorem wf19_no (a : List Obj) (o n v : Int) (hl : Short a) (h : U.le a o n ≠ 0) : Wf Try.prog H 19 [hp a, goI o, goI n, goI v] [] = some (.tup [hp a, goI (U.le a o n)], [], []) := by
  refine runK (t19 a o n v _) ?_
  rw [oaR_map, obR_map, oeR_map, fvR_map, feR_map]
  refine ⟨wf35 a o hl, ?_⟩
  unfold U.le at h ⊢
  by_cases h0 : U.oe a o = 0
  · rw [if_pos h0] at h ⊢
    rw [beq_iff_eq.2 h0, beq_eq_false_iff_ne.2 h]
    exact ⟨wf36 _ n, rfl⟩
  · rw [if_neg h0, beq_eq_false_iff_ne.2 h0]; exact rfl
theorem wf19 (a : List Obj) (o n v : Int) (hl : Short a) (h : U.le a o n = 0) : Wf Try.prog H 19 [hp a, goI o, goI n, goI v] [] = some (.tup [.agg [.os 0 0 a.length], goI 0], [.arr 2 ((U.stored a o n v).map encO)], []) := by
  have h0 : U.oe a o = 0 := by
    unfold U.le at h
    by_cases h0 : U.oe a o = 0
    · exact h0
    · rw [if_neg h0] at h; exact absurd h h0
  have hf : U.fe (U.oo a o).ints n = 0 := by unfold U.le at h; rw [if_pos h0] at h; exact h
  obtain ⟨_, o1, o2, eo⟩ := oe_zero h0
  obtain ⟨n1, n2⟩ := fe_zero hf
  have hmem : U.oo a o ∈ a := by rw [eo]; exact ob_mem (by omega)
  have hsh : (U.oo a o).ints.length < 1000000 := by
    have hb := (right_iff a).1 (oe_zero h0).1 _ hmem
    unfold U.badOb U.badO at hb
    simp only [Bool.or_eq_false_iff, decide_eq_false_iff_not, List.length_map] at hb
    omega
  refine runK (t19 a o n v _) ?_
  rw [oaR_map, obR_map, oeR_map, fvR_map, feR_map, h0, hf]
  have hni : n.toNat < (U.oo a o).ints.length := by omega
  have e1 : ((U.oo a o).ints.map encI).set (0 + n.toNat) [goI v] = ((U.oo a o).ints.set n.toNat v).map encI := by rw [Nat.zero_add]; exact set_mapI _ _ _
  have h37 := wf37 a o (U.oo a o).refs ((U.oo a o).ints.set n.toNat v) hl.1 o1 o2
  have es : U.stR (a.map encO) o ((U.oo a o).refs.map encI) (((U.oo a o).ints.set n.toNat v).map encI) = (U.stored a o n v).map encO := by
    unfold U.stR U.stored
    exact set_map encO a (o - 1).toNat ⟨(U.oo a o).refs, (U.oo a o).ints.set n.toNat v⟩
  have el : (((U.oo a o).ints.set n.toNat v).map encI).length = ((U.oo a o).ints.map encI).length := by simp
  have h36 := wf36 (U.oo a o).ints n
  have h35 := wf35 a o hl
  rw [hf] at h36
  rw [h0] at h35
  rw [e1, es]
  rw [el] at h37
  refine ⟨h35, h36, wf33 _ hsh, ⟨by omega, by rw [List.length_map]; omega, by rw [List.length_map]; omega⟩, by rw [Nat.zero_add, getI hni]; rfl, h37, ?_⟩
  rw [List.length_map]
end Go.Proofs.Ytnmnaomfohlmcaa.E
