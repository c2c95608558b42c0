/- Functions, by what the evaluator asks; the theorems t.. were printed by show.txt, a program of this session. -/
import Derived.Test.Ytnmnaomfohlmcaa09a
set_option linter.unusedVariables false
set_option linter.unusedSimpArgs false
set_option maxRecDepth 100000
namespace Go.Proofs.Ytnmnaomfohlmcaa.E
open Go
namespace U
def ints (a b : List Int) (i : Nat) : Bool := allFrom (fun j => decide (nt a j = nt b j)) i a.length
def intsR (a b : List (List AV)) : Bool := decide (a.length = b.length) && ints (a.map fun r => rdI r 0) (b.map fun r => rdI r 0) 0
def sameFrom (a b : List Obj) (i : Nat) : Bool := allFrom (fun j => intsR ((ob a j).refs.map encI) ((ob b j).refs.map encI) && intsR ((ob a j).ints.map encI) ((ob b j).ints.map encI)) i a.length
def parts (n : Int) (o : Obj) : Int := IntKind.i64.wrap (IntKind.i64.wrap (n + o.refs.length) + o.ints.length)
def great : List Obj → Int → Int
  | [], n => n
  | o :: l, n => if n ≤ 300 then great l (parts n o) else n
def rightR (l : List (List AV)) : Bool := right (decO l)
end U
def L16 (b : Bool) : Nat → St → LT := fun id st => .by b (.is (.exit 0) (mkS 26 [])) (.is .ret (mkS 26 [(4, goB false)]))
def F13 : CallT := fun f args sto => match f, args with
 | 16, [.sl a, .sl b] => .is (goB (U.intsR a b), [], [])
 | _, _ => .no
def L13 (b : Bool) : Nat → St → LT := fun id st => .by b (.is (.exit 0) (mkS 50 [] [.dead, .dead])) (.is .ret (mkS 50 [(4, goB false)] [.dead, .dead]))
def F35 : CallT := fun f args sto => match f, args with
 | 14, [.agg [.sl a]] => .is (goB (U.rightR a), [], [])
 | _, _ => .no

theorem t16 (a : List Int) (b : List Int) (s : Bool) (r : AV × List Row × List Nat) : (runT Try.prog H (fun f args sto => CT.of (F0 f args sto)) (L16 s) false 16
  [AV.sl (List.map encI a), AV.sl (List.map encI b)] [] fun q => q = r) = (TB (!(↑(List.length (List.map encI a)) : Int) == (↑(List.length (List.map encI b)) : Int)) ((goB false, [], []) = r)
  (TB s
    (LoopTo Try.prog H (H 16) 0 (loopOf Try.prog 16 4)
        (mkS 26 [(0, AV.sl (List.map encI a)), (1, AV.sl (List.map encI b)), (5, goI 0)]) (Ex.exit 0, mkS 26 []) ∧
      (goB true, [], []) = r)
    (LoopTo Try.prog H (H 16) 0 (loopOf Try.prog 16 4)
        (mkS 26 [(0, AV.sl (List.map encI a)), (1, AV.sl (List.map encI b)), (5, goI 0)])
        (Ex.ret, mkS 26 [(4, goB false)]) ∧
      (goB false, [], []) = r))) := by kernel_rfl
theorem t16_4 (a : List Int) (b : List Int) (i : Nat) (r : Ex × St) : (turnT Try.prog H (fun f args sto => CT.of (F0 f args sto)) L0 false (H 16) 0 (loopOf Try.prog 16 4)
  (mkS 26 [(0, AV.sl (List.map encI a)), (1, AV.sl (List.map encI b)), (5, goI (↑i : Int))]) r) = (TB (decide ((↑i : Int) < (↑(List.length (List.map encI a)) : Int)))
  ((0 ≤ (↑i : Int) ∧ (List.map encI a)[i]? = some [goI (rdI (rowAt (List.map encI a) i) 0)]) ∧
    (0 ≤ (↑i : Int) ∧ (List.map encI b)[i]? = some [goI (rdI (rowAt (List.map encI b) i) 0)]) ∧
      TB (!rdI (rowAt (List.map encI a) i) 0 == rdI (rowAt (List.map encI b) i) 0)
        ((Ex.ret, mkS 26 [(4, goB false)]) = r)
        (LoopTo Try.prog H (H 16) 0 (loopOf Try.prog 16 4)
          (mkS 26
            [(0, AV.sl (List.map encI a)), (1, AV.sl (List.map encI b)),
              (5, goI (IntKind.wrap IntKind.i64 ((↑i : Int) + 1)))])
          r))
  ((Ex.exit 0, mkS 26 []) = r)) := by kernel_rfl
theorem t13 (a : List Obj) (b : List Obj) (s : Bool) (r : AV × List Row × List Nat) : (runT Try.prog H F13 (L13 s) false 13 [hp a, hp b] [] fun q => q = r) = (TB (!(↑(List.length (List.map encO a)) : Int) == (↑(List.length (List.map encO b)) : Int)) ((goB false, [], []) = r)
  (TB s
    (LoopTo Try.prog H (H 13) 0 (loopOf Try.prog 13 4)
        (mkS 50 [(2, AV.pt 0 0 0), (3, AV.pt 1 0 0), (5, goI 0)]
          [Row.box [AV.sl (List.map encO a)], Row.box [AV.sl (List.map encO b)]])
        (Ex.exit 0, mkS 50 [] [Row.dead, Row.dead]) ∧
      (goB true, [], []) = r)
    (LoopTo Try.prog H (H 13) 0 (loopOf Try.prog 13 4)
        (mkS 50 [(2, AV.pt 0 0 0), (3, AV.pt 1 0 0), (5, goI 0)]
          [Row.box [AV.sl (List.map encO a)], Row.box [AV.sl (List.map encO b)]])
        (Ex.ret, mkS 50 [(4, goB false)] [Row.dead, Row.dead]) ∧
      (goB false, [], []) = r))) := by kernel_rfl
theorem t13_4 (a : List Obj) (b : List Obj) (i : Nat) (r : Ex × St) : (turnT Try.prog H F13 L0 false (H 13) 0 (loopOf Try.prog 13 4)
  (mkS 50 [(2, AV.pt 0 0 0), (3, AV.pt 1 0 0), (5, goI (↑i : Int))]
    [Row.box [AV.sl (List.map encO a)], Row.box [AV.sl (List.map encO b)]])
  r) = (TB (decide ((↑i : Int) < (↑(List.length (List.map encO a)) : Int)))
  ((0 ≤ (↑i : Int) ∧
      (List.map encO a)[i]? =
        some [AV.sl (rdL (rowAt (List.map encO a) i) 0), AV.sl (rdL (rowAt (List.map encO a) i) 1)]) ∧
    (0 ≤ (↑i : Int) ∧
        (List.map encO b)[i]? =
          some [AV.sl (rdL (rowAt (List.map encO b) i) 0), AV.sl (rdL (rowAt (List.map encO b) i) 1)]) ∧
      Wf Try.prog H 16 [AV.sl (rdL (rowAt (List.map encO a) i) 0), AV.sl (rdL (rowAt (List.map encO b) i) 0)] [] =
          some (goB (U.intsR (rdL (rowAt (List.map encO a) i) 0) (rdL (rowAt (List.map encO b) i) 0)), [], []) ∧
        TB (!U.intsR (rdL (rowAt (List.map encO a) i) 0) (rdL (rowAt (List.map encO b) i) 0))
          ((Ex.ret, mkS 50 [(4, goB false)] [Row.dead, Row.dead]) = r)
          ((0 ≤ (↑i : Int) ∧
              (List.map encO a)[i]? =
                some [AV.sl (rdL (rowAt (List.map encO a) i) 0), AV.sl (rdL (rowAt (List.map encO a) i) 1)]) ∧
            (0 ≤ (↑i : Int) ∧
                (List.map encO b)[i]? =
                  some [AV.sl (rdL (rowAt (List.map encO b) i) 0), AV.sl (rdL (rowAt (List.map encO b) i) 1)]) ∧
              Wf Try.prog H 16 [AV.sl (rdL (rowAt (List.map encO a) i) 1), AV.sl (rdL (rowAt (List.map encO b) i) 1)]
                    [] =
                  some (goB (U.intsR (rdL (rowAt (List.map encO a) i) 1) (rdL (rowAt (List.map encO b) i) 1)), [], []) ∧
                TB (!U.intsR (rdL (rowAt (List.map encO a) i) 1) (rdL (rowAt (List.map encO b) i) 1))
                  ((Ex.ret, mkS 50 [(4, goB false)] [Row.dead, Row.dead]) = r)
                  (LoopTo Try.prog H (H 13) 0 (loopOf Try.prog 13 4)
                    (mkS 50 [(2, AV.pt 0 0 0), (3, AV.pt 1 0 0), (5, goI (IntKind.wrap IntKind.i64 ((↑i : Int) + 1)))]
                      [Row.box [AV.sl (List.map encO a)], Row.box [AV.sl (List.map encO b)]])
                    r)))
  ((Ex.exit 0, mkS 50 [] [Row.dead, Row.dead]) = r)) := by kernel_rfl
theorem t9 (a : List Obj) (n : Int) (r : AV × List Row × List Nat) : (runT Try.prog H (fun f args sto => CT.of (F0 f args sto))
  (fun id st => LT.is (Ex.exit 0) (mkS 38 [(3, goI n)] [Row.box [AV.sl (List.map encO a)]])) false 9 [hp a] [] fun q =>
  q = r) = (LoopTo Try.prog H (H 9) 0 (loopOf Try.prog 9 3)
    (mkS 38 [(1, AV.pt 0 0 0), (3, goI (↑(List.length (List.map encO a)) : Int)), (4, goI 0)]
      [Row.box [AV.sl (List.map encO a)]])
    (Ex.exit 0, mkS 38 [(3, goI n)] [Row.box [AV.sl (List.map encO a)]]) ∧
  (goB (decide (n > 300)), [], []) = r) := by kernel_rfl
theorem t9_3 (a : List Obj) (n : Int) (i : Nat) (r : Ex × St) : (turnT Try.prog H (fun f args sto => CT.of (F0 f args sto)) L0 false (H 9) 0 (loopOf Try.prog 9 3)
  (mkS 38 [(1, AV.pt 0 0 0), (3, goI n), (4, goI (↑i : Int))] [Row.box [AV.sl (List.map encO a)]]) r) = (TB (decide ((↑i : Int) < (↑(List.length (List.map encO a)) : Int)))
  (TB (decide (n ≤ 300))
    ((0 ≤ (↑i : Int) ∧
        (List.map encO a)[i]? =
          some [AV.sl (rdL (rowAt (List.map encO a) i) 0), AV.sl (rdL (rowAt (List.map encO a) i) 1)]) ∧
      (0 ≤ (↑i : Int) ∧
          (List.map encO a)[i]? =
            some [AV.sl (rdL (rowAt (List.map encO a) i) 0), AV.sl (rdL (rowAt (List.map encO a) i) 1)]) ∧
        LoopTo Try.prog H (H 9) 0 (loopOf Try.prog 9 3)
          (mkS 38
            [(1, AV.pt 0 0 0),
              (3,
                goI
                  (IntKind.wrap IntKind.i64
                    (IntKind.wrap IntKind.i64 (n + (↑(List.length (rdL (rowAt (List.map encO a) i) 0)) : Int)) +
                      (↑(List.length (rdL (rowAt (List.map encO a) i) 1)) : Int)))),
              (4, goI (IntKind.wrap IntKind.i64 ((↑i : Int) + 1)))]
            [Row.box [AV.sl (List.map encO a)]])
          r)
    ((Ex.exit 0, mkS 38 [(3, goI n)] [Row.box [AV.sl (List.map encO a)]]) = r))
  ((Ex.exit 0, mkS 38 [(3, goI n)] [Row.box [AV.sl (List.map encO a)]]) = r)) := by kernel_rfl
theorem t36 (a : List Int) (n : Int) (r : AV × List Row × List Nat) : (runT Try.prog H (fun f args sto => CT.of (F0 f args sto)) L0 false 36 [AV.sl (List.map encI a), goI n] [] fun q => q = r) = (TB (decide (n < 0)) ((AV.tup [goI 0, goI 15], [], []) = r)
  (TB (decide (n ≥ (↑(List.length (List.map encI a)) : Int))) ((AV.tup [goI 0, goI 15], [], []) = r)
    ((0 ≤ n ∧ (List.map encI a)[Int.toNat n]? = some [goI (rdI (rowAt (List.map encI a) (Int.toNat n)) 0)]) ∧
      (AV.tup [goI (rdI (rowAt (List.map encI a) (Int.toNat n)) 0), goI 0], [], []) = r))) := by kernel_rfl
theorem t35 (a : List Obj) (n : Int) (r : AV × List Row × List Nat) : (runT Try.prog H F35 L0 false 35 [hp a, goI n] [] fun q => q = r) = (Wf Try.prog H 14 [AV.agg [AV.sl (List.map encO a)]] [] = some (goB (U.rightR (List.map encO a)), [], []) ∧
  TB (!U.rightR (List.map encO a)) ((AV.tup [AV.agg [AV.sl [], AV.sl []], goI 1], [], []) = r)
    (TB (n == 0) ((AV.tup [AV.agg [AV.sl [], AV.sl []], goI 14], [], []) = r)
      (TB (decide (n < 0)) ((AV.tup [AV.agg [AV.sl [], AV.sl []], goI 1], [], []) = r)
        (TB (decide (n > (↑(List.length (List.map encO a)) : Int)))
          ((AV.tup [AV.agg [AV.sl [], AV.sl []], goI 1], [], []) = r)
          ((0 ≤ IntKind.wrap IntKind.i64 (n - 1) ∧
              (List.map encO a)[Int.toNat (IntKind.wrap IntKind.i64 (n - 1))]? =
                some
                  [AV.sl (rdL (rowAt (List.map encO a) (Int.toNat (IntKind.wrap IntKind.i64 (n - 1)))) 0),
                    AV.sl (rdL (rowAt (List.map encO a) (Int.toNat (IntKind.wrap IntKind.i64 (n - 1)))) 1)]) ∧
            (AV.tup
                  [AV.agg
                      [AV.sl (rdL (rowAt (List.map encO a) (Int.toNat (IntKind.wrap IntKind.i64 (n - 1)))) 0),
                        AV.sl (rdL (rowAt (List.map encO a) (Int.toNat (IntKind.wrap IntKind.i64 (n - 1)))) 1)],
                    goI 0],
                [], []) =
              r))))) := by kernel_rfl
theorem ints_step (a b : List Int) {i : Nat} (h : i < a.length) : U.ints a b i = (decide (U.nt a i = U.nt b i) && U.ints a b (i + 1)) := allFrom_step _ h
theorem ints_end {a b : List Int} {i : Nat} (h : a.length ≤ i) : U.ints a b i = true := allFrom_end _ h
theorem loop16_4 (a b : List Int) (hl : a.length ≤ 9223372036854775807) (hab : a.length = b.length) : ∀ (d i : Nat), i + d = a.length →
    LoopTo Try.prog H (H 16) 0 (loopOf Try.prog 16 4) (mkS 26 [(0, .sl (a.map encI)), (1, .sl (b.map encI)), (5, goI i)]) (if U.ints a b i then (.exit 0, mkS 26 []) else (.ret, mkS 26 [(4, goB false)]))
  | 0, i, hd => by
    refine turnK (t16_4 a b i _) ?_
    rw [List.length_map, decide_eq_false (by omega), ints_end (by omega)]
    exact rfl
  | d + 1, i, hd => by
    have hi : i < a.length := by omega
    have hib : i < b.length := by omega
    have ih := loop16_4 a b hl hab d (i + 1) (by omega)
    refine turnK (t16_4 a b i _) ?_
    have w0 : IntKind.i64.wrap ((i : Int) + 1) = ((i + 1 : Nat) : Int) := by rw [wrap64] <;> omega
    rw [List.length_map, decide_eq_true (by omega), w0, rowI hi, getI hi, rowI hib, getI hib, ints_step a b hi]
    simp only [rdI, List.getD_cons_zero, int_goI]
    refine ⟨⟨by omega, by trivial⟩, ⟨by omega, by trivial⟩, ?_⟩
    by_cases h : U.nt a i = U.nt b i
    · rw [beq_iff_eq.2 h, decide_eq_true h]; exact ih
    · rw [beq_eq_false_iff_ne.2 h, decide_eq_false h]; exact rfl
theorem intsR_map (a b : List Int) : U.intsR (a.map encI) (b.map encI) = (decide (a.length = b.length) && U.ints a b 0) := by
  unfold U.intsR; rw [decI1, decI1, List.length_map, List.length_map]
theorem wf16 (a b : List Int) (hl : a.length ≤ 9223372036854775807) : Wf Try.prog H 16 [.sl (a.map encI), .sl (b.map encI)] [] = some (goB (U.intsR (a.map encI) (b.map encI)), [], []) := by
  refine runK (t16 a b (U.ints a b 0) _) ?_
  rw [intsR_map, List.length_map, List.length_map]
  by_cases hab : a.length = b.length
  · have h := loop16_4 a b hl hab a.length 0 (by omega)
    rw [hab, beq_self_eq_true, decide_eq_true rfl]
    cases h1 : U.ints a b 0 with
    | true => rw [h1] at h; exact ⟨h, rfl⟩
    | false => rw [h1] at h; exact ⟨h, rfl⟩
  · have h2 : ((a.length : Int) == (b.length : Int)) = false := beq_eq_false_iff_ne.2 (by omega)
    rw [decide_eq_false hab, h2]
    exact rfl
theorem intsR_iff (a b : List Int) : U.intsR (a.map encI) (b.map encI) = true ↔ a = b := by
  rw [intsR_map, Bool.and_eq_true, decide_eq_true_eq]
  unfold U.ints
  rw [allFrom_iff]
  constructor
  · rintro ⟨h1, h2⟩
    apply List.ext_getElem h1
    intro i g1 g2
    have := h2 i (Nat.zero_le _) g1
    unfold U.nt at this
    rw [decide_eq_true_eq, List.getD_eq_getElem?_getD, List.getD_eq_getElem?_getD, List.getElem?_eq_getElem g1, List.getElem?_eq_getElem g2] at this
    exact this
  · rintro rfl
    exact ⟨rfl, fun j _ _ => by simp⟩
theorem same_step (a b : List Obj) {i : Nat} (h : i < a.length) : U.sameFrom a b i = ((U.intsR ((U.ob a i).refs.map encI) ((U.ob b i).refs.map encI) && U.intsR ((U.ob a i).ints.map encI) ((U.ob b i).ints.map encI)) && U.sameFrom a b (i + 1)) := allFrom_step _ h
theorem same_end {a b : List Obj} {i : Nat} (h : a.length ≤ i) : U.sameFrom a b i = true := allFrom_end _ h
/-- Lists that aren't too long. -/
def Short (hs : List Obj) : Prop := hs.length < 1000000 ∧ ∀ o ∈ hs, o.refs.length ≤ 9223372036854775807 ∧ o.ints.length ≤ 9223372036854775807
theorem loop13_4 (a b : List Obj) (hl : Short a) (hab : a.length = b.length) : ∀ (d i : Nat), i + d = a.length →
    LoopTo Try.prog H (H 13) 0 (loopOf Try.prog 13 4) (mkS 50 [(2, .pt 0 0 0), (3, .pt 1 0 0), (5, goI i)] [.box [.sl (a.map encO)], .box [.sl (b.map encO)]]) (if U.sameFrom a b i then (.exit 0, mkS 50 [] [.dead, .dead]) else (.ret, mkS 50 [(4, goB false)] [.dead, .dead]))
  | 0, i, hd => by
    refine turnK (t13_4 a b i _) ?_
    rw [List.length_map, decide_eq_false (by omega), same_end (by omega)]
    exact rfl
  | d + 1, i, hd => by
    have hi : i < a.length := by omega
    have hib : i < b.length := by omega
    have ih := loop13_4 a b hl hab d (i + 1) (by omega)
    obtain ⟨o1, o2⟩ := hl.2 _ (ob_mem hi)
    have h1 := wf16 (U.ob a i).refs (U.ob b i).refs o1
    have h2 := wf16 (U.ob a i).ints (U.ob b i).ints o2
    refine turnK (t13_4 a b i _) ?_
    rw [List.length_map, decide_eq_true (by omega), wrapS hi hl.1, rowO hi, getO hi, rowO hib, getO hib, same_step a b hi]
    simp only [rdL, List.getD_cons_zero, List.getD_cons_succ, slOf]
    refine ⟨⟨by omega, by trivial⟩, ⟨by omega, by trivial⟩, h1, ?_⟩
    cases U.intsR ((U.ob a i).refs.map encI) ((U.ob b i).refs.map encI) with
    | false => exact rfl
    | true =>
      refine ⟨⟨by omega, by trivial⟩, ⟨by omega, by trivial⟩, h2, ?_⟩
      cases U.intsR ((U.ob a i).ints.map encI) ((U.ob b i).ints.map encI) with
      | false => exact rfl
      | true => exact ih
namespace U
def same (a b : List Obj) : Bool := decide (a.length = b.length) && sameFrom a b 0
end U
theorem wf13 (a b : List Obj) (hl : Short a) : Wf Try.prog H 13 [hp a, hp b] [] = some (goB (U.same a b), [], []) := by
  refine runK (t13 a b (U.sameFrom a b 0) _) ?_
  unfold U.same
  rw [List.length_map, List.length_map]
  by_cases hab : a.length = b.length
  · have h := loop13_4 a b hl hab a.length 0 (by omega)
    rw [hab, beq_self_eq_true, decide_eq_true rfl]
    cases h1 : U.sameFrom a b 0 with
    | true => rw [h1] at h; exact ⟨h, rfl⟩
    | false => rw [h1] at h; exact ⟨h, rfl⟩
  · have h2 : ((a.length : Int) == (b.length : Int)) = false := beq_eq_false_iff_ne.2 (by omega)
    rw [decide_eq_false hab, h2]
    exact rfl
theorem same_self (a : List Obj) : U.same a a = true := by
  unfold U.same U.sameFrom
  rw [decide_eq_true rfl, Bool.true_and, allFrom_iff]
  intro j _ _
  rw [(intsR_iff _ _).2 rfl, (intsR_iff _ _).2 rfl]; rfl
/-- Lists as they may be handed in. -/
def Handed (hs : List Obj) : Prop := hs.length ≤ 9223372036854775807 ∧ ∀ o ∈ hs, o.refs.length ≤ 9223372036854775807 ∧ o.ints.length ≤ 9223372036854775807
theorem loop9_3 (a : List Obj) (hl : Handed a) : ∀ (d i : Nat) (n : Int), i + d = a.length →
    LoopTo Try.prog H (H 9) 0 (loopOf Try.prog 9 3) (mkS 38 [(1, .pt 0 0 0), (3, goI n), (4, goI i)] [.box [.sl (a.map encO)]]) (.exit 0, mkS 38 [(3, goI (U.great (a.drop i) n))] [.box [.sl (a.map encO)]])
  | 0, i, n, hd => by
    refine turnK (t9_3 a n i _) ?_
    rw [List.length_map, decide_eq_false (by omega), List.drop_eq_nil_of_le (by omega)]
    exact rfl
  | d + 1, i, n, hd => by
    have hi : i < a.length := by omega
    obtain ⟨o1, o2⟩ := hl.2 _ (ob_mem hi)
    have hl1 := hl.1
    have ed : a.drop i = U.ob a i :: a.drop (i + 1) := drop_cons' a hi
    refine turnK (t9_3 a n i _) ?_
    have w0 : IntKind.i64.wrap ((i : Int) + 1) = ((i + 1 : Nat) : Int) := by rw [wrap64] <;> omega
    rw [List.length_map, decide_eq_true (by omega), w0, rowO hi, getO hi, ed]
    simp only [rdL, List.getD_cons_zero, List.getD_cons_succ, slOf, List.length_map]
    by_cases hn : n ≤ 300
    · have ih := loop9_3 a hl d (i + 1) (U.parts n (U.ob a i)) (by omega)
      have eg : U.great (U.ob a i :: a.drop (i + 1)) n = U.great (a.drop (i + 1)) (U.parts n (U.ob a i)) := if_pos hn
      rw [decide_eq_true hn, eg]
      exact ⟨⟨by omega, by trivial⟩, ⟨by omega, by trivial⟩, ih⟩
    · have eg : U.great (U.ob a i :: a.drop (i + 1)) n = n := if_neg hn
      rw [decide_eq_false hn, eg]
      exact rfl
theorem wf9 (a : List Obj) (hl : Handed a) : Wf Try.prog H 9 [hp a] [] = some (goB (decide (U.great a a.length > 300)), [], []) := by
  have hl1 := hl.1
  have h := loop9_3 a hl a.length 0 a.length (by omega)
  rw [List.drop_zero] at h
  refine runK (t9 a (U.great a a.length) _) ⟨?_, rfl⟩
  rw [List.length_map]
  exact h
theorem short_of {hs : List Obj} (hh : Handed hs) (h : U.great hs hs.length ≤ 300) : Short hs := by
  refine ⟨?_, hh.2⟩
  cases hs with
  | nil => simp
  | cons o l =>
    unfold U.great at h
    by_cases hn : ((o :: l).length : Int) ≤ 300
    · omega
    · rw [if_neg hn] at h; exact absurd h hn
end Go.Proofs.Ytnmnaomfohlmcaa.E
