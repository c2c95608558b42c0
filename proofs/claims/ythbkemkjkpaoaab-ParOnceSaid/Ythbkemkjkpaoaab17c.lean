/- Functions, by what the evaluator asks; the theorems t.. were printed by show.txt, a program of this session. -/
import Derived.Test.Ythbkemkjkpaoaab17b
set_option linter.unusedVariables false
set_option linter.unusedSimpArgs false
set_option maxRecDepth 100000
namespace Go.Proofs.Ythbkemkjkpaoaab.E
open Go
def kd2 : Bool × List IntKind := (true, [.i64, .i64])
namespace U
/-- How often a place is asked for. -/
def cnt (l : List Mv) (i : Nat) (x : Loc) : Nat := ((l.take i).map (·.fr)).count x
def free (l : List Mv) (i : Nat) : Bool := decide (cnt l l.length (to l i) = 0)
/-- The first one from i on. -/
def firstOf (p : Nat → Bool) : Nat → Nat → Int
  | 0, _ => -1
  | d + 1, i => if p i then i else firstOf p d (i + 1)
def freeIdx (l : List Mv) : Int := firstOf (free l) l.length 0
end U
def Cnt (L : List (List Int × Value)) (l : List Mv) (i : Nat) : Prop := ∀ x : Loc, atKeyV [x.k, x.n] (.int .i64 0) L = .int .i64 (U.cnt l i x)
def F33 (l : List Mv) : CallF := fun f args sto => match f, args with
 | 33, [.agg (.v (.int _ a) :: .v (.int _ b) :: _), _] => some (goB (decide (U.cnt l l.length ⟨a, b⟩ = 0)), sto, [])
 | 32, _ => some (goI (U.freeIdx l), sto, [])
 | _, _ => none
def L32 (l : List Mv) : Nat → St → LT := fun id st => .by (decide (0 ≤ U.freeIdx l)) (.is .ret (mkS 19 [(4, goI (U.freeIdx l))] st.sto)) (.is (.exit 0) (mkS 19 [] st.sto))
def L27 (Lf : List (List Int × Value)) : Nat → St → LT := fun id st => match st.env with
 | x0 :: _ => .is (.exit 0) (mkS 24 [(0, x0), (3, .pt 1 0 0)] [.map kd2 Lf, .box [.mp 0], .dead])
 | _ => .no

theorem t33 (l : List Mv) (m : Mv) (L : List (List Int × Value)) (r : AV × List Row × List Nat) : (runT Try.prog H (fun f args sto => CT.of (F0 f args sto)) L0 false 33 [AV.agg (encM m), AV.pt 0 0 0]
  [Row.box [AV.mp 1], Row.map kd2 L] fun q => q = r) = (goodKey [IntKind.i64, IntKind.i64] [(Mv.to m).1, (Mv.to m).2] = true ∧
  atKeyV [(Mv.to m).1, (Mv.to m).2] (Value.int IntKind.i64 0) L =
      Value.int IntKind.i64 (intOf (AV.v (atKeyV [(Mv.to m).1, (Mv.to m).2] (Value.int IntKind.i64 0) L))) ∧
    (goB (intOf (AV.v (atKeyV [(Mv.to m).1, (Mv.to m).2] (Value.int IntKind.i64 0) L)) == 0),
        [Row.box [AV.mp 1], Row.map (true, [IntKind.i64, IntKind.i64]) L], []) =
      r) := by kernel_rfl
theorem t32 (l : List Mv) (L : List (List Int × Value)) (r : AV × List Row × List Nat) : (runT Try.prog H (fun f args sto => CT.of (F33 l f args sto)) (L32 l) false 32
  [AV.sl (List.map encM l), AV.clo 33 [AV.pt 0 0 0]] [Row.box [AV.mp 1], Row.map kd2 L] fun q => q = r) = (TB (decide (0 ≤ U.freeIdx l))
  (LoopTo Try.prog H (H 32) 2 (loopOf Try.prog 32 2)
      (mkS 19
        [(0, AV.sl (List.map encM l)), (1, AV.clo 33 [AV.pt 0 0 0]), (7, goI (↑(List.length (List.map encM l)) : Int)),
          (8, goI 0)]
        [Row.box [AV.mp 1], Row.map (true, [IntKind.i64, IntKind.i64]) L])
      (Ex.ret, mkS 19 [(4, goI (U.freeIdx l))] [Row.box [AV.mp 1], Row.map (true, [IntKind.i64, IntKind.i64]) L]) ∧
    (goI (U.freeIdx l), [Row.box [AV.mp 1], Row.map (true, [IntKind.i64, IntKind.i64]) L], []) = r)
  (LoopTo Try.prog H (H 32) 2 (loopOf Try.prog 32 2)
      (mkS 19
        [(0, AV.sl (List.map encM l)), (1, AV.clo 33 [AV.pt 0 0 0]), (7, goI (↑(List.length (List.map encM l)) : Int)),
          (8, goI 0)]
        [Row.box [AV.mp 1], Row.map (true, [IntKind.i64, IntKind.i64]) L])
      (Ex.exit 0, mkS 19 [] [Row.box [AV.mp 1], Row.map (true, [IntKind.i64, IntKind.i64]) L]) ∧
    (goI (-1), [Row.box [AV.mp 1], Row.map (true, [IntKind.i64, IntKind.i64]) L], []) = r)) := by kernel_rfl
theorem t32_2 (l : List Mv) (i : Nat) (L : List (List Int × Value)) (r : Ex × St) : (turnT Try.prog H (fun f args sto => CT.of (F33 l f args sto)) (L32 l) false (H 32) 2 (loopOf Try.prog 32 2)
  (mkS 19
    [(0, AV.sl (List.map encM l)), (1, AV.clo 33 [AV.pt 0 0 0]), (7, goI (↑(List.length l) : Int)), (8, goI (↑i : Int))]
    [Row.box [AV.mp 1], Row.map kd2 L])
  r) = (TB (decide ((↑i : Int) < (↑(List.length l) : Int)))
  ((0 ≤ (↑i : Int) ∧
      (List.map encM l)[i]? =
        some
          [goI (rdI (rowAt (List.map encM l) i) 0), goI (rdI (rowAt (List.map encM l) i) 1),
            goI (rdI (rowAt (List.map encM l) i) 2), goI (rdI (rowAt (List.map encM l) i) 3)]) ∧
    Wf Try.prog H 33
          [AV.agg
              [goI (rdI (rowAt (List.map encM l) i) 0), goI (rdI (rowAt (List.map encM l) i) 1),
                goI (rdI (rowAt (List.map encM l) i) 2), goI (rdI (rowAt (List.map encM l) i) 3)],
            AV.pt 0 0 0]
          [Row.box [AV.mp 1], Row.map (true, [IntKind.i64, IntKind.i64]) L] =
        some
          (goB
              (decide
                (U.cnt l (List.length l)
                    (Loc.mk (rdI (rowAt (List.map encM l) i) 0) (rdI (rowAt (List.map encM l) i) 1)) =
                  0)),
            [Row.box [AV.mp 1], Row.map (true, [IntKind.i64, IntKind.i64]) L], []) ∧
      TB
        (decide
          (U.cnt l (List.length l) (Loc.mk (rdI (rowAt (List.map encM l) i) 0) (rdI (rowAt (List.map encM l) i) 1)) =
            0))
        ((Ex.ret, mkS 19 [(4, goI (↑i : Int))] [Row.box [AV.mp 1], Row.map (true, [IntKind.i64, IntKind.i64]) L]) = r)
        (LoopTo Try.prog H (H 32) 2 (loopOf Try.prog 32 2)
          (mkS 19
            [(0, AV.sl (List.map encM l)), (1, AV.clo 33 [AV.pt 0 0 0]), (7, goI (↑(List.length l) : Int)),
              (8, goI (IntKind.wrap IntKind.i64 ((↑i : Int) + 1)))]
            [Row.box [AV.mp 1], Row.map (true, [IntKind.i64, IntKind.i64]) L])
          r))
  ((Ex.exit 0, mkS 19 [] [Row.box [AV.mp 1], Row.map (true, [IntKind.i64, IntKind.i64]) L]) = r)) := by kernel_rfl
theorem t27 (l : List Mv) (L : List (List Int × Value)) (r : AV × List Row × List Nat) : (runT Try.prog H (fun f args sto => CT.of (F33 l f args sto)) (L27 L) false 27 [AV.sl (List.map encM l)] [] fun q =>
  q = r) = (LoopTo Try.prog H (H 27) 0 (loopOf Try.prog 27 3)
    (mkS 24
      [(0, AV.sl (List.map encM l)), (3, AV.pt 1 0 0), (7, AV.sl (List.map encM l)),
        (8, goI (↑(List.length (List.map encM l)) : Int)), (9, goI 0)]
      [Row.map (true, [IntKind.i64, IntKind.i64]) [], Row.box [AV.mp 0], Row.dead])
    (Ex.exit 0,
      mkS 24 [(0, AV.sl (List.map encM l)), (3, AV.pt 1 0 0)]
        [Row.map (true, [IntKind.i64, IntKind.i64]) L, Row.box [AV.mp 0], Row.dead]) ∧
  Wf Try.prog H 32 [AV.sl (List.map encM l), AV.clo 33 [AV.pt 0 0 0]]
        [Row.box [AV.mp 1], Row.map (true, [IntKind.i64, IntKind.i64]) L] =
      some (goI (U.freeIdx l), [Row.box [AV.mp 1], Row.map (true, [IntKind.i64, IntKind.i64]) L], []) ∧
    (goI (U.freeIdx l), [], []) = r) := by kernel_rfl
theorem t27_3 (l : List Mv) (i : Nat) (L : List (List Int × Value)) (L2 : List (List Int × Value)) (r : Ex × St) : (turnT Try.prog H (fun f args sto => CT.of (F33 l f args sto)) (L27 L) false (H 27) 0 (loopOf Try.prog 27 3)
  (mkS 24
    [(0, AV.sl (List.map encM l)), (3, AV.pt 1 0 0), (7, AV.sl (List.map encM l)), (8, goI (↑(List.length l) : Int)),
      (9, goI (↑i : Int))]
    [Row.map kd2 L2, Row.box [AV.mp 0], Row.dead])
  r) = (TB (decide ((↑i : Int) < (↑(List.length l) : Int)))
  ((0 ≤ (↑i : Int) ∧
      (List.map encM l)[i]? =
        some
          [goI (rdI (rowAt (List.map encM l) i) 0), goI (rdI (rowAt (List.map encM l) i) 1),
            goI (rdI (rowAt (List.map encM l) i) 2), goI (rdI (rowAt (List.map encM l) i) 3)]) ∧
    goodKey [IntKind.i64, IntKind.i64] [rdI (rowAt (List.map encM l) i) 2, rdI (rowAt (List.map encM l) i) 3] = true ∧
      atKeyV [rdI (rowAt (List.map encM l) i) 2, rdI (rowAt (List.map encM l) i) 3] (Value.int IntKind.i64 0) L2 =
          Value.int IntKind.i64
            (intOf
              (AV.v
                (atKeyV [rdI (rowAt (List.map encM l) i) 2, rdI (rowAt (List.map encM l) i) 3] (Value.int IntKind.i64 0)
                  L2))) ∧
        goodKey [IntKind.i64, IntKind.i64] [rdI (rowAt (List.map encM l) i) 2, rdI (rowAt (List.map encM l) i) 3] =
            true ∧
          atKeyV [rdI (rowAt (List.map encM l) i) 2, rdI (rowAt (List.map encM l) i) 3] (Value.int IntKind.i64 0) L2 =
              Value.int IntKind.i64
                (intOf
                  (AV.v
                    (atKeyV [rdI (rowAt (List.map encM l) i) 2, rdI (rowAt (List.map encM l) i) 3]
                      (Value.int IntKind.i64 0) L2))) ∧
            (0 ≤
                  (↑(Option.getD (posL [rdI (rowAt (List.map encM l) i) 2, rdI (rowAt (List.map encM l) i) 3] L2)
                        (List.length L2)) :
                    Int) ∧
                Option.getD (posL [rdI (rowAt (List.map encM l) i) 2, rdI (rowAt (List.map encM l) i) 3] L2)
                    (List.length L2) <
                  List.length
                    (entL [rdI (rowAt (List.map encM l) i) 2, rdI (rowAt (List.map encM l) i) 3]
                      (Value.int IntKind.i64 0) L2)) ∧
              LoopTo Try.prog H (H 27) 0 (loopOf Try.prog 27 3)
                (mkS 24
                  [(0, AV.sl (List.map encM l)), (3, AV.pt 1 0 0), (7, AV.sl (List.map encM l)),
                    (8, goI (↑(List.length l) : Int)), (9, goI (IntKind.wrap IntKind.i64 ((↑i : Int) + 1)))]
                  [Row.map (true, [IntKind.i64, IntKind.i64])
                      (setL
                        (Option.getD (posL [rdI (rowAt (List.map encM l) i) 2, rdI (rowAt (List.map encM l) i) 3] L2)
                          (List.length L2))
                        (Value.int IntKind.i64
                          (IntKind.wrap IntKind.i64
                            (intOf
                                (AV.v
                                  (atKeyV [rdI (rowAt (List.map encM l) i) 2, rdI (rowAt (List.map encM l) i) 3]
                                    (Value.int IntKind.i64 0) L2)) +
                              1)))
                        (entL [rdI (rowAt (List.map encM l) i) 2, rdI (rowAt (List.map encM l) i) 3]
                          (Value.int IntKind.i64 0) L2)),
                    Row.box [AV.mp 0], Row.dead])
                r)
  ((Ex.exit 0,
      mkS 24 [(0, AV.sl (List.map encM l)), (3, AV.pt 1 0 0)]
        [Row.map (true, [IntKind.i64, IntKind.i64]) L2, Row.box [AV.mp 0], Row.dead]) =
    r)) := by kernel_rfl
theorem wf33 (l : List Mv) (m : Mv) (L : List (List Int × Value)) (hm : m.ok) (hL : Cnt L l l.length) : Wf Try.prog H 33 [.agg (encM m), .pt 0 0 0] [.box [.mp 1], .map kd2 L] = some (goB (decide (U.cnt l l.length m.to = 0)), [.box [.mp 1], .map kd2 L], []) := runT_ok (viaK (t33 l m L _) (by
  have h := hL m.to
  simp only [Prod.mk.injEq, goB_inj, h, int_v, and_true, true_and, kd2]
  refine ⟨good2 hm.1.1 hm.1.2, ?_⟩
  rw [Bool.eq_iff_iff]
  simp))
theorem loop32_2 (l : List Mv) (hl : l.length < 1000000) (hw : ∀ m ∈ l, m.ok) (L : List (List Int × Value)) (hL : Cnt L l l.length) : ∀ (d i : Nat), i + d = l.length →
    LoopTo Try.prog H (H 32) 2 (loopOf Try.prog 32 2) (mkS 19 [(0, .sl (l.map encM)), (1, .clo 33 [.pt 0 0 0]), (7, goI l.length), (8, goI i)] [.box [.mp 1], .map kd2 L])
      (if 0 ≤ U.firstOf (U.free l) d i then (.ret, mkS 19 [(4, goI (U.firstOf (U.free l) d i))] [.box [.mp 1], .map kd2 L]) else (.exit 0, mkS 19 [] [.box [.mp 1], .map kd2 L]))
  | 0, i, hd => turnT_ok (viaK (t32_2 l i L _) (by
    have hi : i = l.length := by omega
    subst hi
    simp [TB_iff, U.firstOf, kd2]))
  | d + 1, i, hd => turnT_ok (viaK (t32_2 l i L _) (by
    have hi : i < l.length := by omega
    have ih := loop32_2 l hl hw L hL d (i + 1) (by omega)
    have hwr : IntKind.i64.wrap ((i : Int) + 1) = ((i + 1 : Nat) : Int) := by rw [wrap64] <;> omega
    have hm := to_ok hw hi
    have h33 := wf33 l (l.getD i default) L ⟨hm.1, hm.2⟩ hL
    have e1 : encM (l.getD i default) = [goI (U.to l i).k, goI (U.to l i).n, goI (U.fr l i).k, goI (U.fr l i).n] := rfl
    rw [e1] at h33
    have hf : U.free l i = decide (U.cnt l l.length (U.to l i) = 0) := rfl
    have e2 : (l.getD i default).to = U.to l i := rfl
    rw [e2] at h33
    simp only [TB_iff, decide_eq_true_eq, hwr]
    refine ⟨fun _ => ?_, fun h => absurd h (by simp; omega)⟩
    rw [row13 hi, map13 hi]
    simp only [rdI, List.getD_cons_zero, List.getD_cons_succ, int_goI]
    simp only [kd2] at h33 ih ⊢
    refine ⟨⟨by omega, trivial⟩, h33, ?_⟩
    refine ⟨fun h => ?_, fun h => ?_⟩
    · have e4 : U.firstOf (U.free l) (d + 1) i = (i : Int) := by simp only [U.firstOf]; exact if_pos (decide_eq_true h)
      rw [e4, if_pos (by omega)]
    · have e4 : U.firstOf (U.free l) (d + 1) i = U.firstOf (U.free l) d (i + 1) := by simp only [U.firstOf]; exact if_neg (fun hh => absurd (of_decide_eq_true hh) (by simpa using h))
      rw [e4]; exact ih))
theorem wf32 (l : List Mv) (hl : l.length < 1000000) (hw : ∀ m ∈ l, m.ok) (L : List (List Int × Value)) (hL : Cnt L l l.length) : Wf Try.prog H 32 [.sl (l.map encM), .clo 33 [.pt 0 0 0]] [.box [.mp 1], .map kd2 L] = some (goI (U.freeIdx l), [.box [.mp 1], .map kd2 L], []) := runT_ok (viaK (t32 l L _) (by
  have h := loop32_2 l hl hw L hL l.length 0 (by omega)
  have hneg : ∀ d i, 0 ≤ U.firstOf (U.free l) d i ∨ U.firstOf (U.free l) d i = -1 := by
    intro d
    induction d with
    | zero => intro i; right; rfl
    | succ d ih => intro i; simp only [U.firstOf]; split <;> first | (left; omega) | exact ih _
  rw [show U.firstOf (U.free l) l.length 0 = U.freeIdx l from rfl] at h
  have hn := hneg l.length 0
  rw [show U.firstOf (U.free l) l.length 0 = U.freeIdx l from rfl] at hn
  simp only [TB_iff, decide_eq_true_eq, decide_eq_false_iff_not, List.length_map, kd2] at h ⊢
  refine ⟨fun h0 => ?_, fun h0 => ?_⟩
  · rw [if_pos h0] at h; exact ⟨h, trivial⟩
  · rw [if_neg h0] at h; rcases hn with hn | hn
    · exact absurd hn h0
    · rw [hn]; exact ⟨h, rfl⟩))
theorem cnt_step (l : List Mv) {i : Nat} (hi : i < l.length) (x : Loc) : U.cnt l (i + 1) x = U.cnt l i x + (if U.fr l i = x then 1 else 0) := by
  have e : l.take (i + 1) = l.take i ++ [l.getD i default] := by rw [List.take_add_one, get_ok hi]; rfl
  unfold U.cnt
  rw [e, List.map_append, List.count_append]
  simp [U.fr, List.count_cons]
theorem cnt_le (l : List Mv) (i : Nat) (x : Loc) : U.cnt l i x ≤ l.length := by
  unfold U.cnt
  refine Nat.le_trans List.count_le_length ?_
  simp
  omega
theorem loop27_3 (l : List Mv) (hl : l.length < 1000000) (hw : ∀ m ∈ l, m.ok) : ∀ (d i : Nat) (L2 : List (List Int × Value)), i + d = l.length → Cnt L2 l i → ∃ L, Cnt L l l.length ∧
    LoopTo Try.prog H (H 27) 0 (loopOf Try.prog 27 3) (mkS 24 [(0, .sl (l.map encM)), (3, .pt 1 0 0), (7, .sl (l.map encM)), (8, goI l.length), (9, goI i)] [.map kd2 L2, .box [.mp 0], .dead]) (.exit 0, mkS 24 [(0, .sl (l.map encM)), (3, .pt 1 0 0)] [.map kd2 L, .box [.mp 0], .dead])
  | 0, i, L2, hd, hL => by
    have hi : i = l.length := by omega
    subst hi
    exact ⟨L2, hL, turnT_ok (viaK (t27_3 l l.length L2 L2 _) (by simp [TB_iff, kd2]))⟩
  | d + 1, i, L2, hd, hL => by
    have hi : i < l.length := by omega
    have hm := to_ok hw hi
    have h0 := hL (U.fr l i)
    have hc := cnt_le l i (U.fr l i)
    have hwr2 : IntKind.i64.wrap ((U.cnt l i (U.fr l i) : Int) + 1) = ((U.cnt l i (U.fr l i) + 1 : Nat) : Int) := by rw [wrap64] <;> omega
    obtain ⟨L, hC, ih⟩ := loop27_3 l hl hw d (i + 1) (updL [(U.fr l i).k, (U.fr l i).n] (.int .i64 ((U.cnt l i (U.fr l i) + 1 : Nat) : Int)) L2) (by omega) (fun x => by
      rw [atKeyV_updL, hL x, cnt_step l hi]
      by_cases e : U.fr l i = x
      · subst e; simp
      · rw [if_neg (fun h => e (by simp only [List.cons.injEq, and_true] at h; exact (Loc.eq_iff _ _).2 h)), if_neg e]; rfl)
    refine ⟨L, hC, turnT_ok (viaK (t27_3 l i L L2 _) ?_)⟩
    have hwr : IntKind.i64.wrap ((i : Int) + 1) = ((i + 1 : Nat) : Int) := by rw [wrap64] <;> omega
    simp only [TB_iff, decide_eq_true_eq, hwr]
    refine ⟨fun _ => ?_, fun h => absurd h (by simp; omega)⟩
    rw [row13 hi, map13 hi]
    simp only [rdI, List.getD_cons_zero, List.getD_cons_succ, int_goI, h0, int_v, hwr2, good2 hm.2.1 hm.2.2, true_and, Int.toNat_natCast, setL_entL]
    exact ⟨⟨by omega, trivial⟩, ⟨by omega, posL_lt⟩, ih⟩
theorem wf27 (l : List Mv) (hl : l.length < 1000000) (hw : ∀ m ∈ l, m.ok) : Wf Try.prog H 27 [.sl (l.map encM)] [] = some (goI (U.freeIdx l), [], []) := by
  obtain ⟨L, hC, h⟩ := loop27_3 l hl hw l.length 0 [] (by omega) (fun x => by simp [atKeyV, valL, U.cnt])
  refine runT_ok (viaK (t27 l L _) ?_)
  have h32 := wf32 l hl hw L hC
  simp only [List.length_map, kd2] at h h32 ⊢
  exact ⟨h, h32, trivial⟩
end Go.Proofs.Ythbkemkjkpaoaab.E
