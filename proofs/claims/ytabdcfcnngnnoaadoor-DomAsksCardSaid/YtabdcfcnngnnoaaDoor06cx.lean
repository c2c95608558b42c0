/- Functions, by what the evaluator asks; the theorems t.. were printed by show.txt, a program of this session. -/
import Derived.Test.YtabdcfcnngnnoaaDoor06f
import Derived.Test.YtabdcfcnngnnoaaDoor06dx
import Derived.Test.YtabdcfcnngnnoaaDoorB1s
import Derived.Test.YtabdcfcnngnnoaaDoorB5
set_option linter.unusedVariables false
set_option linter.unusedSectionVars false
set_option linter.unusedSimpArgs false
set_option maxRecDepth 100000
namespace Go.Proofs.YtabdcfcnngnnoaaDoor.E
open Go
def encBo2 (b : Bool) : List AV := [goB b]
namespace U
noncomputable def domR (bl : List (List AV)) (a b : Int) : Bool := domB (nextAt (bl.map decB)) bl.length a b
noncomputable def wiR (bl : List (List AV)) (wo : Int) : List (List AV) := (withinB (nextAt (bl.map decB)) bl.length 0 wo).map encBo
end U
noncomputable def Fd64 : CallT := fun f args sto => match f, args with
 | 33, [.agg [_, _, _, _, .sl bl], _, .v (.int _ wo)] => .is (.os 0 0 bl.length, [.arr 1 (U.wiR bl wo)], [])
 | 12, [.agg [_, _, _, _, .sl bl], .v (.int _ a), .v (.int _ b)] => .is (goB (U.domR bl a b), [], [])
 | _, _ => .no
set_option maxHeartbeats 4000000
def Ld50 (l : List Int) : Nat → St → LT := fun id st => .is (.exit 0) (mkS 23 [(5, .os 1 0 l.length)] [.dead, .arr 1 (l.map encI)])
def Ld51 (l : List Int) (c : Bool) (x : Int) (i : Nat) (al : Bool) : Nat → St → LT := fun id st => match id with
 | 2 => .by c (.is .ret (mkS 38 [(4, goI x)] [.dead])) (.is (.exit 0) (mkS 38 [] [.dead]))
 | 6 => .is (.exit 2) (mkS 38 [(1, .sl (l.map encI)), (2, .pt 0 0 0), (5, goI i), (6, goB al)] st.2)
 | _ => .no
def Fd33 (l : List Int) (x : Int) (ab : List Int) : CallT := fun f args sto => match f with
 | 15 => .is (.os 0 0 l.length, [.arr 1 (l.map encI)], [])
 | 44 => .is (goI x, [], [])
 | _ => .no
def Ld33 (ou : List Int) (b : Int) (al : List Int) (ot : List Int) : Nat → St → LT := fun id st => match id, st.2 with
 | 3, _ => .is (.exit 0) (mkS 44 [(3, .os 1 0 ou.length)] [.dead, .arr 1 (ou.map encI), .dead])
 | 8, [x, y, _] => .is (.exit 2) (mkS 44 [(1, .pt 0 0 0), (3, st.1.getD 3 .dead), (4, goI b), (6, .os 2 0 ot.length)] [x, y, .arr 1 (ot.map encI)])
 | _, _ => .no
def Ld35 (l : List Int) : Nat → St → LT := fun id st => .is (.exit 0) (mkS 31 [(5, .os 1 0 l.length)] [.dead, .arr 1 (l.map encI)])

theorem td64 (ks : List (List AV)) (bs : List (List AV)) (p : Int) (q : Int) (bl : List XB) (a : Int) (b : Int) (r : AV × List Row × List Nat) : (runT Tryd.prog H Fd64 L0 false 12 [AV.agg [AV.sl ks, AV.sl bs, goI p, goI q, AV.sl (List.map encB bl)], goI a, goI b] []
 fun q => q = r) = (TB (decide (a < 0)) ((goB false, [], []) = r)
 (TB (decide (b < 0)) ((goB false, [], []) = r)
 (TB (decide (a ≥ (↑(List.length (List.map encB bl)) : Int))) ((goB false, [], []) = r)
 (TB (decide (b ≥ (↑(List.length (List.map encB bl)) : Int))) ((goB false, [], []) = r)
 (Wf Tryd.prog H 33 [AV.agg [AV.sl ks, AV.sl bs, goI p, goI q, AV.sl (List.map encB bl)], goI 0, goI (-1)] [] =
 some (AV.os 0 0 (List.length (List.map encB bl)), [Row.arr 1 (U.wiR (List.map encB bl) (-1))], []) ∧
 (0 ≤ a ∧
 (List.take (List.length (List.map encB bl)) (List.drop 0 (U.wiR (List.map encB bl) (-1))))[Int.toNat a]? =
 some
 [goB
 (rdB
 (rowAt
 (List.take (List.length (List.map encB bl)) (List.drop 0 (U.wiR (List.map encB bl) (-1))))
 (Int.toNat a))
 0)]) ∧
 TB
 (rdB
 (rowAt (List.take (List.length (List.map encB bl)) (List.drop 0 (U.wiR (List.map encB bl) (-1))))
 (Int.toNat a))
 0)
 ((0 ≤ b ∧
 (List.take (List.length (List.map encB bl))
 (List.drop 0 (U.wiR (List.map encB bl) (-1))))[Int.toNat b]? =
 some
 [goB
 (rdB
 (rowAt
 (List.take (List.length (List.map encB bl)) (List.drop 0 (U.wiR (List.map encB bl) (-1))))
 (Int.toNat b))
 0)]) ∧
 TB
 (rdB
 (rowAt (List.take (List.length (List.map encB bl)) (List.drop 0 (U.wiR (List.map encB bl) (-1))))
 (Int.toNat b))
 0)
 (TB (a == b) ((goB true, [], []) = r)
 (Wf Tryd.prog H 33
 [AV.agg [AV.sl ks, AV.sl bs, goI p, goI q, AV.sl (List.map encB bl)], goI 0, goI a] [] =
 some
 (AV.os 0 0 (List.length (List.map encB bl)), [Row.arr 1 (U.wiR (List.map encB bl) a)], []) ∧
 (0 ≤ b ∧
 (List.take (List.length (List.map encB bl))
 (List.drop 0 (U.wiR (List.map encB bl) a)))[Int.toNat b]? =
 some
 [goB
 (rdB
 (rowAt
 (List.take (List.length (List.map encB bl))
 (List.drop 0 (U.wiR (List.map encB bl) a)))
 (Int.toNat b))
 0)]) ∧
 (goB
 !rdB
 (rowAt
 (List.take (List.length (List.map encB bl))
 (List.drop 0 (U.wiR (List.map encB bl) a)))
 (Int.toNat b))
 0,
 [], []) =
 r))
 ((goB false, [], []) = r))
 ((goB false, [], []) = r)))))) := by kernel_rfl
theorem td50 (ks : List (List AV)) (bs : List (List AV)) (p : Int) (q : Int) (bl : List XB) (b : Int) (l : List Int) (r : AV × List Row × List Nat) : (runT Tryd.prog H Fd64 (Ld50 l) false 15 [AV.agg [AV.sl ks, AV.sl bs, goI p, goI q, AV.sl (List.map encB bl)], goI b] []
 fun q => q = r) = (LoopTo Tryd.prog H (H 15) 0 (loopOf Tryd.prog 15 3)
 (mkS 23 [(1, goI b), (2, AV.pt 0 0 0), (5, AV.os 1 0 0), (6, goI 0)]
 [Row.box [AV.sl ks, AV.sl bs, goI p, goI q, AV.sl (List.map encB bl)], Row.arr 1 []])
 (Ex.exit 0, mkS 23 [(5, AV.os 1 0 (List.length l))] [Row.dead, Row.arr 1 (List.map encI l)]) ∧
 (AV.os 0 0 (List.length l), [Row.arr 1 (List.map encI l)], []) = r) := by kernel_rfl
theorem td50_3 (ks : List (List AV)) (bs : List (List AV)) (p : Int) (q : Int) (bl : List XB) (b : Int) (l : List Int) (i : Nat) (r : Ex × St) : (turnT Tryd.prog H Fd64 L0 false (H 15) 0 (loopOf Tryd.prog 15 3)
 (mkS 23 [(1, goI b), (2, AV.pt 0 0 0), (5, AV.os 1 0 (List.length l)), (6, goI (↑i : Int))]
 [Row.box [AV.sl ks, AV.sl bs, goI p, goI q, AV.sl (List.map encB bl)], Row.arr 1 (List.map encI l)])
 r) = (TB (decide ((↑i : Int) < (↑(List.length (List.map encB bl)) : Int)))
 (Wf Tryd.prog H 12 [AV.agg [AV.sl ks, AV.sl bs, goI p, goI q, AV.sl (List.map encB bl)], goI (↑i : Int), goI b] [] =
 some (goB (U.domR (List.map encB bl) (↑i : Int) b), [], []) ∧
 TB (U.domR (List.map encB bl) (↑i : Int) b)
 (true = true ∧
 (List.length l = List.length (List.map encI l) ∧ List.length l + 1 ≤ 1000000) ∧
 LoopTo Tryd.prog H (H 15) 0 (loopOf Tryd.prog 15 3)
 (mkS 23
 [(1, goI b), (2, AV.pt 0 0 0), (5, AV.os 1 0 (List.length l + 1)),
 (6, goI (IntKind.wrap IntKind.i64 ((↑i : Int) + 1)))]
 [Row.box [AV.sl ks, AV.sl bs, goI p, goI q, AV.sl (List.map encB bl)],
 Row.arr 1 (List.map encI l ++ [[goI (↑i : Int)]])])
 r)
 (LoopTo Tryd.prog H (H 15) 0 (loopOf Tryd.prog 15 3)
 (mkS 23
 [(1, goI b), (2, AV.pt 0 0 0), (5, AV.os 1 0 (List.length l)),
 (6, goI (IntKind.wrap IntKind.i64 ((↑i : Int) + 1)))]
 [Row.box [AV.sl ks, AV.sl bs, goI p, goI q, AV.sl (List.map encB bl)], Row.arr 1 (List.map encI l)])
 r))
 ((Ex.exit 0, mkS 23 [(5, AV.os 1 0 (List.length l))] [Row.dead, Row.arr 1 (List.map encI l)]) = r)) := by kernel_rfl
theorem td51 (ks : List (List AV)) (bs : List (List AV)) (p : Int) (q : Int) (bl : List XB) (l : List Int) (c : Bool) (x : Int) (r : AV × List Row × List Nat) : (runT Tryd.prog H Fd64 (Ld51 l c x 0 false) false 44
 [AV.agg [AV.sl ks, AV.sl bs, goI p, goI q, AV.sl (List.map encB bl)], AV.sl (List.map encI l)] [] fun q => q = r) = (TB c
 (LoopTo Tryd.prog H (H 44) 0 (loopOf Tryd.prog 44 2)
 (mkS 38 [(1, AV.sl (List.map encI l)), (2, AV.pt 0 0 0), (5, goI 0)]
 [Row.box [AV.sl ks, AV.sl bs, goI p, goI q, AV.sl (List.map encB bl)]])
 (Ex.ret, mkS 38 [(4, goI x)] [Row.dead]) ∧
 (goI x, [], []) = r)
 (LoopTo Tryd.prog H (H 44) 0 (loopOf Tryd.prog 44 2)
 (mkS 38 [(1, AV.sl (List.map encI l)), (2, AV.pt 0 0 0), (5, goI 0)]
 [Row.box [AV.sl ks, AV.sl bs, goI p, goI q, AV.sl (List.map encB bl)]])
 (Ex.exit 0, mkS 38 [] [Row.dead]) ∧
 (goI (-1), [], []) = r)) := by kernel_rfl
theorem td51_2 (ks : List (List AV)) (bs : List (List AV)) (p : Int) (q : Int) (bl : List XB) (l : List Int) (i : Nat) (al : Bool) (r : Ex × St) : (turnT Tryd.prog H Fd64 (Ld51 l false 0 i al) false (H 44) 0 (loopOf Tryd.prog 44 2)
 (mkS 38 [(1, AV.sl (List.map encI l)), (2, AV.pt 0 0 0), (5, goI (↑i : Int))]
 [Row.box [AV.sl ks, AV.sl bs, goI p, goI q, AV.sl (List.map encB bl)]])
 r) = (TB (decide ((↑i : Int) < (↑(List.length (List.map encI l)) : Int)))
 (LoopTo Tryd.prog H (H 44) 0 (loopOf Tryd.prog 44 6)
 (mkS 38 [(1, AV.sl (List.map encI l)), (2, AV.pt 0 0 0), (5, goI (↑i : Int)), (6, goB true), (7, goI 0)]
 [Row.box [AV.sl ks, AV.sl bs, goI p, goI q, AV.sl (List.map encB bl)]])
 (Ex.exit 2,
 mkS 38 [(1, AV.sl (List.map encI l)), (2, AV.pt 0 0 0), (5, goI (↑i : Int)), (6, goB al)]
 [Row.box [AV.sl ks, AV.sl bs, goI p, goI q, AV.sl (List.map encB bl)]]) ∧
 TB al
 ((0 ≤ (↑i : Int) ∧ (List.map encI l)[i]? = some [goI (rdI (rowAt (List.map encI l) i) 0)]) ∧
 (Ex.ret, mkS 38 [(4, goI (rdI (rowAt (List.map encI l) i) 0))] [Row.dead]) = r)
 (LoopTo Tryd.prog H (H 44) 0 (loopOf Tryd.prog 44 2)
 (mkS 38 [(1, AV.sl (List.map encI l)), (2, AV.pt 0 0 0), (5, goI (IntKind.wrap IntKind.i64 ((↑i : Int) + 1)))]
 [Row.box [AV.sl ks, AV.sl bs, goI p, goI q, AV.sl (List.map encB bl)]])
 r))
 ((Ex.exit 0, mkS 38 [] [Row.dead]) = r)) := by kernel_rfl
theorem td51_6 (ks : List (List AV)) (bs : List (List AV)) (p : Int) (q : Int) (bl : List XB) (l : List Int) (i : Nat) (al : Bool) (k : Nat) (r : Ex × St) : (turnT Tryd.prog H Fd64 L0 false (H 44) 0 (loopOf Tryd.prog 44 6)
 (mkS 38 [(1, AV.sl (List.map encI l)), (2, AV.pt 0 0 0), (5, goI (↑i : Int)), (6, goB al), (7, goI (↑k : Int))]
 [Row.box [AV.sl ks, AV.sl bs, goI p, goI q, AV.sl (List.map encB bl)]])
 r) = (TB (decide ((↑k : Int) < (↑(List.length (List.map encI l)) : Int)))
 (TB al
 ((0 ≤ (↑k : Int) ∧ (List.map encI l)[k]? = some [goI (rdI (rowAt (List.map encI l) k) 0)]) ∧
 (0 ≤ (↑i : Int) ∧ (List.map encI l)[i]? = some [goI (rdI (rowAt (List.map encI l) i) 0)]) ∧
 Wf Tryd.prog H 12
 [AV.agg [AV.sl ks, AV.sl bs, goI p, goI q, AV.sl (List.map encB bl)],
 goI (rdI (rowAt (List.map encI l) k) 0), goI (rdI (rowAt (List.map encI l) i) 0)]
 [] =
 some
 (goB (U.domR (List.map encB bl) (rdI (rowAt (List.map encI l) k) 0) (rdI (rowAt (List.map encI l) i) 0)),
 [], []) ∧
 LoopTo Tryd.prog H (H 44) 0 (loopOf Tryd.prog 44 6)
 (mkS 38
 [(1, AV.sl (List.map encI l)), (2, AV.pt 0 0 0), (5, goI (↑i : Int)),
 (6,
 goB
 (U.domR (List.map encB bl) (rdI (rowAt (List.map encI l) k) 0)
 (rdI (rowAt (List.map encI l) i) 0))),
 (7, goI (IntKind.wrap IntKind.i64 ((↑k : Int) + 1)))]
 [Row.box [AV.sl ks, AV.sl bs, goI p, goI q, AV.sl (List.map encB bl)]])
 r)
 (LoopTo Tryd.prog H (H 44) 0 (loopOf Tryd.prog 44 6)
 (mkS 38
 [(1, AV.sl (List.map encI l)), (2, AV.pt 0 0 0), (5, goI (↑i : Int)), (6, goB false),
 (7, goI (IntKind.wrap IntKind.i64 ((↑k : Int) + 1)))]
 [Row.box [AV.sl ks, AV.sl bs, goI p, goI q, AV.sl (List.map encB bl)]])
 r))
 ((Ex.exit 2,
 mkS 38 [(1, AV.sl (List.map encI l)), (2, AV.pt 0 0 0), (5, goI (↑i : Int)), (6, goB al)]
 [Row.box [AV.sl ks, AV.sl bs, goI p, goI q, AV.sl (List.map encB bl)]]) =
 r)) := by kernel_rfl
end Go.Proofs.YtabdcfcnngnnoaaDoor.E
set_option linter.unusedVariables false
set_option linter.unusedSectionVars false
set_option linter.unusedSimpArgs false
set_option maxRecDepth 100000
namespace Go.Proofs.YtabdcfcnngnnoaaDoor.E
open Go
noncomputable def FN9 (o : Bool) : CallT := fun f args sto => match f, args with
 | 9, _ => .is (goB true, [], [])
 | 10, _ => .is (goB o, [], [])
 | 35, [.agg [_, _, _, _, .sl bl]] => .is (.os 0 0 bl.length, [.arr 1 ((U.aboW bl).map encI)], [])
 | 13, _ => .is (goB true, [], [])
 | _, _ => .no

theorem domR_map (bl : List XB) (a b : Int) : U.domR (bl.map encB) a b = U.domB (U.nextAt bl) bl.length a b := by unfold U.domR; rw [decBs_map, List.length_map]
theorem wiR_map (bl : List XB) (wo : Int) : U.wiR (bl.map encB) wo = (U.withinB (U.nextAt bl) bl.length 0 wo).map encBo := by unfold U.wiR; rw [decBs_map, List.length_map]
section
variable (ks bs : List (List AV)) (p q : Int) (bl : List XB) (hc : CodeOk bl) (hl : bl.length ≤ 3000) (h0 : 0 < bl.length) (hT : TgtOk bl)
include hc hl h0 hT
theorem wn64 (a b : Int) : Wf Tryd.prog H 12 [.agg [.sl ks, .sl bs, goI p, goI q, .sl (bl.map encB)], goI a, goI b] [] = some (goB (U.domB (U.nextAt bl) bl.length a b), [], []) := by
  have hlen : (bl.map encB).length = bl.length := List.length_map _
  have e : ∀ wo : Int, List.take bl.length (List.drop 0 (U.wiR (bl.map encB) wo)) = (U.withinB (U.nextAt bl) bl.length 0 wo).map encBo := fun wo => by
    rw [wiR_map, List.drop_zero, List.take_of_length_le (by rw [List.length_map, withinB_len]; exact Nat.le_refl _)]
  have g1 : ∀ (wo : Int) (x : Nat), x < bl.length → rdB (rowAt ((U.withinB (U.nextAt bl) bl.length 0 wo).map encBo) x) 0 = U.wiB (U.nextAt bl) bl.length wo x := fun wo x hx => by
    rw [rowAt_map (by rw [withinB_len]; exact hx)]; rfl
  have g2 : ∀ (wo : Int) (x : Nat), x < bl.length → ((U.withinB (U.nextAt bl) bl.length 0 wo).map encBo)[x]? = some [goB (U.wiB (U.nextAt bl) bl.length wo x)] := fun wo x hx => by
    rw [rows_map (by rw [withinB_len]; exact hx)]; rfl
  have wW := fun wo : Int => wf42 ks bs p q bl hc hl 0 wo (by omega)
  refine runK (td64 ks bs p q bl a b _) ?_
  rw [hlen, e, e]
  unfold U.domB
  cases h1 : decide (a < 0) with
  | true => exact rfl
  | false =>
  cases h2 : decide (b < 0) with
  | true => exact rfl
  | false =>
  cases h3 : decide (a ≥ (bl.length : Int)) with
  | true => exact rfl
  | false =>
  cases h4 : decide (b ≥ (bl.length : Int)) with
  | true => exact rfl
  | false =>
  rw [decide_eq_false_iff_not] at h1 h2 h3 h4
  obtain ⟨a, rfl⟩ := Int.eq_ofNat_of_zero_le (show 0 ≤ a by omega)
  obtain ⟨b, rfl⟩ := Int.eq_ofNat_of_zero_le (show 0 ≤ b by omega)
  have ha : a < bl.length := by omega
  have hb : b < bl.length := by omega
  rw [Int.toNat_natCast, Int.toNat_natCast, g1 _ _ ha, g2 _ _ ha, g1 _ _ hb, g2 _ _ hb, g1 _ _ hb, g2 _ _ hb, wiR_map, wiR_map]
  refine ⟨wW (-1), ⟨by omega, rfl⟩, ?_⟩
  cases U.wiB (U.nextAt bl) bl.length (-1) a with
  | false => exact rfl
  | true =>
    refine ⟨⟨by omega, rfl⟩, ?_⟩
    cases U.wiB (U.nextAt bl) bl.length (-1) b with
    | false => exact rfl
    | true =>
      cases ((a : Int) == (b : Int)) with
      | true => exact rfl
      | false =>
        refine ⟨wW a, ⟨by omega, rfl⟩, ?_⟩
        cases U.wiB (U.nextAt bl) bl.length a b <;> exact rfl
theorem loopn50 (b : Int) : ∀ (d i : Nat) (l : List Int), i + d = bl.length → l.length ≤ i →
    LoopTo Tryd.prog H (H 15) 0 (loopOf Tryd.prog 15 3) (mkS 23 [(1, goI b), (2, .pt 0 0 0), (5, .os 1 0 l.length), (6, goI i)] [.box [.sl ks, .sl bs, goI p, goI q, .sl (bl.map encB)], .arr 1 (l.map encI)])
      (.exit 0, mkS 23 [(5, .os 1 0 (l ++ U.selP (fun y => U.domB (U.nextAt bl) bl.length y b) d i).length)] [.dead, .arr 1 ((l ++ U.selP (fun y => U.domB (U.nextAt bl) bl.length y b) d i).map encI)])
  | 0, i, l, hd, hll => by
    refine turnK (td50_3 ks bs p q bl b l i _) ?_
    rw [List.length_map, decide_eq_false (by omega), show U.selP (fun y => U.domB (U.nextAt bl) bl.length y b) 0 i = [] from rfl, List.append_nil]
    exact rfl
  | d + 1, i, l, hd, hll => by
    have hi : i < bl.length := by omega
    have e : U.selP (fun y => U.domB (U.nextAt bl) bl.length y b) (d + 1) i = (if U.domB (U.nextAt bl) bl.length i b = true then [(i : Int)] else []) ++ U.selP (fun y => U.domB (U.nextAt bl) bl.length y b) d (i + 1) := rfl
    rw [e]
    have w := wn64 ks bs p q bl hc hl h0 hT i b
    refine turnK (td50_3 ks bs p q bl b l i _) ?_
    rw [show (bl.map encB).length = bl.length from List.length_map _, decide_eq_true (show (i : Int) < bl.length by omega), wrapS hi (by omega), domR_map]
    refine ⟨w, ?_⟩
    cases hn : U.domB (U.nextAt bl) bl.length i b with
    | false =>
      rw [if_neg (by simp), List.nil_append]
      exact loopn50 b d (i + 1) l (by omega) (by omega)
    | true =>
      have ih := loopn50 b d (i + 1) (l ++ [(i : Int)]) (by omega) (by simp; omega)
      rw [List.append_assoc] at ih
      simp only [List.length_append, List.length_singleton, List.map_append, List.map_cons, List.map_nil] at ih
      refine ⟨rfl, ⟨(List.length_map _).symm, by omega⟩, ?_⟩
      rw [if_pos rfl]
      simp only [List.length_append, List.length_singleton, List.map_append, List.map_cons, List.map_nil]
      exact ih
theorem wn50 (b : Int) : Wf Tryd.prog H 15 [.agg [.sl ks, .sl bs, goI p, goI q, .sl (bl.map encB)], goI b] [] = some (.os 0 0 (U.allD (U.nextAt bl) bl.length b).length, [.arr 1 ((U.allD (U.nextAt bl) bl.length b).map encI)], []) :=
  runK (td50 ks bs p q bl b (U.allD (U.nextAt bl) bl.length b) _) ⟨loopn50 ks bs p q bl hc hl h0 hT b bl.length 0 [] (by omega) (by simp), rfl⟩
theorem loopn51_6 (l : List Int) (hll : l.length ≤ 3000) (i : Nat) (hi : i < l.length) : ∀ (d k : Nat) (al : Bool), k + d = l.length →
    LoopTo Tryd.prog H (H 44) 0 (loopOf Tryd.prog 44 6) (mkS 38 [(1, .sl (l.map encI)), (2, .pt 0 0 0), (5, goI i), (6, goB al), (7, goI k)] [.box [.sl ks, .sl bs, goI p, goI q, .sl (bl.map encB)]])
      (.exit 2, mkS 38 [(1, .sl (l.map encI)), (2, .pt 0 0 0), (5, goI i), (6, goB (al && (l.drop k).all fun y => U.domB (U.nextAt bl) bl.length y (U.nt l i)))] [.box [.sl ks, .sl bs, goI p, goI q, .sl (bl.map encB)]])
  | 0, k, al, hd => by
    rw [List.drop_of_length_le (by omega), List.all_nil, Bool.and_true]
    refine turnK (td51_6 ks bs p q bl l i al k _) ?_
    rw [List.length_map, decide_eq_false (by omega)]
    exact rfl
  | d + 1, k, al, hd => by
    have hk : k < l.length := by omega
    have ed : l.drop k = U.nt l k :: l.drop (k + 1) := drop_cons' l hk
    have e1 : rdI (rowAt (l.map encI) k) 0 = U.nt l k := by rw [rowI hk]; rfl
    have e2 : rdI (rowAt (l.map encI) i) 0 = U.nt l i := by rw [rowI hi]; rfl
    have w := wn64 ks bs p q bl hc hl h0 hT (U.nt l k) (U.nt l i)
    rw [ed, List.all_cons]
    refine turnK (td51_6 ks bs p q bl l i al k _) ?_
    rw [show (l.map encI).length = l.length from List.length_map _, decide_eq_true (show (k : Int) < l.length by omega), e1, e2, getI hk, getI hi, wrapS hk (by omega), domR_map]
    cases al with
    | false =>
      have ih := loopn51_6 l hll i hi d (k + 1) false (by omega)
      rw [Bool.false_and] at ih ⊢
      exact ih
    | true =>
      have ih := loopn51_6 l hll i hi d (k + 1) (U.domB (U.nextAt bl) bl.length (U.nt l k) (U.nt l i)) (by omega)
      rw [Bool.true_and]
      exact ⟨⟨by omega, rfl⟩, ⟨by omega, rfl⟩, w, ih⟩
theorem loopn51 (l : List Int) (hll : l.length ≤ 3000) : ∀ (d i : Nat), i + d = l.length →
    (U.lowS (U.domB (U.nextAt bl) bl.length) l (l.drop i) = -1 ∧ LoopTo Tryd.prog H (H 44) 0 (loopOf Tryd.prog 44 2) (mkS 38 [(1, .sl (l.map encI)), (2, .pt 0 0 0), (5, goI i)] [.box [.sl ks, .sl bs, goI p, goI q, .sl (bl.map encB)]]) (.exit 0, mkS 38 [] [.dead]))
    ∨ LoopTo Tryd.prog H (H 44) 0 (loopOf Tryd.prog 44 2) (mkS 38 [(1, .sl (l.map encI)), (2, .pt 0 0 0), (5, goI i)] [.box [.sl ks, .sl bs, goI p, goI q, .sl (bl.map encB)]]) (.ret, mkS 38 [(4, goI (U.lowS (U.domB (U.nextAt bl) bl.length) l (l.drop i)))] [.dead])
  | 0, i, hd => by
    left
    rw [List.drop_of_length_le (by omega)]
    refine ⟨rfl, turnK (td51_2 ks bs p q bl l i false _) ?_⟩
    rw [List.length_map, decide_eq_false (by omega)]
    exact rfl
  | d + 1, i, hd => by
    have hi : i < l.length := by omega
    have ed : l.drop i = U.nt l i :: l.drop (i + 1) := drop_cons' l hi
    have e2 : rdI (rowAt (l.map encI) i) 0 = U.nt l i := by rw [rowI hi]; rfl
    have l6 := loopn51_6 ks bs p q bl hc hl h0 hT l hll i hi l.length 0 true (by omega)
    rw [List.drop_zero, Bool.true_and] at l6
    rw [ed]
    unfold U.lowS
    cases ha : (l.all fun y => U.domB (U.nextAt bl) bl.length y (U.nt l i)) with
    | true =>
      rw [if_pos rfl]
      right
      rw [ha] at l6
      refine turnK (td51_2 ks bs p q bl l i true _) ?_
      rw [show (l.map encI).length = l.length from List.length_map _, decide_eq_true (show (i : Int) < l.length by omega), e2, getI hi]
      exact ⟨l6, ⟨by omega, rfl⟩, rfl⟩
    | false =>
      rw [if_neg (by simp)]
      rw [ha] at l6
      rcases loopn51 l hll d (i + 1) (by omega) with ⟨g1, g2⟩ | g
      · left
        refine ⟨g1, turnK (td51_2 ks bs p q bl l i false _) ?_⟩
        rw [show (l.map encI).length = l.length from List.length_map _, decide_eq_true (show (i : Int) < l.length by omega), wrapS hi (by omega)]
        exact ⟨l6, g2⟩
      · right
        refine turnK (td51_2 ks bs p q bl l i false _) ?_
        rw [show (l.map encI).length = l.length from List.length_map _, decide_eq_true (show (i : Int) < l.length by omega), wrapS hi (by omega)]
        exact ⟨l6, g⟩
theorem wn51 (l : List Int) (hll : l.length ≤ 3000) : Wf Tryd.prog H 44 [.agg [.sl ks, .sl bs, goI p, goI q, .sl (bl.map encB)], .sl (l.map encI)] [] = some (goI (U.lowS (U.domB (U.nextAt bl) bl.length) l l), [], []) := by
  have h := loopn51 ks bs p q bl hc hl h0 hT l hll l.length 0 (by omega)
  rw [List.drop_zero] at h
  rcases h with ⟨g1, g2⟩ | g
  · rw [g1]
    exact runK (td51 ks bs p q bl l false 0 _) ⟨g2, rfl⟩
  · exact runK (td51 ks bs p q bl l true _ _) ⟨g, rfl⟩
end
theorem intsN (l : List Int) (hl : l.length < 1000000) : Wf Tryd.prog H 13 [.sl (l.map encI), .sl (l.map encI)] [] = some (goB true, [], []) := by
  have h := wf14 l l hl
  have e : U.same l l = true := by
    unfold U.same
    rw [decide_eq_true rfl, Bool.true_and]
    exact allFrom_iff.2 (fun j _ _ => decide_eq_true rfl)
  rw [e] at h
  exact h
end Go.Proofs.YtabdcfcnngnnoaaDoor.E
set_option linter.unusedVariables false
set_option linter.unusedSectionVars false
set_option linter.unusedSimpArgs false
set_option maxRecDepth 100000
namespace Go.Proofs.YtabdcfcnngnnoaaDoor.E
open Go
namespace U
def tz (x : Int) : Int := ((Lib.ctz 64 x.toNat : Nat) : Int)
end U
def FL83 : CallT := fun f args sto => match f, args with
 | 64, [.v (.int _ x)] => .is (goI (U.tz x), [], [])
 | _, _ => .no
def LL83 (s m : List Int) (n : Int) (i : Nat) : Nat → St → LT := fun id st => match id with
 | 3 => .is (.exit 0) (mkS 29 [(3, .os 0 0 m.length)] [.arr 1 (m.map encI)])
 | 5 => .is (.exit 2) (mkS 29 [(3, .os 0 0 m.length), (6, .sl (s.map encU)), (7, goI n), (8, goI i)] [.arr 1 (m.map encI)])
 | _ => .no

theorem l83 (s : List Int) (m : List Int) (r : AV × List Row × List Nat) : (runT Tryd.prog H (fun f args sto => CT.of (F0 f args sto)) (LL83 s m 0 0) false 40 [AV.sl (List.map encU s)] [] fun q =>
 q = r) = (LoopTo Tryd.prog H (H 40) 0 (loopOf Tryd.prog 40 3)
 (mkS 29
 [(3, AV.os 0 0 0), (6, AV.sl (List.map encU s)), (7, goI (↑(List.length (List.map encU s)) : Int)), (8, goI 0)]
 [Row.arr 1 []])
 (Ex.exit 0, mkS 29 [(3, AV.os 0 0 (List.length m))] [Row.arr 1 (List.map encI m)]) ∧
 (AV.os 0 0 (List.length m), [Row.arr 1 (List.map encI m)], []) = r) := by kernel_rfl
theorem l83_3 (s : List Int) (l : List Int) (m : List Int) (n : Int) (i : Nat) (r : Ex × St) : (turnT Tryd.prog H (fun f args sto => CT.of (F0 f args sto)) (LL83 s m n i) false (H 40) 0 (loopOf Tryd.prog 40 3)
 (mkS 29 [(3, AV.os 0 0 (List.length l)), (6, AV.sl (List.map encU s)), (7, goI n), (8, goI (↑i : Int))]
 [Row.arr 1 (List.map encI l)])
 r) = (TB (decide ((↑i : Int) < n))
 ((0 ≤ (↑i : Int) ∧ (List.map encU s)[i]? = some [AV.v (Value.int IntKind.u64 (rdI (rowAt (List.map encU s) i) 0))]) ∧
 LoopTo Tryd.prog H (H 40) 0 (loopOf Tryd.prog 40 5)
 (mkS 29
 [(3, AV.os 0 0 (List.length l)), (4, goI (↑i : Int)),
 (5, AV.v (Value.int IntKind.u64 (rdI (rowAt (List.map encU s) i) 0))), (6, AV.sl (List.map encU s)),
 (7, goI n), (8, goI (↑i : Int))]
 [Row.arr 1 (List.map encI l)])
 (Ex.exit 2,
 mkS 29 [(3, AV.os 0 0 (List.length m)), (6, AV.sl (List.map encU s)), (7, goI n), (8, goI (↑i : Int))]
 [Row.arr 1 (List.map encI m)]) ∧
 LoopTo Tryd.prog H (H 40) 0 (loopOf Tryd.prog 40 3)
 (mkS 29
 [(3, AV.os 0 0 (List.length m)), (6, AV.sl (List.map encU s)), (7, goI n),
 (8, goI (IntKind.wrap IntKind.i64 ((↑i : Int) + 1)))]
 [Row.arr 1 (List.map encI m)])
 r)
 ((Ex.exit 0, mkS 29 [(3, AV.os 0 0 (List.length l))] [Row.arr 1 (List.map encI l)]) = r)) := by kernel_rfl
theorem l83_5 (s : List Int) (l : List Int) (n : Int) (i : Nat) (j : Int) (x : Int) (r : Ex × St) : (turnT Tryd.prog H FL83 L0 false (H 40) 0 (loopOf Tryd.prog 40 5)
 (mkS 29
 [(3, AV.os 0 0 (List.length l)), (4, goI j), (5, goU x), (6, AV.sl (List.map encU s)), (7, goI n),
 (8, goI (↑i : Int))]
 [Row.arr 1 (List.map encI l)])
 r) = (TB (!x == 0)
 (Wf Tryd.prog H 64 [AV.v (Value.int IntKind.u64 x)] [] = some (goI (U.tz x), [], []) ∧
 true = true ∧
 (List.length l = List.length (List.map encI l) ∧ List.length l + 1 ≤ 1000000) ∧
 LoopTo Tryd.prog H (H 40) 0 (loopOf Tryd.prog 40 5)
 (mkS 29
 [(3, AV.os 0 0 (List.length l + 1)), (4, goI j),
 (5, AV.v (Value.int IntKind.u64 (bitI BinOp.and IntKind.u64 x (IntKind.wrap IntKind.u64 (x - 1))))),
 (6, AV.sl (List.map encU s)), (7, goI n), (8, goI (↑i : Int))]
 [Row.arr 1
 (List.map encI l ++ [[goI (IntKind.wrap IntKind.i64 (IntKind.wrap IntKind.i64 (j * 64) + U.tz x))]])])
 r)
 ((Ex.exit 2,
 mkS 29 [(3, AV.os 0 0 (List.length l)), (6, AV.sl (List.map encU s)), (7, goI n), (8, goI (↑i : Int))]
 [Row.arr 1 (List.map encI l)]) =
 r)) := by kernel_rfl
theorem wl94 (x : Int) (h0 : 0 ≤ x) (h1 : x < 18446744073709551616) : Wf Tryd.prog H 64 [goU x] [] = some (goI (U.tz x), [], []) := Wf_prim (p := tzP) (by rfl) (if_pos ⟨h0, h1⟩)
section
variable (s : List Int) (hw : Bit.Wd s) (hs : s.length ≤ 1000)
theorem loopl83_5 (n : Int) (i : Nat) (hi : i < 1000) : ∀ (bs : List Nat) (x : Nat) (acc : List Int), Bit.bitsOf 64 x = bs → x < 18446744073709551616 → acc.length + bs.length ≤ 100000 →
    LoopTo Tryd.prog H (H 40) 0 (loopOf Tryd.prog 40 5) (mkS 29 [(3, .os 0 0 acc.length), (4, goI i), (5, goU x), (6, .sl (s.map encU)), (7, goI n), (8, goI i)] [.arr 1 (acc.map encI)])
      (.exit 2, mkS 29 [(3, .os 0 0 (acc ++ Bit.toI (bs.map fun b => 64 * i + b)).length), (6, .sl (s.map encU)), (7, goI n), (8, goI i)] [.arr 1 ((acc ++ Bit.toI (bs.map fun b => 64 * i + b)).map encI)])
  | [], x, acc, hb, hx, hl => by
    have h0 := Bit.bits_none (by simpa using hx) hb
    subst h0
    have e0 : acc ++ Bit.toI (([] : List Nat).map fun b => 64 * i + b) = acc := List.append_nil _
    rw [e0]
    exact turnK (l83_5 s acc n i i ((0 : Nat) : Int) _) rfl
  | b :: bs, x, acc, hb, hx, hl => by
    have h0 : x ≠ 0 := by
      intro e; subst e
      have : Bit.bitsOf 64 0 = [] := List.filter_eq_nil_iff.2 fun i _ => by simp
      rw [this] at hb; cases hb
    have hx64 : x < 2 ^ 64 := by simpa using hx
    obtain ⟨_, _, hc⟩ := Bit.low_form h0 hx64
    rw [Bit.bits_first h0 hx64] at hb
    obtain ⟨hb1, hb2⟩ := List.cons.inj hb
    rw [List.length_cons] at hl
    have ih := loopl83_5 n i hi bs (x &&& (x - 1)) (acc ++ [((64 * i + b : Nat) : Int)]) hb2 (Nat.lt_of_le_of_lt Nat.and_le_left hx) (by rw [List.length_append, List.length_singleton]; omega)
    have e1 : (acc ++ [((64 * i + b : Nat) : Int)]).length = acc.length + 1 := List.length_append
    have e2 : (acc ++ [((64 * i + b : Nat) : Int)]).map encI = acc.map encI ++ [[goI ((64 * i + b : Nat) : Int)]] := List.map_append
    have e3 : acc ++ Bit.toI ((b :: bs).map fun b => 64 * i + b) = acc ++ [((64 * i + b : Nat) : Int)] ++ Bit.toI (bs.map fun b => 64 * i + b) := by rw [List.append_assoc]; rfl
    rw [e1, e2] at ih
    rw [e3]
    have h94 := wl94 x (Int.natCast_nonneg _) (Bit.lt_cast hx)
    have etz : U.tz (x : Int) = (b : Int) := by unfold U.tz; rw [Int.toNat_natCast, hb1]
    have ew : IntKind.i64.wrap (IntKind.i64.wrap ((i : Int) * 64) + (b : Int)) = ((64 * i + b : Nat) : Int) := by
      rw [hb1] at hc
      rw [wrap64 (n := (i : Int) * 64) (by omega) (by omega), wrap64 (by omega) (by omega)]
      omega
    have ecl : bitI BinOp.and IntKind.u64 (x : Int) (IntKind.u64.wrap ((x : Int) - 1)) = ((x &&& (x - 1) : Nat) : Int) := Bit.clear_low h0 hx
    refine turnK (l83_5 s acc n i i x _) ?_
    rw [etz] at h94 ⊢
    rw [ew, ecl, show (!((x : Int) == 0)) = true by rw [Bool.not_eq_true', beq_eq_false_iff_ne]; omega]
    exact ⟨h94, rfl, ⟨by rw [List.length_map], by omega⟩, ih⟩
include hw hs
theorem loopl83_3 : ∀ (d i : Nat), i + d = s.length →
    LoopTo Tryd.prog H (H 40) 0 (loopOf Tryd.prog 40 3) (mkS 29 [(3, .os 0 0 (Bit.toI (Bit.numsL s i)).length), (6, .sl (s.map encU)), (7, goI s.length), (8, goI i)] [.arr 1 ((Bit.toI (Bit.numsL s i)).map encI)])
      (.exit 0, mkS 29 [(3, .os 0 0 (Bit.toI (Bit.numsL s s.length)).length)] [.arr 1 ((Bit.toI (Bit.numsL s s.length)).map encI)])
  | 0, i, hd => by
    have : i = s.length := by omega
    subst this
    refine turnK (l83_3 s _ [] s.length s.length _) ?_
    rw [decide_eq_false (by omega)]; exact rfl
  | d + 1, i, hd => by
    have hi : i < s.length := by omega
    have ih := loopl83_3 d (i + 1) (by omega)
    have hx := hw.getD i
    have hn := Bit.numsL_length s i
    have h5 := loopl83_5 s s.length i (by omega) _ (s.getD i 0).toNat (Bit.toI (Bit.numsL s i)) rfl (by omega) (by rw [Bit.toI_len]; have := Bit.bitsOf_len 64 (s.getD i 0).toNat; omega)
    rw [← Bit.toI_append, ← Bit.numsL_succ, Int.toNat_of_nonneg hx.1] at h5
    obtain ⟨r1, r2⟩ := rowU hi
    refine turnK (l83_3 s _ (Bit.toI (Bit.numsL s (i + 1))) s.length i _) ?_
    rw [decide_eq_true (by omega), r1, r2, wrapS hi (by omega)]
    exact ⟨⟨by omega, rfl⟩, h5, ih⟩
theorem wl83 : Wf Tryd.prog H 40 [.sl (s.map encU)] [] = some (.os 0 0 (Bit.toI (Bit.numsL s s.length)).length, [.arr 1 ((Bit.toI (Bit.numsL s s.length)).map encI)], []) := by
  have h := loopl83_3 s hw hs s.length 0 (by omega)
  refine runK (l83 s (Bit.toI (Bit.numsL s s.length)) _) ?_
  rw [List.length_map]
  exact ⟨h, rfl⟩
end
end Go.Proofs.YtabdcfcnngnnoaaDoor.E
set_option linter.unusedVariables false
set_option linter.unusedSectionVars false
set_option linter.unusedSimpArgs false
set_option maxRecDepth 100000
namespace Go.Proofs.YtabdcfcnngnnoaaDoor.E
open Go
namespace U
noncomputable def allW (bl : List (List AV)) (b : Int) : List Int := allD (nextAt (bl.map decB)) bl.length b
end U
def FQ14 (n : Nat) (ab dp s l : List Int) : CallT := fun f args sto => match f with
 | 38 => .is (.pt 0 0 0, tS n ab dp, [])
 | 41 => .is (.sl (s.map encU), sto, [])
 | 40 => .is (.os 0 0 l.length, [.arr 1 (l.map encI)], [])
 | _ => .no
noncomputable def FQ17 (x : Int) : CallT := fun f args sto => match f, args with
 | 12, [.agg [_, _, _, _, .sl bl], .v (.int _ a), .v (.int _ b)] => .is (goB (U.domR bl a b), [], [])
 | 44, _ => .is (goI x, [], [])
 | _, _ => .no
def LQ17 (l : List Int) : Nat → St → LT := fun id st => match st.2 with
 | [x, _] => .is (.exit 0) (mkS 33 [(3, .pt 0 0 0), (7, .os 1 0 l.length)] [x, .arr 1 (l.map encI)])
 | _ => .no
noncomputable def FQ3 (o : Bool) : CallT := fun f args sto => match f, args with
 | 9, _ => .is (goB true, [], [])
 | 10, _ => .is (goB o, [], [])
 | 11, [.agg [_, _, _, _, .sl bl], .v (.int _ a), .v (.int _ b)] => .is (goB (U.domW bl a b), [], [])
 | 12, [.agg [_, _, _, _, .sl bl], .v (.int _ a), .v (.int _ b)] => .is (goB (U.domW bl a b), [], [])
 | 14, [.agg [_, _, _, _, .sl bl], .v (.int _ b)] => .is (.sl ((U.allW bl b).map encI), [], [])
 | 15, [.agg [_, _, _, _, .sl bl], .v (.int _ b)] => .is (.os 0 0 (U.allW bl b).length, [.arr 1 ((U.allW bl b).map encI)], [])
 | 13, _ => .is (goB true, [], [])
 | 16, [.agg [_, _, _, _, .sl bl], .v (.int _ a), .v (.int _ b)] => .is (goI (U.meetW bl a b), [], [])
 | 17, [.agg [_, _, _, _, .sl bl], .v (.int _ a), .v (.int _ b)] => .is (goI (U.meetW bl a b), [], [])
 | _, _ => .no

theorem tq14 (ks : List (List AV)) (bs : List (List AV)) (p : Int) (q : Int) (bl : List XB) (b : Int) (n : Nat) (ab : List Int) (dp : List Int) (s : List Int) (l : List Int) (r : AV × List Row × List Nat) : (runT Tryd.prog H (FQ14 n ab dp s l) L0 false 14
 [AV.agg [AV.sl ks, AV.sl bs, goI p, goI q, AV.sl (List.map encB bl)], goI b] [] fun q => q = r) = (Wf Tryd.prog H 38 [AV.agg [AV.sl ks, AV.sl bs, goI p, goI q, AV.sl (List.map encB bl)]] [] =
 some
 (AV.pt 0 0 0, [Row.box [AV.os 1 0 n, AV.os 2 0 n], Row.arr 1 (List.map encI ab), Row.arr 1 (List.map encI dp)],
 []) ∧
 Wf Tryd.prog H 41 [AV.pt 0 0 0, goI b]
 [Row.box [AV.os 1 0 n, AV.os 2 0 n], Row.arr 1 (List.map encI ab), Row.arr 1 (List.map encI dp)] =
 some
 (AV.sl (List.map encU s),
 [Row.box [AV.os 1 0 n, AV.os 2 0 n], Row.arr 1 (List.map encI ab), Row.arr 1 (List.map encI dp)], []) ∧
 Wf Tryd.prog H 40 [AV.sl (List.map encU s)] [] =
 some (AV.os 0 0 (List.length l), [Row.arr 1 (List.map encI l)], []) ∧
 (AV.sl (List.take (List.length l) (List.drop 0 (List.map encI l))), [], []) = r) := by kernel_rfl
theorem tq17 (ks : List (List AV)) (bs : List (List AV)) (p : Int) (q : Int) (bl : List XB) (a : Int) (b : Int) (l : List Int) (x : Int) (r : AV × List Row × List Nat) : (runT Tryd.prog H (FQ17 x) (LQ17 l) false 17
 [AV.agg [AV.sl ks, AV.sl bs, goI p, goI q, AV.sl (List.map encB bl)], goI a, goI b] [] fun q => q = r) = (LoopTo Tryd.prog H (H 17) 0 (loopOf Tryd.prog 17 3)
 (mkS 33 [(1, goI a), (2, goI b), (3, AV.pt 0 0 0), (7, AV.os 1 0 0), (8, goI 0)]
 [Row.box [AV.sl ks, AV.sl bs, goI p, goI q, AV.sl (List.map encB bl)], Row.arr 1 []])
 (Ex.exit 0,
 mkS 33 [(3, AV.pt 0 0 0), (7, AV.os 1 0 (List.length l))]
 [Row.box [AV.sl ks, AV.sl bs, goI p, goI q, AV.sl (List.map encB bl)], Row.arr 1 (List.map encI l)]) ∧
 Wf Tryd.prog H 44
 [AV.agg [AV.sl ks, AV.sl bs, goI p, goI q, AV.sl (List.map encB bl)],
 AV.sl (List.take (List.length l) (List.drop 0 (List.map encI l)))]
 [] =
 some (goI x, [], []) ∧
 (goI x, [], []) = r) := by kernel_rfl
theorem tq17_3 (ks : List (List AV)) (bs : List (List AV)) (p : Int) (q : Int) (bl : List XB) (a : Int) (b : Int) (l : List Int) (i : Nat) (r : Ex × St) : (turnT Tryd.prog H (FQ17 0) L0 false (H 17) 0 (loopOf Tryd.prog 17 3)
 (mkS 33 [(1, goI a), (2, goI b), (3, AV.pt 0 0 0), (7, AV.os 1 0 (List.length l)), (8, goI (↑i : Int))]
 [Row.box [AV.sl ks, AV.sl bs, goI p, goI q, AV.sl (List.map encB bl)], Row.arr 1 (List.map encI l)])
 r) = (TB (decide ((↑i : Int) < (↑(List.length (List.map encB bl)) : Int)))
 (Wf Tryd.prog H 12 [AV.agg [AV.sl ks, AV.sl bs, goI p, goI q, AV.sl (List.map encB bl)], goI (↑i : Int), goI a] [] =
 some (goB (U.domR (List.map encB bl) (↑i : Int) a), [], []) ∧
 TB (U.domR (List.map encB bl) (↑i : Int) a)
 (Wf Tryd.prog H 12 [AV.agg [AV.sl ks, AV.sl bs, goI p, goI q, AV.sl (List.map encB bl)], goI (↑i : Int), goI b]
 [] =
 some (goB (U.domR (List.map encB bl) (↑i : Int) b), [], []) ∧
 TB (U.domR (List.map encB bl) (↑i : Int) b)
 (true = true ∧
 (List.length l = List.length (List.map encI l) ∧ List.length l + 1 ≤ 1000000) ∧
 LoopTo Tryd.prog H (H 17) 0 (loopOf Tryd.prog 17 3)
 (mkS 33
 [(1, goI a), (2, goI b), (3, AV.pt 0 0 0), (7, AV.os 1 0 (List.length l + 1)),
 (8, goI (IntKind.wrap IntKind.i64 ((↑i : Int) + 1)))]
 [Row.box [AV.sl ks, AV.sl bs, goI p, goI q, AV.sl (List.map encB bl)],
 Row.arr 1 (List.map encI l ++ [[goI (↑i : Int)]])])
 r)
 (LoopTo Tryd.prog H (H 17) 0 (loopOf Tryd.prog 17 3)
 (mkS 33
 [(1, goI a), (2, goI b), (3, AV.pt 0 0 0), (7, AV.os 1 0 (List.length l)),
 (8, goI (IntKind.wrap IntKind.i64 ((↑i : Int) + 1)))]
 [Row.box [AV.sl ks, AV.sl bs, goI p, goI q, AV.sl (List.map encB bl)], Row.arr 1 (List.map encI l)])
 r))
 (LoopTo Tryd.prog H (H 17) 0 (loopOf Tryd.prog 17 3)
 (mkS 33
 [(1, goI a), (2, goI b), (3, AV.pt 0 0 0), (7, AV.os 1 0 (List.length l)),
 (8, goI (IntKind.wrap IntKind.i64 ((↑i : Int) + 1)))]
 [Row.box [AV.sl ks, AV.sl bs, goI p, goI q, AV.sl (List.map encB bl)], Row.arr 1 (List.map encI l)])
 r))
 ((Ex.exit 0,
 mkS 33 [(3, AV.pt 0 0 0), (7, AV.os 1 0 (List.length l))]
 [Row.box [AV.sl ks, AV.sl bs, goI p, goI q, AV.sl (List.map encB bl)], Row.arr 1 (List.map encI l)]) =
 r)) := by kernel_rfl
theorem tq3 (a : List XF) (x : Int) (y : Int) (o : Bool) (r : AV × List Row × List Nat) : (runT Tryd.prog H (FQ3 o) (fun id st => LT.is (Ex.exit 0) (mkS 55 [] [Row.dead, Row.dead])) false 3
 [AV.agg [AV.sl (List.map encF a)], goI x, goI y] [] fun q => q = r) = (Wf Tryd.prog H 9 [] [] = some (goB true, [], []) ∧
 Wf Tryd.prog H 10 [AV.agg [AV.sl (List.map encF a)]] [] = some (goB o, [], []) ∧
 TB o ((goB true, [], []) = r)
 (LoopTo Tryd.prog H (H 3) 0 (loopOf Tryd.prog 3 6)
 (mkS 55 [(1, goI x), (2, goI y), (3, AV.pt 0 0 0), (7, goI 0)] [Row.box [AV.sl (List.map encF a)], Row.dead])
 (Ex.exit 0, mkS 55 [] [Row.dead, Row.dead]) ∧
 (goB true, [], []) = r)) := by kernel_rfl
theorem tq3_6 (a : List XF) (x : Int) (y : Int) (i : Nat) (r : Ex × St) : (turnT Tryd.prog H (FQ3 false) L0 false (H 3) 0 (loopOf Tryd.prog 3 6)
 (mkS 55 [(1, goI x), (2, goI y), (3, AV.pt 0 0 0), (7, goI (↑i : Int))] [Row.box [AV.sl (List.map encF a)], Row.dead])
 r) = (TB (decide ((↑i : Int) < (↑(List.length (List.map encF a)) : Int)))
 ((0 ≤ (↑i : Int) ∧
 (List.map encF a)[i]? =
 some
 [AV.sl (rdL (rowAt (List.map encF a) i) 0), AV.sl (rdL (rowAt (List.map encF a) i) 1),
 goI (rdI (rowAt (List.map encF a) i) 2), goI (rdI (rowAt (List.map encF a) i) 3),
 AV.sl (rdL (rowAt (List.map encF a) i) 4)]) ∧
 Wf Tryd.prog H 11
 [AV.agg
 [AV.sl (rdL (rowAt (List.map encF a) i) 0), AV.sl (rdL (rowAt (List.map encF a) i) 1),
 goI (rdI (rowAt (List.map encF a) i) 2), goI (rdI (rowAt (List.map encF a) i) 3),
 AV.sl (rdL (rowAt (List.map encF a) i) 4)],
 goI x, goI y]
 [] =
 some (goB (U.domW (rdL (rowAt (List.map encF a) i) 4) x y), [], []) ∧
 Wf Tryd.prog H 12
 [AV.agg
 [AV.sl (rdL (rowAt (List.map encF a) i) 0), AV.sl (rdL (rowAt (List.map encF a) i) 1),
 goI (rdI (rowAt (List.map encF a) i) 2), goI (rdI (rowAt (List.map encF a) i) 3),
 AV.sl (rdL (rowAt (List.map encF a) i) 4)],
 goI x, goI y]
 [] =
 some (goB (U.domW (rdL (rowAt (List.map encF a) i) 4) x y), [], []) ∧
 TB (!U.domW (rdL (rowAt (List.map encF a) i) 4) x y == U.domW (rdL (rowAt (List.map encF a) i) 4) x y)
 ((Ex.ret, mkS 55 [(6, goB false)] [Row.dead, Row.dead]) = r)
 (Wf Tryd.prog H 14
 [AV.agg
 [AV.sl (rdL (rowAt (List.map encF a) i) 0), AV.sl (rdL (rowAt (List.map encF a) i) 1),
 goI (rdI (rowAt (List.map encF a) i) 2), goI (rdI (rowAt (List.map encF a) i) 3),
 AV.sl (rdL (rowAt (List.map encF a) i) 4)],
 goI y]
 [] =
 some (AV.sl (List.map encI (U.allW (rdL (rowAt (List.map encF a) i) 4) y)), [], []) ∧
 Wf Tryd.prog H 15
 [AV.agg
 [AV.sl (rdL (rowAt (List.map encF a) i) 0), AV.sl (rdL (rowAt (List.map encF a) i) 1),
 goI (rdI (rowAt (List.map encF a) i) 2), goI (rdI (rowAt (List.map encF a) i) 3),
 AV.sl (rdL (rowAt (List.map encF a) i) 4)],
 goI y]
 [] =
 some
 (AV.os 0 0 (List.length (U.allW (rdL (rowAt (List.map encF a) i) 4) y)),
 [Row.arr 1 (List.map encI (U.allW (rdL (rowAt (List.map encF a) i) 4) y))], []) ∧
 Wf Tryd.prog H 13
 [AV.sl (List.map encI (U.allW (rdL (rowAt (List.map encF a) i) 4) y)),
 AV.sl
 (List.take (List.length (U.allW (rdL (rowAt (List.map encF a) i) 4) y))
 (List.drop 0 (List.map encI (U.allW (rdL (rowAt (List.map encF a) i) 4) y))))]
 [] =
 some (goB true, [], []) ∧
 Wf Tryd.prog H 16
 [AV.agg
 [AV.sl (rdL (rowAt (List.map encF a) i) 0), AV.sl (rdL (rowAt (List.map encF a) i) 1),
 goI (rdI (rowAt (List.map encF a) i) 2), goI (rdI (rowAt (List.map encF a) i) 3),
 AV.sl (rdL (rowAt (List.map encF a) i) 4)],
 goI x, goI y]
 [] =
 some (goI (U.meetW (rdL (rowAt (List.map encF a) i) 4) x y), [], []) ∧
 Wf Tryd.prog H 17
 [AV.agg
 [AV.sl (rdL (rowAt (List.map encF a) i) 0), AV.sl (rdL (rowAt (List.map encF a) i) 1),
 goI (rdI (rowAt (List.map encF a) i) 2), goI (rdI (rowAt (List.map encF a) i) 3),
 AV.sl (rdL (rowAt (List.map encF a) i) 4)],
 goI x, goI y]
 [] =
 some (goI (U.meetW (rdL (rowAt (List.map encF a) i) 4) x y), [], []) ∧
 TB
 (!U.meetW (rdL (rowAt (List.map encF a) i) 4) x y ==
 U.meetW (rdL (rowAt (List.map encF a) i) 4) x y)
 ((Ex.ret, mkS 55 [(6, goB false)] [Row.dead, Row.dead]) = r)
 (LoopTo Tryd.prog H (H 3) 0 (loopOf Tryd.prog 3 6)
 (mkS 55
 [(1, goI x), (2, goI y), (3, AV.pt 0 0 0),
 (7, goI (IntKind.wrap IntKind.i64 ((↑i : Int) + 1)))]
 [Row.box [AV.sl (List.map encF a)], Row.dead])
 r)))
 ((Ex.exit 0, mkS 55 [] [Row.dead, Row.dead]) = r)) := by kernel_rfl
theorem allW_map (bl : List XB) (b : Int) : U.allW (bl.map encB) b = U.allD (U.nextAt bl) bl.length b := by unfold U.allW; rw [decBs_map, List.length_map]
section
variable (ks bs : List (List AV)) (p q : Int) (bl : List XB) (hc : CodeOk bl) (hl : bl.length ≤ 3000) (h0 : 0 < bl.length) (hT : TgtOk bl)
include hc hl h0 hT
theorem wq14 (b : Int) : Wf Tryd.prog H 14 [.agg [.sl ks, .sl bs, goI p, goI q, .sl (bl.map encB)], goI b] [] = some (.sl ((U.allD (U.nextAt bl) bl.length b).map encI), [], []) := by
  obtain ⟨od, pl, ab, dp, w, B, _, X, Q⟩ := wd48 ks bs p q bl hc hl h0 hT
  obtain ⟨s, s1, s2, s3, s4⟩ := wd53 hl B X Q b
  have wL := wl83 s s2 s3
  have e : Bit.toI (Bit.numsL s s.length) = U.allD (U.nextAt bl) bl.length b := by
    rw [Bit.nums_sel]
    unfold U.allD
    refine selP_eq _ _ fun y => ?_
    rw [s4 y, thR_iff hl B X Q b, domB_iff B.hn, Int.toNat_natCast]
    constructor
    · rintro ⟨_, ⟨h1, h2, h3⟩, h4⟩
      have hd := (up_iff B X (x := b.toNat) (by omega) h3).1 h4
      have hy := (up_df B X.tr h4 (X.all b.toNat (by omega) h3).1).1
      exact ⟨hy, by omega, h1, by omega, h2, hd⟩
    · rintro ⟨h1, _, h2, _, h3, h4⟩
      have hr := (B.rch (x := b.toNat) (by omega)).2 h4.1
      have hu := (up_iff B X (x := b.toNat) (by omega) hr).2 h4
      have ht := (s4 y).2 ⟨(thR_iff hl B X Q b).2 ⟨h2, h3, hr⟩, hu⟩
      have hm := Bit.mem_nums.2 ht
      unfold Bit.numsL at hm
      rw [List.mem_filter, List.mem_range] at hm
      exact ⟨hm.1, ⟨h2, h3, hr⟩, hu⟩
  rw [e] at wL
  refine runK (tq14 ks bs p q bl b bl.length ab dp s (U.allD (U.nextAt bl) bl.length b) _) ?_
  rw [take_map]
  exact ⟨w, s1, wL, rfl⟩
theorem loopq17 (a b : Int) : ∀ (d i : Nat) (l : List Int), i + d = bl.length → l.length ≤ i →
    LoopTo Tryd.prog H (H 17) 0 (loopOf Tryd.prog 17 3) (mkS 33 [(1, goI a), (2, goI b), (3, .pt 0 0 0), (7, .os 1 0 l.length), (8, goI i)] [.box [.sl ks, .sl bs, goI p, goI q, .sl (bl.map encB)], .arr 1 (l.map encI)])
      (.exit 0, mkS 33 [(3, .pt 0 0 0), (7, .os 1 0 (l ++ U.selP (fun c => U.domB (U.nextAt bl) bl.length c a && U.domB (U.nextAt bl) bl.length c b) d i).length)] [.box [.sl ks, .sl bs, goI p, goI q, .sl (bl.map encB)], .arr 1 ((l ++ U.selP (fun c => U.domB (U.nextAt bl) bl.length c a && U.domB (U.nextAt bl) bl.length c b) d i).map encI)])
  | 0, i, l, hd, hll => by
    refine turnK (tq17_3 ks bs p q bl a b l i _) ?_
    rw [List.length_map, decide_eq_false (by omega), show U.selP (fun c => U.domB (U.nextAt bl) bl.length c a && U.domB (U.nextAt bl) bl.length c b) 0 i = [] from rfl, List.append_nil]
    exact rfl
  | d + 1, i, l, hd, hll => by
    have hi : i < bl.length := by omega
    have e : U.selP (fun c => U.domB (U.nextAt bl) bl.length c a && U.domB (U.nextAt bl) bl.length c b) (d + 1) i = (if (U.domB (U.nextAt bl) bl.length i a && U.domB (U.nextAt bl) bl.length i b) = true then [(i : Int)] else []) ++ U.selP (fun c => U.domB (U.nextAt bl) bl.length c a && U.domB (U.nextAt bl) bl.length c b) d (i + 1) := rfl
    rw [e]
    have w1 := wn64 ks bs p q bl hc hl h0 hT i a
    have w2 := wn64 ks bs p q bl hc hl h0 hT i b
    have ih0 := loopq17 a b d (i + 1) l (by omega) (by omega)
    refine turnK (tq17_3 ks bs p q bl a b l i _) ?_
    rw [show (bl.map encB).length = bl.length from List.length_map _, decide_eq_true (show (i : Int) < bl.length by omega), wrapS hi (by omega), domR_map, domR_map]
    refine ⟨w1, ?_⟩
    cases h1 : U.domB (U.nextAt bl) bl.length i a with
    | false => rw [Bool.false_and, if_neg (by simp), List.nil_append]; exact ih0
    | true =>
      rw [Bool.true_and]
      refine ⟨w2, ?_⟩
      cases h2 : U.domB (U.nextAt bl) bl.length i b with
      | false => rw [if_neg (by simp), List.nil_append]; exact ih0
      | true =>
        have ih := loopq17 a b d (i + 1) (l ++ [(i : Int)]) (by omega) (by simp; omega)
        rw [List.append_assoc] at ih
        simp only [List.length_append, List.length_singleton, List.map_append, List.map_cons, List.map_nil] at ih
        refine ⟨rfl, ⟨(List.length_map _).symm, by omega⟩, ?_⟩
        rw [if_pos rfl]
        simp only [List.length_append, List.length_singleton, List.map_append, List.map_cons, List.map_nil]
        exact ih
theorem wq17 (a b : Int) : Wf Tryd.prog H 17 [.agg [.sl ks, .sl bs, goI p, goI q, .sl (bl.map encB)], goI a, goI b] [] = some (goI (U.meetD (U.nextAt bl) bl.length a b), [], []) := by
  have lp := loopq17 ks bs p q bl hc hl h0 hT a b bl.length 0 [] (by omega) (by simp)
  have hb : (U.bothD (U.nextAt bl) bl.length a b).length ≤ bl.length := selP_len _ _ _
  have w := wn51 ks bs p q bl hc hl h0 hT (U.bothD (U.nextAt bl) bl.length a b) (by omega)
  refine runK (tq17 ks bs p q bl a b (U.bothD (U.nextAt bl) bl.length a b) (U.meetD (U.nextAt bl) bl.length a b) _) ?_
  rw [take_map]
  exact ⟨lp, w, rfl⟩
end
theorem loopq3 (a : List XF) (x y : Int) (K : AskedN a) : ∀ (d i : Nat), i + d = a.length →
    LoopTo Tryd.prog H (H 3) 0 (loopOf Tryd.prog 3 6) (mkS 55 [(1, goI x), (2, goI y), (3, .pt 0 0 0), (7, goI i)] [.box [.sl (a.map encF)], .dead]) (.exit 0, mkS 55 [] [.dead, .dead])
  | 0, i, hd => by
    refine turnK (tq3_6 a x y i _) ?_
    rw [List.length_map, decide_eq_false (by omega)]
    exact rfl
  | d + 1, i, hd => by
    have hi : i < a.length := by omega
    have ih := loopq3 a x y K d (i + 1) (by omega)
    have hlen := K.len
    have hf := K.small _ (fun_mem hi)
    have hc := codeOk_of hf
    have hl : (U.fun_ a i).blocks.length ≤ 3000 := hf.2.2.1
    have h0 : 0 < (U.fun_ a i).blocks.length := (funcOk_of (okFunc_at K.ok (fun_mem hi))).blocks.1
    have hT := tgtOk_of K.ok hi
    have w1 := wd31 ((U.fun_ a i).kinds.map encI) ((U.fun_ a i).base.map encI) (U.fun_ a i).params (U.fun_ a i).result (U.fun_ a i).blocks hc hl h0 hT x y
    have w2 := wn64 ((U.fun_ a i).kinds.map encI) ((U.fun_ a i).base.map encI) (U.fun_ a i).params (U.fun_ a i).result (U.fun_ a i).blocks hc hl h0 hT x y
    have w3 := wq14 ((U.fun_ a i).kinds.map encI) ((U.fun_ a i).base.map encI) (U.fun_ a i).params (U.fun_ a i).result (U.fun_ a i).blocks hc hl h0 hT y
    have w4 := wn50 ((U.fun_ a i).kinds.map encI) ((U.fun_ a i).base.map encI) (U.fun_ a i).params (U.fun_ a i).result (U.fun_ a i).blocks hc hl h0 hT y
    have w5 := wd36 ((U.fun_ a i).kinds.map encI) ((U.fun_ a i).base.map encI) (U.fun_ a i).params (U.fun_ a i).result (U.fun_ a i).blocks hc hl h0 hT x y
    have w6 := wq17 ((U.fun_ a i).kinds.map encI) ((U.fun_ a i).base.map encI) (U.fun_ a i).params (U.fun_ a i).result (U.fun_ a i).blocks hc hl h0 hT x y
    have hal : (U.allD (U.nextAt (U.fun_ a i).blocks) (U.fun_ a i).blocks.length y).length ≤ (U.fun_ a i).blocks.length := selP_len _ _ _
    have s1 := intsN (U.allD (U.nextAt (U.fun_ a i).blocks) (U.fun_ a i).blocks.length y) (by omega)
    refine turnK (tq3_6 a x y i _) ?_
    rw [show (a.map encF).length = a.length from List.length_map _, decide_eq_true (show (i : Int) < a.length by omega), wrapS hi (by omega), rowF hi, getF hi]
    simp only [encF, rdI, rdL, slOf, List.getD_cons_zero, List.getD_cons_succ, int_goI, domW_map, meetW_map, allW_map, take_map, beq_self_eq_true, Bool.not_true]
    exact ⟨⟨by omega, by trivial⟩, w1, w2, w3, w4, s1, w5, w6, ih⟩
theorem wq3 (p : XP) (x y : Int) (hp : HandP p) : Wf Tryd.prog H 3 [.agg (encP p), goI x, goI y] [] = some (goB true, [], []) := by
  refine runK (tq3 p.funcs x y (U.out06 p) _) ⟨wn29, wn30 p hp, ?_⟩
  cases ho : U.out06 p with
  | true => exact rfl
  | false => exact ⟨loopq3 p.funcs x y (askedN_of ho) p.funcs.length 0 (by omega), rfl⟩
end Go.Proofs.YtabdcfcnngnnoaaDoor.E
