/- Functions, by what the evaluator asks; the theorems t.. were printed by show.txt, a program of this session. -/
import Derived.Test.YtdnekkkpngnmkaaDoor11e
import Derived.Test.YtdnekkkpngnmkaaDoor11d
set_option linter.unusedVariables false
set_option linter.unusedSimpArgs false
set_option maxRecDepth 100000
namespace Go.Proofs.YtdnekkkpngnmkaaDoor.E
open Go
def F4 (o : Bool) (w1 w2 w3 w4 : List Int) (h : Bool) : CallT := fun f args sto => match f, args with
 | 9, _ => .is (goB true, [], [])
 | 10, _ => .is (goB o, [], [])
 | 18, _ => .is (.sl (w1.map encU), [], [])
 | 15, _ => .is (.sl (w1.map encU), [], [])
 | 20, _ => .is (.sl (w2.map encU), [], [])
 | 11, _ => .is (.sl (w2.map encU), [], [])
 | 22, _ => .is (.sl (w3.map encU), [], [])
 | 21, _ => .is (.sl (w3.map encU), [], [])
 | 24, _ => .is (.sl (w4.map encU), [], [])
 | 23, _ => .is (.sl (w4.map encU), [], [])
 | 19, _ => .is (goB true, [], [])
 | 25, _ => .is (goB h, [], [])
 | 26, _ => .is (goB h, [], [])
 | _, _ => .no
def L4 (b i : Int) (n : Nat) : Nat → St → LT := fun id st => match id with
 | 6 => .is (.exit 0) (mkS 86 [] [.dead, .dead])
 | 13 => .is (.exit 2) (mkS 86 [(1, goI b), (2, goI i), (3, .pt 0 0 0), (7, goI n)] st.sto)
 | _ => .no
set_option maxHeartbeats 4000000

theorem tp4 (a : List XF) (b : Int) (i : Int) (o : Bool) (r : AV × List Row × List Nat) : (runT Tryd.prog H (F4 o [] [] [] [] false) (L4 b i 0) false 4 [AV.agg [AV.sl (List.map encF a)], goI b, goI i] []
 fun q => q = r) = (Wf Tryd.prog H 9 [] [] = some (goB true, [], []) ∧
 Wf Tryd.prog H 10 [AV.agg [AV.sl (List.map encF a)]] [] = some (goB o, [], []) ∧
 TB o ((goB true, [], []) = r)
 (LoopTo Tryd.prog H (H 4) 0 (loopOf Tryd.prog 4 6)
 (mkS 86 [(1, goI b), (2, goI i), (3, AV.pt 0 0 0), (7, goI 0)] [Row.box [AV.sl (List.map encF a)], Row.dead])
 (Ex.exit 0, mkS 86 [] [Row.dead, Row.dead]) ∧
 (goB true, [], []) = r)) := by kernel_rfl
theorem tp4_6 (a : List XF) (b : Int) (i : Int) (n : Nat) (w1 : List Int) (w2 : List Int) (w3 : List Int) (w4 : List Int) (r : Ex × St) : (turnT Tryd.prog H (F4 false w1 w2 w3 w4 false) (L4 b i n) false (H 4) 0 (loopOf Tryd.prog 4 6)
 (mkS 86 [(1, goI b), (2, goI i), (3, AV.pt 0 0 0), (7, goI (↑n : Int))] [Row.box [AV.sl (List.map encF a)], Row.dead])
 r) = (TB (decide ((↑n : Int) < (↑(List.length (List.map encF a)) : Int)))
 ((0 ≤ (↑n : Int) ∧
 (List.map encF a)[n]? =
 some
 [AV.sl (rdL (rowAt (List.map encF a) n) 0), AV.sl (rdL (rowAt (List.map encF a) n) 1),
 goI (rdI (rowAt (List.map encF a) n) 2), goI (rdI (rowAt (List.map encF a) n) 3),
 AV.sl (rdL (rowAt (List.map encF a) n) 4)]) ∧
 Wf Tryd.prog H 18
 [AV.agg
 [AV.sl (rdL (rowAt (List.map encF a) n) 0), AV.sl (rdL (rowAt (List.map encF a) n) 1),
 goI (rdI (rowAt (List.map encF a) n) 2), goI (rdI (rowAt (List.map encF a) n) 3),
 AV.sl (rdL (rowAt (List.map encF a) n) 4)],
 goI b, goI i]
 [] =
 some (AV.sl (List.map encU w1), [], []) ∧
 Wf Tryd.prog H 15
 [AV.agg
 [AV.sl (rdL (rowAt (List.map encF a) n) 0), AV.sl (rdL (rowAt (List.map encF a) n) 1),
 goI (rdI (rowAt (List.map encF a) n) 2), goI (rdI (rowAt (List.map encF a) n) 3),
 AV.sl (rdL (rowAt (List.map encF a) n) 4)],
 goI b, goI i]
 [] =
 some (AV.sl (List.map encU w1), [], []) ∧
 Wf Tryd.prog H 19 [AV.sl (List.map encU w1), AV.sl (List.map encU w1)] [] = some (goB true, [], []) ∧
 Wf Tryd.prog H 11
 [AV.agg
 [AV.sl (rdL (rowAt (List.map encF a) n) 0), AV.sl (rdL (rowAt (List.map encF a) n) 1),
 goI (rdI (rowAt (List.map encF a) n) 2), goI (rdI (rowAt (List.map encF a) n) 3),
 AV.sl (rdL (rowAt (List.map encF a) n) 4)],
 goI b, goI i]
 [] =
 some (AV.sl (List.map encU w2), [], []) ∧
 Wf Tryd.prog H 20
 [AV.agg
 [AV.sl (rdL (rowAt (List.map encF a) n) 0), AV.sl (rdL (rowAt (List.map encF a) n) 1),
 goI (rdI (rowAt (List.map encF a) n) 2), goI (rdI (rowAt (List.map encF a) n) 3),
 AV.sl (rdL (rowAt (List.map encF a) n) 4)],
 goI b, goI i]
 [] =
 some (AV.sl (List.map encU w2), [], []) ∧
 Wf Tryd.prog H 19 [AV.sl (List.map encU w2), AV.sl (List.map encU w2)] [] = some (goB true, [], []) ∧
 Wf Tryd.prog H 21
 [AV.agg
 [AV.sl (rdL (rowAt (List.map encF a) n) 0), AV.sl (rdL (rowAt (List.map encF a) n) 1),
 goI (rdI (rowAt (List.map encF a) n) 2), goI (rdI (rowAt (List.map encF a) n) 3),
 AV.sl (rdL (rowAt (List.map encF a) n) 4)],
 goI b]
 [] =
 some (AV.sl (List.map encU w3), [], []) ∧
 Wf Tryd.prog H 22
 [AV.agg
 [AV.sl (rdL (rowAt (List.map encF a) n) 0), AV.sl (rdL (rowAt (List.map encF a) n) 1),
 goI (rdI (rowAt (List.map encF a) n) 2), goI (rdI (rowAt (List.map encF a) n) 3),
 AV.sl (rdL (rowAt (List.map encF a) n) 4)],
 goI b]
 [] =
 some (AV.sl (List.map encU w3), [], []) ∧
 Wf Tryd.prog H 19 [AV.sl (List.map encU w3), AV.sl (List.map encU w3)] [] =
 some (goB true, [], []) ∧
 Wf Tryd.prog H 23
 [AV.agg
 [AV.sl (rdL (rowAt (List.map encF a) n) 0), AV.sl (rdL (rowAt (List.map encF a) n) 1),
 goI (rdI (rowAt (List.map encF a) n) 2), goI (rdI (rowAt (List.map encF a) n) 3),
 AV.sl (rdL (rowAt (List.map encF a) n) 4)],
 goI b]
 [] =
 some (AV.sl (List.map encU w4), [], []) ∧
 Wf Tryd.prog H 24
 [AV.agg
 [AV.sl (rdL (rowAt (List.map encF a) n) 0), AV.sl (rdL (rowAt (List.map encF a) n) 1),
 goI (rdI (rowAt (List.map encF a) n) 2), goI (rdI (rowAt (List.map encF a) n) 3),
 AV.sl (rdL (rowAt (List.map encF a) n) 4)],
 goI b]
 [] =
 some (AV.sl (List.map encU w4), [], []) ∧
 Wf Tryd.prog H 19 [AV.sl (List.map encU w4), AV.sl (List.map encU w4)] [] =
 some (goB true, [], []) ∧
 LoopTo Tryd.prog H (H 4) 0 (loopOf Tryd.prog 4 13)
 (mkS 86
 [(1, goI b), (2, goI i), (3, AV.pt 0 0 0), (7, goI (↑n : Int)), (8, AV.pt 1 0 0),
 (9, AV.sl (List.map encU w1)), (10, goI (-1))]
 [Row.box [AV.sl (List.map encF a)],
 Row.box
 [AV.sl (rdL (rowAt (List.map encF a) n) 0),
 AV.sl (rdL (rowAt (List.map encF a) n) 1),
 goI (rdI (rowAt (List.map encF a) n) 2),
 goI (rdI (rowAt (List.map encF a) n) 3),
 AV.sl (rdL (rowAt (List.map encF a) n) 4)]])
 (Ex.exit 2,
 mkS 86 [(1, goI b), (2, goI i), (3, AV.pt 0 0 0), (7, goI (↑n : Int))]
 [Row.box [AV.sl (List.map encF a)],
 Row.box
 [AV.sl (rdL (rowAt (List.map encF a) n) 0),
 AV.sl (rdL (rowAt (List.map encF a) n) 1),
 goI (rdI (rowAt (List.map encF a) n) 2),
 goI (rdI (rowAt (List.map encF a) n) 3),
 AV.sl (rdL (rowAt (List.map encF a) n) 4)]]) ∧
 LoopTo Tryd.prog H (H 4) 0 (loopOf Tryd.prog 4 6)
 (mkS 86
 [(1, goI b), (2, goI i), (3, AV.pt 0 0 0),
 (7, goI (IntKind.wrap IntKind.i64 ((↑n : Int) + 1)))]
 [Row.box [AV.sl (List.map encF a)], Row.dead])
 r)
 ((Ex.exit 0, mkS 86 [] [Row.dead, Row.dead]) = r)) := by kernel_rfl
theorem tp4_13 (X : List (List AV)) (K : List (List AV)) (bs : List (List AV)) (p : Int) (q : Int) (bl : List XB) (b : Int) (i : Int) (n : Nat) (w : List Int) (v : Int) (h : Bool) (r : Ex × St) : (turnT Tryd.prog H (F4 false [] [] [] [] h) (L4 b i n) false (H 4) 0 (loopOf Tryd.prog 4 13)
 (mkS 86
 [(1, goI b), (2, goI i), (3, AV.pt 0 0 0), (7, goI (↑n : Int)), (8, AV.pt 1 0 0), (9, AV.sl (List.map encU w)),
 (10, goI v)]
 [Row.box [AV.sl X], Row.box [AV.sl K, AV.sl bs, goI p, goI q, AV.sl (List.map encB bl)]])
 r) = (TB (decide (v ≤ (↑(List.length K) : Int)))
 (Wf Tryd.prog H 25 [AV.agg [AV.sl K, AV.sl bs, goI p, goI q, AV.sl (List.map encB bl)], goI b, goI i, goI v] [] =
 some (goB h, [], []) ∧
 Wf Tryd.prog H 26 [AV.sl (List.map encU w), goI v] [] = some (goB h, [], []) ∧
 TB (!h == h) ((Ex.ret, mkS 86 [(6, goB false)] [Row.dead, Row.dead]) = r)
 (LoopTo Tryd.prog H (H 4) 0 (loopOf Tryd.prog 4 13)
 (mkS 86
 [(1, goI b), (2, goI i), (3, AV.pt 0 0 0), (7, goI (↑n : Int)), (8, AV.pt 1 0 0),
 (9, AV.sl (List.map encU w)), (10, goI (IntKind.wrap IntKind.i64 (v + 1)))]
 [Row.box [AV.sl X], Row.box [AV.sl K, AV.sl bs, goI p, goI q, AV.sl (List.map encB bl)]])
 r))
 ((Ex.exit 2,
 mkS 86 [(1, goI b), (2, goI i), (3, AV.pt 0 0 0), (7, goI (↑n : Int))]
 [Row.box [AV.sl X], Row.box [AV.sl K, AV.sl bs, goI p, goI q, AV.sl (List.map encB bl)]]) =
 r)) := by kernel_rfl
section
variable (K : List Int) (bs : List (List AV)) (p q : Int) (bl : List XB) (hc : CodeOk bl) (hx : ∀ b ∈ bl, ∀ x ∈ b.code, InsIn x) {out inn : List (List Int)} (h47 : Wf Tryd.prog H 47 [.agg [.sl (K.map encI), .sl bs, goI p, goI q, .sl (bl.map encB)]] [] = some (.os 0 0 out.length, [.arr 1 (out.map encL)], [])) (hI : LInv bl inn out []) (hO : LenA out) (hK : K.length ≤ 48)
include hc hx h47 hI hO hK
theorem loopp4_13 (X : List (List AV)) (b i : Int) (n : Nat) : ∀ (d : Nat) (v : Int), v + d = K.length + 1 → -1 ≤ v →
    LoopTo Tryd.prog H (H 4) 0 (loopOf Tryd.prog 4 13) (mkS 86 [(1, goI b), (2, goI i), (3, .pt 0 0 0), (7, goI n), (8, .pt 1 0 0), (9, .sl ((U.aheadO bl out b i).map encU)), (10, goI v)] [.box [.sl X], .box [.sl (K.map encI), .sl bs, goI p, goI q, .sl (bl.map encB)]])
      (.exit 2, mkS 86 [(1, goI b), (2, goI i), (3, .pt 0 0 0), (7, goI n)] [.box [.sl X], .box [.sl (K.map encI), .sl bs, goI p, goI q, .sl (bl.map encB)]])
  | 0, v, hd, hv => by
    refine turnK (tp4_13 X (K.map encI) bs p q bl b i n (U.aheadO bl out b i) v false _) ?_
    rw [List.length_map, decide_eq_false (by omega)]
    exact rfl
  | d + 1, v, hd, hv => by
    have ih := loopp4_13 X b i n d (v + 1) (by omega) (by omega)
    have h25 := we25 (K.map encI) bs p q bl hc hx h47 hI hO b i v (by omega)
    have hw : Bit.Wd (U.aheadO bl out b i) ∧ (U.aheadO bl out b i).length ≤ 1000 := by
      unfold U.aheadO
      split
      · exact ⟨thr_Wd (hI.wdo.at _) _, thr_len _ (hO.at _) _⟩
      · exact ⟨Bit.Wd.nil, by simp⟩
    have h26 := wr26 hw.1 v (by omega) (by omega)
    refine turnK (tp4_13 X (K.map encI) bs p q bl b i n (U.aheadO bl out b i) v (Bit.hasB (U.aheadO bl out b i) v) _) ?_
    rw [List.length_map, decide_eq_true (by omega), wrap64 (show -9223372036854775808 ≤ v + 1 by omega) (by omega)]
    refine ⟨h25, h26, ?_⟩
    cases Bit.hasB (U.aheadO bl out b i) v with
    | true => exact ih
    | false => exact ih
end
theorem uses_of {P : List XF} (h : U.okProg P = true) {i : Nat} (hi : i < P.length) : ∀ b ∈ (U.fun_ P i).blocks, ∀ x ∈ b.code, ∀ v ∈ U.uses x, 0 ≤ v ∧ v < (U.fun_ P i).kinds.length := fun b hb x hx v hv =>
  (vars_of h hi hb hx).1 v (by unfold U.vars; exact List.mem_append_left _ hv)
theorem ahead_len {bl : List XB} {out : List (List Int)} (hO : LenA out) (b i : Int) : (U.aheadO bl out b i).length ≤ 1000 ∧ (U.behindO bl out b i).length ≤ 1000 := by
  unfold U.aheadO U.behindO
  split
  · exact ⟨thr_len _ (hO.at _) _, thr_len _ (hO.at _) _⟩
  · exact ⟨by simp, by simp⟩
theorem loopp4_6 (a : List XF) (hK : Asked a) (b i : Int) : ∀ (d n : Nat), n + d = a.length →
    LoopTo Tryd.prog H (H 4) 0 (loopOf Tryd.prog 4 6) (mkS 86 [(1, goI b), (2, goI i), (3, .pt 0 0 0), (7, goI n)] [.box [.sl (a.map encF)], .dead]) (.exit 0, mkS 86 [] [.dead, .dead])
  | 0, n, hd => by
    refine turnK (tp4_6 a b i n [] [] [] [] _) ?_
    rw [List.length_map, decide_eq_false (by omega)]
    exact rfl
  | d + 1, n, hd => by
    have hi : n < a.length := by omega
    have ih := loopp4_6 a hK b i d (n + 1) (by omega)
    have hlen := hK.len
    have hf := hK.small _ (fun_mem hi)
    have hF := funcOk_of (okFunc_at hK.ok (fun_mem hi))
    have hk := hF.kinds
    have hc := codeOk_of hf
    have hx := insIn_of hK.ok hi hf
    have hl := hK.few _ (fun_mem hi)
    have hu := usesOk_of hK.ok hi
    have hv := uses_of hK.ok hi
    have hk48 : (U.fun_ a n).kinds.length ≤ 48 := by omega
    have hbl : (U.fun_ a n).blocks.length ≤ 3000 := by omega
    obtain ⟨out, inn, h47, hI, hA, hO⟩ := wv47 ((U.fun_ a n).kinds.map encI) ((U.fun_ a n).base.map encI) (U.fun_ a n).params (U.fun_ a n).result (U.fun_ a n).blocks hc hl hx hu
    have h13 := loopp4_13 (U.fun_ a n).kinds ((U.fun_ a n).base.map encI) (U.fun_ a n).params (U.fun_ a n).result (U.fun_ a n).blocks hc hx h47 hI hO hk48 (a.map encF) b i n ((U.fun_ a n).kinds.length + 2) (-1) (by omega) (by omega)
    have a1 := wv15 ((U.fun_ a n).kinds.map encI) ((U.fun_ a n).base.map encI) (U.fun_ a n).params (U.fun_ a n).result (U.fun_ a n).blocks hc hx h47 hI hO b i
    have a2 := wv11 ((U.fun_ a n).kinds.map encI) ((U.fun_ a n).base.map encI) (U.fun_ a n).params (U.fun_ a n).result (U.fun_ a n).blocks hc hx h47 hI hO b i
    have a3 := wv21 ((U.fun_ a n).kinds.map encI) ((U.fun_ a n).base.map encI) (U.fun_ a n).params (U.fun_ a n).result (U.fun_ a n).blocks hc hx h47 hI hO b
    have a4 := wv23 ((U.fun_ a n).kinds.map encI) ((U.fun_ a n).base.map encI) (U.fun_ a n).params (U.fun_ a n).result (U.fun_ a n).blocks h47 hI b
    have b1 := we18 (U.fun_ a n).kinds ((U.fun_ a n).base.map encI) (U.fun_ a n).params (U.fun_ a n).result (U.fun_ a n).blocks hc hx hu hk48 hbl hI hv b i
    have b2 := we20 (U.fun_ a n).kinds ((U.fun_ a n).base.map encI) (U.fun_ a n).params (U.fun_ a n).result (U.fun_ a n).blocks hc hx hu hk48 hbl hI hv b i
    have b3 := we22 (U.fun_ a n).kinds ((U.fun_ a n).base.map encI) (U.fun_ a n).params (U.fun_ a n).result (U.fun_ a n).blocks hc hx hu hk48 hbl hI hv b
    have b4 := we24 (U.fun_ a n).kinds ((U.fun_ a n).base.map encI) (U.fun_ a n).params (U.fun_ a n).result (U.fun_ a n).blocks hc hx hu hk48 hbl hI hv b
    have g1 := ahead_len (bl := (U.fun_ a n).blocks) hO b i
    have g3 := ahead_len (bl := (U.fun_ a n).blocks) hO b 0
    have g4 : (if 0 ≤ b then out.getD b.toNat [] else []).length ≤ 1000 := by
      split
      · exact hO.at _
      · simp
    have c1 := wr19 (U.aheadO (U.fun_ a n).blocks out b i) (by omega)
    have c2 := wr19 (U.behindO (U.fun_ a n).blocks out b i) (by omega)
    have c3 := wr19 (U.aheadO (U.fun_ a n).blocks out b 0) (by omega)
    have c4 := wr19 (if 0 ≤ b then out.getD b.toNat [] else []) (by omega)
    generalize (if 0 ≤ b then out.getD b.toNat [] else []) = w4 at a4 b4 c4
    generalize U.behindO (U.fun_ a n).blocks out b i = w2 at a2 b2 c2
    generalize U.aheadO (U.fun_ a n).blocks out b 0 = w3 at a3 b3 c3
    generalize U.aheadO (U.fun_ a n).blocks out b i = w1 at a1 b1 c1 h13
    refine turnK (tp4_6 a b i n w1 w2 w3 w4 _) ?_
    rw [List.length_map, decide_eq_true (show (n : Int) < a.length by omega), wrapS hi (by omega), rowF hi, getF hi]
    simp only [encF, rdI, rdL, slOf, List.getD_cons_zero, List.getD_cons_succ, int_goI]
    exact ⟨⟨by omega, by trivial⟩, b1, a1, c1, a2, b2, c2, a3, b3, c3, a4, b4, c4, h13, ih⟩
theorem wfp4 (p : XP) (b i : Int) (hp : HandP p) : Wf Tryd.prog H 4 [.agg (encP p), goI b, goI i] [] = some (goB true, [], []) := by
  refine runK (tp4 p.funcs b i (U.out11 p) _) ⟨wf9, wf10 p hp, ?_⟩
  cases ho : U.out11 p with
  | true => exact rfl
  | false => exact ⟨loopp4_6 p.funcs (asked_of ho) b i p.funcs.length 0 (by omega), rfl⟩
end Go.Proofs.YtdnekkkpngnmkaaDoor.E
