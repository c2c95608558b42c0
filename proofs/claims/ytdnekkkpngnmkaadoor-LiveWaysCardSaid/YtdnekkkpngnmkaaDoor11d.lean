/- Functions, by what the evaluator asks; the theorems t.. were printed by show.txt, a program of this session. -/
import Derived.Test.YtdnekkkpngnmkaaDoor11c
import Derived.Test.YtdnekkkpngnmkaaDoorB1x
set_option linter.unusedVariables false
set_option linter.unusedSimpArgs false
set_option maxRecDepth 100000
namespace Go.Proofs.YtdnekkkpngnmkaaDoor.E
open Go
def F21 (m : List Int) : CallT := fun f args sto => match f with
 | 15 => .is (.sl (m.map encU), [], [])
 | _ => .no
def F23 (out : List (List Int)) : CallT := fun f args sto => match f with
 | 47 => .is (.os 0 0 out.length, [.arr 1 (out.map encL)], [])
 | _ => .no
def F5 (o : Bool) (m s w : List Int) : CallT := fun f args sto => match f, args with
 | 9, _ => .is (goB true, [], [])
 | 10, _ => .is (goB o, [], [])
 | 27, [.agg [_, _, _, _, .sl b], .v (.int _ n)] => .is (.sl (U.nextR b n), [], [])
 | 21, _ => .is (.sl (m.map encU), [], [])
 | 28, _ => .is (.sl (s.map encU), [], [])
 | 23, _ => .is (.sl (w.map encU), [], [])
 | 19, _ => .is (goB true, [], [])
 | _, _ => .no
def L5 (i : Nat) (b : Nat) (s : List Int) : Nat → St → LT := fun id st => match id with
 | 6 => .is (.exit 0) (mkS 56 [] [.dead, .dead])
 | 10 => .is (.exit 2) (mkS 56 [(1, .pt 0 0 0), (3, goI i)] st.sto)
 | 15 => .is (.exit 4) (mkS 56 [(1, .pt 0 0 0), (3, goI i), (4, .pt 1 0 0), (5, goI b), (6, .sl (s.map encU))] st.sto)
 | _ => .no
set_option maxHeartbeats 4000000

theorem v21 (ks : List (List AV)) (bs : List (List AV)) (p : Int) (q : Int) (bl : List XB) (b : Int) (m : List Int) (r : AV × List Row × List Nat) : (runT Tryd.prog H (F21 m) L0 false 21 [AV.agg [AV.sl ks, AV.sl bs, goI p, goI q, AV.sl (List.map encB bl)], goI b] []
 fun q => q = r) = (Wf Tryd.prog H 15 [AV.agg [AV.sl ks, AV.sl bs, goI p, goI q, AV.sl (List.map encB bl)], goI b, goI 0] [] =
 some (AV.sl (List.map encU m), [], []) ∧
 (AV.sl (List.map encU m), [], []) = r) := by kernel_rfl
theorem v23 (ks : List (List AV)) (bs : List (List AV)) (p : Int) (q : Int) (bl : List XB) (b : Int) (out : List (List Int)) (r : AV × List Row × List Nat) : (runT Tryd.prog H (F23 out) L0 false 23 [AV.agg [AV.sl ks, AV.sl bs, goI p, goI q, AV.sl (List.map encB bl)], goI b] []
 fun q => q = r) = (TB (decide (b < 0)) ((AV.sl [], [], []) = r)
 (TB (decide (b ≥ (↑(List.length (List.map encB bl)) : Int))) ((AV.sl [], [], []) = r)
 (Wf Tryd.prog H 47 [AV.agg [AV.sl ks, AV.sl bs, goI p, goI q, AV.sl (List.map encB bl)]] [] =
 some (AV.os 0 0 (List.length out), [Row.arr 1 (List.map encL out)], []) ∧
 (0 ≤ b ∧
 (List.take (List.length out) (List.drop 0 (List.map encL out)))[Int.toNat b]? =
 some
 [AV.sl (rdL (rowAt (List.take (List.length out) (List.drop 0 (List.map encL out))) (Int.toNat b)) 0)]) ∧
 (AV.sl (rdL (rowAt (List.take (List.length out) (List.drop 0 (List.map encL out))) (Int.toNat b)) 0), [], []) =
 r))) := by kernel_rfl
theorem t5 (a : List XF) (o : Bool) (r : AV × List Row × List Nat) : (runT Tryd.prog H (F5 o [] [] []) (L5 0 0 []) false 5 [AV.agg [AV.sl (List.map encF a)]] [] fun q => q = r) = (Wf Tryd.prog H 9 [] [] = some (goB true, [], []) ∧
 Wf Tryd.prog H 10 [AV.agg [AV.sl (List.map encF a)]] [] = some (goB o, [], []) ∧
 TB o ((goB true, [], []) = r)
 (LoopTo Tryd.prog H (H 5) 0 (loopOf Tryd.prog 5 6)
 (mkS 56 [(1, AV.pt 0 0 0), (3, goI 0)] [Row.box [AV.sl (List.map encF a)], Row.dead])
 (Ex.exit 0, mkS 56 [] [Row.dead, Row.dead]) ∧
 (goB true, [], []) = r)) := by kernel_rfl
theorem t5_6 (a : List XF) (i : Nat) (r : Ex × St) : (turnT Tryd.prog H (F5 false [] [] []) (L5 i 0 []) false (H 5) 0 (loopOf Tryd.prog 5 6)
 (mkS 56 [(1, AV.pt 0 0 0), (3, goI (↑i : Int))] [Row.box [AV.sl (List.map encF a)], Row.dead]) r) = (TB (decide ((↑i : Int) < (↑(List.length (List.map encF a)) : Int)))
 ((0 ≤ (↑i : Int) ∧
 (List.map encF a)[i]? =
 some
 [AV.sl (rdL (rowAt (List.map encF a) i) 0), AV.sl (rdL (rowAt (List.map encF a) i) 1),
 goI (rdI (rowAt (List.map encF a) i) 2), goI (rdI (rowAt (List.map encF a) i) 3),
 AV.sl (rdL (rowAt (List.map encF a) i) 4)]) ∧
 LoopTo Tryd.prog H (H 5) 0 (loopOf Tryd.prog 5 10)
 (mkS 56 [(1, AV.pt 0 0 0), (3, goI (↑i : Int)), (4, AV.pt 1 0 0), (5, goI 0)]
 [Row.box [AV.sl (List.map encF a)],
 Row.box
 [AV.sl (rdL (rowAt (List.map encF a) i) 0), AV.sl (rdL (rowAt (List.map encF a) i) 1),
 goI (rdI (rowAt (List.map encF a) i) 2), goI (rdI (rowAt (List.map encF a) i) 3),
 AV.sl (rdL (rowAt (List.map encF a) i) 4)]])
 (Ex.exit 2,
 mkS 56 [(1, AV.pt 0 0 0), (3, goI (↑i : Int))]
 [Row.box [AV.sl (List.map encF a)],
 Row.box
 [AV.sl (rdL (rowAt (List.map encF a) i) 0), AV.sl (rdL (rowAt (List.map encF a) i) 1),
 goI (rdI (rowAt (List.map encF a) i) 2), goI (rdI (rowAt (List.map encF a) i) 3),
 AV.sl (rdL (rowAt (List.map encF a) i) 4)]]) ∧
 LoopTo Tryd.prog H (H 5) 0 (loopOf Tryd.prog 5 6)
 (mkS 56 [(1, AV.pt 0 0 0), (3, goI (IntKind.wrap IntKind.i64 ((↑i : Int) + 1)))]
 [Row.box [AV.sl (List.map encF a)], Row.dead])
 r)
 ((Ex.exit 0, mkS 56 [] [Row.dead, Row.dead]) = r)) := by kernel_rfl
theorem t5_10 (X : List (List AV)) (ks : List (List AV)) (bs : List (List AV)) (p : Int) (q : Int) (bl : List XB) (i : Nat) (b : Nat) (s : List Int) (w : List Int) (r : Ex × St) : (turnT Tryd.prog H (F5 false [] [] w) (L5 i b s) false (H 5) 0 (loopOf Tryd.prog 5 10)
 (mkS 56 [(1, AV.pt 0 0 0), (3, goI (↑i : Int)), (4, AV.pt 1 0 0), (5, goI (↑b : Int))]
 [Row.box [AV.sl X], Row.box [AV.sl ks, AV.sl bs, goI p, goI q, AV.sl (List.map encB bl)]])
 r) = (TB (decide ((↑b : Int) < (↑(List.length (List.map encB bl)) : Int)))
 (Wf Tryd.prog H 27 [AV.agg [AV.sl ks, AV.sl bs, goI p, goI q, AV.sl (List.map encB bl)], goI (↑b : Int)] [] =
 some (AV.sl (U.nextR (List.map encB bl) (↑b : Int)), [], []) ∧
 LoopTo Tryd.prog H (H 5) 0 (loopOf Tryd.prog 5 15)
 (mkS 56
 [(1, AV.pt 0 0 0), (3, goI (↑i : Int)), (4, AV.pt 1 0 0), (5, goI (↑b : Int)), (6, AV.sl []),
 (7, AV.sl (U.nextR (List.map encB bl) (↑b : Int))), (8, goI 0)]
 [Row.box [AV.sl X], Row.box [AV.sl ks, AV.sl bs, goI p, goI q, AV.sl (List.map encB bl)]])
 (Ex.exit 4,
 mkS 56
 [(1, AV.pt 0 0 0), (3, goI (↑i : Int)), (4, AV.pt 1 0 0), (5, goI (↑b : Int)), (6, AV.sl (List.map encU s))]
 [Row.box [AV.sl X], Row.box [AV.sl ks, AV.sl bs, goI p, goI q, AV.sl (List.map encB bl)]]) ∧
 Wf Tryd.prog H 23 [AV.agg [AV.sl ks, AV.sl bs, goI p, goI q, AV.sl (List.map encB bl)], goI (↑b : Int)] [] =
 some (AV.sl (List.map encU w), [], []) ∧
 Wf Tryd.prog H 19 [AV.sl (List.map encU w), AV.sl (List.map encU s)] [] = some (goB true, [], []) ∧
 LoopTo Tryd.prog H (H 5) 0 (loopOf Tryd.prog 5 10)
 (mkS 56
 [(1, AV.pt 0 0 0), (3, goI (↑i : Int)), (4, AV.pt 1 0 0),
 (5, goI (IntKind.wrap IntKind.i64 ((↑b : Int) + 1)))]
 [Row.box [AV.sl X], Row.box [AV.sl ks, AV.sl bs, goI p, goI q, AV.sl (List.map encB bl)]])
 r)
 ((Ex.exit 2,
 mkS 56 [(1, AV.pt 0 0 0), (3, goI (↑i : Int))]
 [Row.box [AV.sl X], Row.box [AV.sl ks, AV.sl bs, goI p, goI q, AV.sl (List.map encB bl)]]) =
 r)) := by kernel_rfl
theorem t5_15 (X : List (List AV)) (ks : List (List AV)) (bs : List (List AV)) (p : Int) (q : Int) (bl : List XB) (i : Nat) (b : Nat) (k : Nat) (t : List Int) (s : List Int) (m : List Int) (u : List Int) (r : Ex × St) : (turnT Tryd.prog H (F5 false m u []) L0 false (H 5) 0 (loopOf Tryd.prog 5 15)
 (mkS 56
 [(1, AV.pt 0 0 0), (3, goI (↑i : Int)), (4, AV.pt 1 0 0), (5, goI (↑b : Int)), (6, AV.sl (List.map encU s)),
 (7, AV.sl (List.map encI t)), (8, goI (↑k : Int))]
 [Row.box [AV.sl X], Row.box [AV.sl ks, AV.sl bs, goI p, goI q, AV.sl (List.map encB bl)]])
 r) = (TB (decide ((↑k : Int) < (↑(List.length (List.map encI t)) : Int)))
 ((0 ≤ (↑k : Int) ∧ (List.map encI t)[k]? = some [goI (rdI (rowAt (List.map encI t) k) 0)]) ∧
 Wf Tryd.prog H 21
 [AV.agg [AV.sl ks, AV.sl bs, goI p, goI q, AV.sl (List.map encB bl)], goI (rdI (rowAt (List.map encI t) k) 0)]
 [] =
 some (AV.sl (List.map encU m), [], []) ∧
 Wf Tryd.prog H 28 [AV.sl [[AV.sl (List.map encU s)], [AV.sl (List.map encU m)]]] [] =
 some (AV.sl (List.map encU u), [], []) ∧
 LoopTo Tryd.prog H (H 5) 0 (loopOf Tryd.prog 5 15)
 (mkS 56
 [(1, AV.pt 0 0 0), (3, goI (↑i : Int)), (4, AV.pt 1 0 0), (5, goI (↑b : Int)), (6, AV.sl (List.map encU u)),
 (7, AV.sl (List.map encI t)), (8, goI (IntKind.wrap IntKind.i64 ((↑k : Int) + 1)))]
 [Row.box [AV.sl X], Row.box [AV.sl ks, AV.sl bs, goI p, goI q, AV.sl (List.map encB bl)]])
 r)
 ((Ex.exit 4,
 mkS 56
 [(1, AV.pt 0 0 0), (3, goI (↑i : Int)), (4, AV.pt 1 0 0), (5, goI (↑b : Int)), (6, AV.sl (List.map encU s))]
 [Row.box [AV.sl X], Row.box [AV.sl ks, AV.sl bs, goI p, goI q, AV.sl (List.map encB bl)]]) =
 r)) := by kernel_rfl
/-- At a block's beginning. -/
theorem in_eq {bl : List XB} {inn out : List (List Int)} (hu : UsesOk bl) (hI : LInv bl inn out []) {t : Nat} (ht : t < bl.length) : U.aheadO bl out t 0 = inn.getD t [] ∧ out.getD t [] = U.joinI (U.nextAt bl t) inn := by
  obtain ⟨f1, f2⟩ := hI.fix t ht (by simp)
  refine ⟨?_, f1⟩
  have h0 := hu.ne t ht
  unfold U.aheadO
  have ht' : U.there bl (t : Int) 0 = true := there_nat (i := 0) ht h0
  rw [if_pos ht', Int.toNat_natCast, f1, f2]
  rfl
section
variable (ks bs : List (List AV)) (p q : Int) (bl : List XB) (hc : CodeOk bl) (hx : ∀ b ∈ bl, ∀ x ∈ b.code, InsIn x) {out inn : List (List Int)} (h47 : Wf Tryd.prog H 47 [.agg [.sl ks, .sl bs, goI p, goI q, .sl (bl.map encB)]] [] = some (.os 0 0 out.length, [.arr 1 (out.map encL)], [])) (hI : LInv bl inn out []) (hO : LenA out)
include hc hx h47 hI hO
theorem wv21 (b : Int) : Wf Tryd.prog H 21 [.agg [.sl ks, .sl bs, goI p, goI q, .sl (bl.map encB)], goI b] [] = some (.sl ((U.aheadO bl out b 0).map encU), [], []) :=
  runK (v21 ks bs p q bl b (U.aheadO bl out b 0) _) ⟨wv15 ks bs p q bl hc hx h47 hI hO b 0, rfl⟩
omit hc hx hO in
theorem wv23 (b : Int) : Wf Tryd.prog H 23 [.agg [.sl ks, .sl bs, goI p, goI q, .sl (bl.map encB)], goI b] [] = some (.sl ((if 0 ≤ b then out.getD b.toNat [] else []).map encU), [], []) := by
  have hl2 := hI.len2
  refine runK (v23 ks bs p q bl b out _) ?_
  rw [List.length_map]
  by_cases h0 : b < 0
  · rw [decide_eq_true h0, if_neg (by omega)]; exact rfl
  · rw [decide_eq_false h0, if_pos (by omega)]
    obtain ⟨n, rfl⟩ := Int.eq_ofNat_of_zero_le (show 0 ≤ b by omega)
    rw [Int.toNat_natCast]
    by_cases h1 : (n : Int) ≥ bl.length
    · have e : out.getD n [] = [] := by rw [List.getD_eq_getElem?_getD, List.getElem?_eq_none (by omega)]; rfl
      rw [decide_eq_true h1, e]; exact rfl
    · rw [decide_eq_false h1]
      have e : List.take out.length (List.drop 0 (out.map encL)) = out.map encL := take_map encL out
      obtain ⟨r1, r2⟩ := rowL (l := out) (i := n) (by omega)
      rw [e, r1, r2]
      exact ⟨h47, ⟨by omega, rfl⟩, rfl⟩
theorem loop5_15 (X : List (List AV)) (hu : UsesOk bl) (hA : LenA inn) (i b : Nat) (t : List Int) (ht : t.length ≤ 2) (hin : ∀ x ∈ t, 0 ≤ x ∧ x < bl.length) : ∀ (d k : Nat) (s : List Int), k + d = t.length → s.length ≤ 1000 →
    LoopTo Tryd.prog H (H 5) 0 (loopOf Tryd.prog 5 15) (mkS 56 [(1, .pt 0 0 0), (3, goI i), (4, .pt 1 0 0), (5, goI b), (6, .sl (s.map encU)), (7, .sl (t.map encI)), (8, goI k)] [.box [.sl X], .box [.sl ks, .sl bs, goI p, goI q, .sl (bl.map encB)]])
      (.exit 4, mkS 56 [(1, .pt 0 0 0), (3, goI i), (4, .pt 1 0 0), (5, goI b), (6, .sl (((t.drop k).foldl (fun s t => Bit.joinL [s, inn.getD t.toNat []] []) s).map encU))] [.box [.sl X], .box [.sl ks, .sl bs, goI p, goI q, .sl (bl.map encB)]])
  | 0, k, s, hd, hs => by
    have e0 : t.drop k = [] := List.drop_of_length_le (by omega)
    rw [e0]
    refine turnK (t5_15 X ks bs p q bl i b k t s [] [] _) ?_
    rw [List.length_map, decide_eq_false (by omega)]; exact rfl
  | d + 1, k, s, hd, hs => by
    have hk : k < t.length := by omega
    have ed : t.drop k = U.nt t k :: t.drop (k + 1) := drop_cons' t hk
    have e1 : rdI (rowAt (t.map encI) k) 0 = U.nt t k := by rw [rowI hk]; rfl
    obtain ⟨g0, g1⟩ := hin (U.nt t k) (getD_mem hk)
    have h21 := wv21 ks bs p q bl hc hx h47 hI hO (U.nt t k)
    have ein : U.aheadO bl out (U.nt t k) 0 = inn.getD (U.nt t k).toNat [] := by
      have := (in_eq hu hI (t := (U.nt t k).toNat) (by omega)).1
      rwa [show (((U.nt t k).toNat : Nat) : Int) = U.nt t k by omega] at this
    rw [ein] at h21
    have h28 := wr28 s (inn.getD (U.nt t k).toNat []) hs (hA.at _)
    have ih := loop5_15 X hu hA i b t ht hin d (k + 1) (Bit.joinL [s, inn.getD (U.nt t k).toNat []] []) (by omega) (join2_len hs (hA.at _))
    rw [ed, List.foldl_cons]
    refine turnK (t5_15 X ks bs p q bl i b k t s (inn.getD (U.nt t k).toNat []) (Bit.joinL [s, inn.getD (U.nt t k).toNat []] []) _) ?_
    rw [List.length_map, decide_eq_true (by omega), e1, getI hk, wrapS hk (by omega)]
    exact ⟨⟨by omega, rfl⟩, h21, h28, ih⟩
theorem loop5_10 (X : List (List AV)) (hl : bl.length ≤ 3000) (hu : UsesOk bl) (hA : LenA inn) (i : Nat) : ∀ (d b : Nat), b + d = bl.length →
    LoopTo Tryd.prog H (H 5) 0 (loopOf Tryd.prog 5 10) (mkS 56 [(1, .pt 0 0 0), (3, goI i), (4, .pt 1 0 0), (5, goI b)] [.box [.sl X], .box [.sl ks, .sl bs, goI p, goI q, .sl (bl.map encB)]])
      (.exit 2, mkS 56 [(1, .pt 0 0 0), (3, goI i)] [.box [.sl X], .box [.sl ks, .sl bs, goI p, goI q, .sl (bl.map encB)]])
  | 0, b, hd => by
    refine turnK (t5_10 X ks bs p q bl i b [] [] _) ?_
    rw [List.length_map, decide_eq_false (by omega)]; exact rfl
  | d + 1, b, hd => by
    have hb : b < bl.length := by omega
    have ih := loop5_10 X hl hu hA i d (b + 1) (by omega)
    have h27 := wf16 ks bs p q bl b hc
    have h15 := loop5_15 ks bs p q bl hc hx h47 hI hO X hu hA i b (U.nextAt bl b) (nextAt_len bl b) (fun x hx' => hu.next b (by omega) (by omega) x hx') (U.nextAt bl b).length 0 [] (by omega) (by simp)
    rw [List.drop_zero] at h15
    have h23 := wv23 ks bs p q bl h47 hI b
    obtain ⟨_, f1⟩ := in_eq hu hI hb
    rw [if_pos (by omega), Int.toNat_natCast, f1] at h23
    have h19 := wr19 (U.joinI (U.nextAt bl b) inn) (by have := joinI_len hA (U.nextAt bl b) [] (by simp); unfold U.joinI; omega)
    refine turnK (t5_10 X ks bs p q bl i b (U.joinI (U.nextAt bl b) inn) (U.joinI (U.nextAt bl b) inn) _) ?_
    rw [List.length_map, decide_eq_true (by omega), nextR_map, wrapS hb (by omega)]
    exact ⟨h27, h15, h23, h19, ih⟩
end
theorem loop5_6 (a : List XF) (hK : Asked a) : ∀ (d i : Nat), i + d = a.length →
    LoopTo Tryd.prog H (H 5) 0 (loopOf Tryd.prog 5 6) (mkS 56 [(1, .pt 0 0 0), (3, goI i)] [.box [.sl (a.map encF)], .dead]) (.exit 0, mkS 56 [] [.dead, .dead])
  | 0, i, hd => by
    refine turnK (t5_6 a i _) ?_
    rw [List.length_map, decide_eq_false (by omega)]; exact rfl
  | d + 1, i, hd => by
    have hi : i < a.length := by omega
    have ih := loop5_6 a hK d (i + 1) (by omega)
    have hlen := hK.len
    have hf := hK.small _ (fun_mem hi)
    have hc := codeOk_of hf
    have hx := insIn_of hK.ok hi hf
    have hl := hK.few _ (fun_mem hi)
    have hu := usesOk_of hK.ok hi
    obtain ⟨out, inn, h47, hI, hA, hO⟩ := wv47 ((U.fun_ a i).kinds.map encI) ((U.fun_ a i).base.map encI) (U.fun_ a i).params (U.fun_ a i).result (U.fun_ a i).blocks hc hl hx hu
    have h10 := loop5_10 ((U.fun_ a i).kinds.map encI) ((U.fun_ a i).base.map encI) (U.fun_ a i).params (U.fun_ a i).result (U.fun_ a i).blocks hc hx h47 hI hO (a.map encF) (by omega) hu hA i (U.fun_ a i).blocks.length 0 (by omega)
    refine turnK (t5_6 a i _) ?_
    rw [List.length_map, decide_eq_true (show (i : Int) < a.length by omega), wrapS hi (by omega), rowF hi, getF hi]
    simp only [encF, rdI, rdL, slOf, List.getD_cons_zero, List.getD_cons_succ, int_goI]
    exact ⟨⟨by omega, by trivial⟩, h10, ih⟩
theorem wf5 (p : XP) (hp : HandP p) : Wf Tryd.prog H 5 [.agg (encP p)] [] = some (goB true, [], []) := by
  refine runK (t5 p.funcs (U.out11 p) _) ⟨wf9, wf10 p hp, ?_⟩
  cases ho : U.out11 p with
  | true => exact rfl
  | false => exact ⟨loop5_6 p.funcs (asked_of ho) p.funcs.length 0 (by omega), rfl⟩
end Go.Proofs.YtdnekkkpngnmkaaDoor.E
