/- Functions, by what the evaluator asks; the theorems t.. were printed by show.txt, a program of this session. -/
import Derived.Test.YtdnekkkpngnmkaaDoorK1
set_option linter.unusedVariables false
set_option linter.unusedSimpArgs false
set_option maxRecDepth 100000
namespace Go.Proofs.YtdnekkkpngnmkaaDoor.E
open Go
namespace U
def tz (x : Int) : Int := ((Lib.ctz 64 x.toNat : Nat) : Int)
end U
def FL83 : CallT := fun f args sto => match f, args with
 | 94, [.v (.int _ x)] => .is (goI (U.tz x), [], [])
 | 26, [.sl l, .v (.int _ n)] => .is (goB (U.hasW l n), [], [])
 | _, _ => .no
def LL83 (s m : List Int) (n : Int) (i : Nat) : Nat → St → LT := fun id st => match id with
 | 3 => .is (.exit 0) (mkS 29 [(3, .os 0 0 m.length)] [.arr 1 (m.map encI)])
 | 5 => .is (.exit 2) (mkS 29 [(3, .os 0 0 m.length), (6, .sl (s.map encU)), (7, goI n), (8, goI i)] [.arr 1 (m.map encI)])
 | _ => .no
def LL41 (m : List Int) : Nat → St → LT := fun id st => .is (.exit 0) (mkS 20 [(3, .os 0 0 m.length)] [.arr 1 (m.map encI)])
def FL63 (k : Nat) (x : List Int) : CallT := fun f args sto => match f with
 | 16 => .is (.os 0 0 k, [.arr 1 (x.map encU)], [])
 | _ => .no

theorem l83 (s : List Int) (m : List Int) (r : AV × List Row × List Nat) : (runT Tryd.prog H (fun f args sto => CT.of (F0 f args sto)) (LL83 s m 0 0) false 83 [AV.sl (List.map encU s)] [] fun q =>
 q = r) = (LoopTo Tryd.prog H (H 83) 0 (loopOf Tryd.prog 83 3)
 (mkS 29
 [(3, AV.os 0 0 0), (6, AV.sl (List.map encU s)), (7, goI (↑(List.length (List.map encU s)) : Int)), (8, goI 0)]
 [Row.arr 1 []])
 (Ex.exit 0, mkS 29 [(3, AV.os 0 0 (List.length m))] [Row.arr 1 (List.map encI m)]) ∧
 (AV.os 0 0 (List.length m), [Row.arr 1 (List.map encI m)], []) = r) := by kernel_rfl
theorem l83_3 (s : List Int) (l : List Int) (m : List Int) (n : Int) (i : Nat) (r : Ex × St) : (turnT Tryd.prog H (fun f args sto => CT.of (F0 f args sto)) (LL83 s m n i) false (H 83) 0 (loopOf Tryd.prog 83 3)
 (mkS 29 [(3, AV.os 0 0 (List.length l)), (6, AV.sl (List.map encU s)), (7, goI n), (8, goI (↑i : Int))]
 [Row.arr 1 (List.map encI l)])
 r) = (TB (decide ((↑i : Int) < n))
 ((0 ≤ (↑i : Int) ∧ (List.map encU s)[i]? = some [AV.v (Value.int IntKind.u64 (rdI (rowAt (List.map encU s) i) 0))]) ∧
 LoopTo Tryd.prog H (H 83) 0 (loopOf Tryd.prog 83 5)
 (mkS 29
 [(3, AV.os 0 0 (List.length l)), (4, goI (↑i : Int)),
 (5, AV.v (Value.int IntKind.u64 (rdI (rowAt (List.map encU s) i) 0))), (6, AV.sl (List.map encU s)),
 (7, goI n), (8, goI (↑i : Int))]
 [Row.arr 1 (List.map encI l)])
 (Ex.exit 2,
 mkS 29 [(3, AV.os 0 0 (List.length m)), (6, AV.sl (List.map encU s)), (7, goI n), (8, goI (↑i : Int))]
 [Row.arr 1 (List.map encI m)]) ∧
 LoopTo Tryd.prog H (H 83) 0 (loopOf Tryd.prog 83 3)
 (mkS 29
 [(3, AV.os 0 0 (List.length m)), (6, AV.sl (List.map encU s)), (7, goI n),
 (8, goI (IntKind.wrap IntKind.i64 ((↑i : Int) + 1)))]
 [Row.arr 1 (List.map encI m)])
 r)
 ((Ex.exit 0, mkS 29 [(3, AV.os 0 0 (List.length l))] [Row.arr 1 (List.map encI l)]) = r)) := by kernel_rfl
theorem l83_5 (s : List Int) (l : List Int) (n : Int) (i : Nat) (j : Int) (x : Int) (r : Ex × St) : (turnT Tryd.prog H FL83 L0 false (H 83) 0 (loopOf Tryd.prog 83 5)
 (mkS 29
 [(3, AV.os 0 0 (List.length l)), (4, goI j), (5, goU x), (6, AV.sl (List.map encU s)), (7, goI n),
 (8, goI (↑i : Int))]
 [Row.arr 1 (List.map encI l)])
 r) = (TB (!x == 0)
 (Wf Tryd.prog H 94 [AV.v (Value.int IntKind.u64 x)] [] = some (goI (U.tz x), [], []) ∧
 true = true ∧
 (List.length l = List.length (List.map encI l) ∧ List.length l + 1 ≤ 1000000) ∧
 LoopTo Tryd.prog H (H 83) 0 (loopOf Tryd.prog 83 5)
 (mkS 29
 [(3, AV.os 0 0 (List.length l + 1)), (4, goI j),
 (5, AV.v (Value.int IntKind.u64 (bitI BinOp.and IntKind.u64 x (IntKind.wrap IntKind.u64 (x - 1))))),
 (6, AV.sl (List.map encU s)), (7, goI n), (8, goI (↑i : Int))]
 [Row.arr 1
 (List.map encI l ++ [[goI (IntKind.wrap IntKind.i64 (IntKind.wrap IntKind.i64 (j * 64) + U.tz x))]])])
 r)
 ((Ex.exit 2,
 mkS 29 [(3, AV.os 0 0 (List.length l)), (6, AV.sl (List.map encU s)), (7, goI n), (8, goI (↑i : Int))]
 [Row.arr 1 (List.map encI l)]) =
 r)) := by kernel_rfl
theorem l41 (s : List Int) (m : List Int) (r : AV × List Row × List Nat) : (runT Tryd.prog H (fun f args sto => CT.of (F0 f args sto)) (LL41 m) false 41 [AV.sl (List.map encU s)] [] fun q => q = r) = (LoopTo Tryd.prog H (H 41) 0 (loopOf Tryd.prog 41 3)
 (mkS 20 [(0, AV.sl (List.map encU s)), (3, AV.os 0 0 0), (4, goI 0)] [Row.arr 1 []])
 (Ex.exit 0, mkS 20 [(3, AV.os 0 0 (List.length m))] [Row.arr 1 (List.map encI m)]) ∧
 (AV.os 0 0 (List.length m), [Row.arr 1 (List.map encI m)], []) = r) := by kernel_rfl
theorem l41_3 (s : List Int) (l : List Int) (n : Nat) (r : Ex × St) : (turnT Tryd.prog H FL83 L0 false (H 41) 0 (loopOf Tryd.prog 41 3)
 (mkS 20 [(0, AV.sl (List.map encU s)), (3, AV.os 0 0 (List.length l)), (4, goI (↑n : Int))]
 [Row.arr 1 (List.map encI l)])
 r) = (TB (decide ((↑n : Int) < IntKind.wrap IntKind.i64 (64 * (↑(List.length (List.map encU s)) : Int))))
 (Wf Tryd.prog H 26 [AV.sl (List.map encU s), goI (↑n : Int)] [] =
 some (goB (U.hasW (List.map encU s) (↑n : Int)), [], []) ∧
 TB (U.hasW (List.map encU s) (↑n : Int))
 (true = true ∧
 (List.length l = List.length (List.map encI l) ∧ List.length l + 1 ≤ 1000000) ∧
 LoopTo Tryd.prog H (H 41) 0 (loopOf Tryd.prog 41 3)
 (mkS 20
 [(0, AV.sl (List.map encU s)), (3, AV.os 0 0 (List.length l + 1)),
 (4, goI (IntKind.wrap IntKind.i64 ((↑n : Int) + 1)))]
 [Row.arr 1 (List.map encI l ++ [[goI (↑n : Int)]])])
 r)
 (LoopTo Tryd.prog H (H 41) 0 (loopOf Tryd.prog 41 3)
 (mkS 20
 [(0, AV.sl (List.map encU s)), (3, AV.os 0 0 (List.length l)),
 (4, goI (IntKind.wrap IntKind.i64 ((↑n : Int) + 1)))]
 [Row.arr 1 (List.map encI l)])
 r))
 ((Ex.exit 0, mkS 20 [(3, AV.os 0 0 (List.length l))] [Row.arr 1 (List.map encI l)]) = r)) := by kernel_rfl
theorem l63 (l : List Int) (x : List Int) (k : Nat) (r : AV × List Row × List Nat) : (runT Tryd.prog H (FL63 k x) L0 false 63 [AV.sl (List.map encI l)] [] fun q => q = r) = (Wf Tryd.prog H 16 [AV.sl [], AV.sl (List.map encI l)] [] = some (AV.os 0 0 k, [Row.arr 1 (List.map encU x)], []) ∧
 (AV.sl (List.take k (List.drop 0 (List.map encU x))), [], []) = r) := by kernel_rfl
theorem wl94 (x : Int) (h0 : 0 ≤ x) (h1 : x < 18446744073709551616) : Wf Tryd.prog H 94 [goU x] [] = some (goI (U.tz x), [], []) := Wf_prim (p := tzP) (by rfl) (if_pos ⟨h0, h1⟩)
section
variable (s : List Int) (hw : Bit.Wd s) (hs : s.length ≤ 1000)
theorem loopl83_5 (n : Int) (i : Nat) (hi : i < 1000) : ∀ (bs : List Nat) (x : Nat) (acc : List Int), Bit.bitsOf 64 x = bs → x < 18446744073709551616 → acc.length + bs.length ≤ 100000 →
    LoopTo Tryd.prog H (H 83) 0 (loopOf Tryd.prog 83 5) (mkS 29 [(3, .os 0 0 acc.length), (4, goI i), (5, goU x), (6, .sl (s.map encU)), (7, goI n), (8, goI i)] [.arr 1 (acc.map encI)])
      (.exit 2, mkS 29 [(3, .os 0 0 (acc ++ Bit.toI (bs.map fun b => 64 * i + b)).length), (6, .sl (s.map encU)), (7, goI n), (8, goI i)] [.arr 1 ((acc ++ Bit.toI (bs.map fun b => 64 * i + b)).map encI)])
  | [], x, acc, hb, hx, hl => by
    have h0 := Bit.bits_none (by simpa using hx) hb
    subst h0
    have e0 : acc ++ Bit.toI (([] : List Nat).map fun b => 64 * i + b) = acc := List.append_nil _
    rw [e0]
    exact turnK (l83_5 s acc n i i ((0 : Nat) : Int) _) rfl
  | b :: bs, x, acc, hb, hx, hl => by
    have h0 : x ≠ 0 := by
      intro e; subst e
      have : Bit.bitsOf 64 0 = [] := List.filter_eq_nil_iff.2 fun i _ => by simp
      rw [this] at hb; cases hb
    have hx64 : x < 2 ^ 64 := by simpa using hx
    obtain ⟨_, _, hc⟩ := Bit.low_form h0 hx64
    rw [Bit.bits_first h0 hx64] at hb
    obtain ⟨hb1, hb2⟩ := List.cons.inj hb
    rw [List.length_cons] at hl
    have ih := loopl83_5 n i hi bs (x &&& (x - 1)) (acc ++ [((64 * i + b : Nat) : Int)]) hb2 (Nat.lt_of_le_of_lt Nat.and_le_left hx) (by rw [List.length_append, List.length_singleton]; omega)
    have e1 : (acc ++ [((64 * i + b : Nat) : Int)]).length = acc.length + 1 := List.length_append
    have e2 : (acc ++ [((64 * i + b : Nat) : Int)]).map encI = acc.map encI ++ [[goI ((64 * i + b : Nat) : Int)]] := List.map_append
    have e3 : acc ++ Bit.toI ((b :: bs).map fun b => 64 * i + b) = acc ++ [((64 * i + b : Nat) : Int)] ++ Bit.toI (bs.map fun b => 64 * i + b) := by rw [List.append_assoc]; rfl
    rw [e1, e2] at ih
    rw [e3]
    have h94 := wl94 x (Int.natCast_nonneg _) (Bit.lt_cast hx)
    have etz : U.tz (x : Int) = (b : Int) := by unfold U.tz; rw [Int.toNat_natCast, hb1]
    have ew : IntKind.i64.wrap (IntKind.i64.wrap ((i : Int) * 64) + (b : Int)) = ((64 * i + b : Nat) : Int) := by
      rw [hb1] at hc
      rw [wrap64 (n := (i : Int) * 64) (by omega) (by omega), wrap64 (by omega) (by omega)]
      omega
    have ecl : bitI BinOp.and IntKind.u64 (x : Int) (IntKind.u64.wrap ((x : Int) - 1)) = ((x &&& (x - 1) : Nat) : Int) := Bit.clear_low h0 hx
    refine turnK (l83_5 s acc n i i x _) ?_
    rw [etz] at h94 ⊢
    rw [ew, ecl, show (!((x : Int) == 0)) = true by rw [Bool.not_eq_true', beq_eq_false_iff_ne]; omega]
    exact ⟨h94, rfl, ⟨by rw [List.length_map], by omega⟩, ih⟩
include hw hs
theorem loopl83_3 : ∀ (d i : Nat), i + d = s.length →
    LoopTo Tryd.prog H (H 83) 0 (loopOf Tryd.prog 83 3) (mkS 29 [(3, .os 0 0 (Bit.toI (Bit.numsL s i)).length), (6, .sl (s.map encU)), (7, goI s.length), (8, goI i)] [.arr 1 ((Bit.toI (Bit.numsL s i)).map encI)])
      (.exit 0, mkS 29 [(3, .os 0 0 (Bit.toI (Bit.numsL s s.length)).length)] [.arr 1 ((Bit.toI (Bit.numsL s s.length)).map encI)])
  | 0, i, hd => by
    have : i = s.length := by omega
    subst this
    refine turnK (l83_3 s _ [] s.length s.length _) ?_
    rw [decide_eq_false (by omega)]; exact rfl
  | d + 1, i, hd => by
    have hi : i < s.length := by omega
    have ih := loopl83_3 d (i + 1) (by omega)
    have hx := hw.getD i
    have hn := Bit.numsL_length s i
    have h5 := loopl83_5 s s.length i (by omega) _ (s.getD i 0).toNat (Bit.toI (Bit.numsL s i)) rfl (by omega) (by rw [Bit.toI_len]; have := Bit.bitsOf_len 64 (s.getD i 0).toNat; omega)
    rw [← Bit.toI_append, ← Bit.numsL_succ, Int.toNat_of_nonneg hx.1] at h5
    obtain ⟨r1, r2⟩ := rowU hi
    refine turnK (l83_3 s _ (Bit.toI (Bit.numsL s (i + 1))) s.length i _) ?_
    rw [decide_eq_true (by omega), r1, r2, wrapS hi (by omega)]
    exact ⟨⟨by omega, rfl⟩, h5, ih⟩
theorem wl83 : Wf Tryd.prog H 83 [.sl (s.map encU)] [] = some (.os 0 0 (Bit.toI (Bit.numsL s s.length)).length, [.arr 1 ((Bit.toI (Bit.numsL s s.length)).map encI)], []) := by
  have h := loopl83_3 s hw hs s.length 0 (by omega)
  refine runK (l83 s (Bit.toI (Bit.numsL s s.length)) _) ?_
  rw [List.length_map]
  exact ⟨h, rfl⟩
theorem loopl41 : ∀ (d n : Nat) (acc : List Int), n + d = 64 * s.length → acc.length ≤ n →
    LoopTo Tryd.prog H (H 41) 0 (loopOf Tryd.prog 41 3) (mkS 20 [(0, .sl (s.map encU)), (3, .os 0 0 acc.length), (4, goI n)] [.arr 1 (acc.map encI)])
      (.exit 0, mkS 20 [(3, .os 0 0 (acc ++ U.selP (Bit.tb s) d n).length)] [.arr 1 ((acc ++ U.selP (Bit.tb s) d n).map encI)])
  | 0, n, acc, hd, hl => by
    have e0 : acc ++ U.selP (Bit.tb s) 0 n = acc := List.append_nil _
    rw [e0]
    refine turnK (l41_3 s acc n _) ?_
    rw [List.length_map, wrap64 (n := 64 * (s.length : Int)) (by omega) (by omega), decide_eq_false (by omega)]; exact rfl
  | d + 1, n, acc, hd, hl => by
    have h26 := wr26 hw (n : Int) (by omega) (by omega)
    have eh : Bit.hasB s (n : Int) = Bit.tb s n := by unfold Bit.hasB; rw [decide_eq_true (by omega), Int.toNat_natCast]; rfl
    have es : U.selP (Bit.tb s) (d + 1) n = (if Bit.tb s n then [(n : Int)] else []) ++ U.selP (Bit.tb s) d (n + 1) := rfl
    rw [eh] at h26
    rw [es]
    refine turnK (l41_3 s acc n _) ?_
    rw [List.length_map, wrap64 (n := 64 * (s.length : Int)) (by omega) (by omega), decide_eq_true (by omega), wrapS (show n < 64 * s.length by omega) (by omega), hasW_map, eh]
    refine ⟨h26, ?_⟩
    cases hb : Bit.tb s n with
    | true =>
      have ih := loopl41 d (n + 1) (acc ++ [(n : Int)]) (by omega) (by rw [List.length_append, List.length_singleton]; omega)
      have e1 : (acc ++ [(n : Int)]).length = acc.length + 1 := List.length_append
      have e2 : (acc ++ [(n : Int)]).map encI = acc.map encI ++ [[goI (n : Int)]] := List.map_append
      rw [e1, e2, List.append_assoc] at ih
      rw [if_pos rfl]
      exact ⟨rfl, ⟨by rw [List.length_map], by omega⟩, ih⟩
    | false =>
      rw [if_neg (by simp), List.nil_append]
      exact loopl41 d (n + 1) acc (by omega) (by omega)
theorem wl41 : Wf Tryd.prog H 41 [.sl (s.map encU)] [] = some (.os 0 0 (Bit.toI (Bit.numsL s s.length)).length, [.arr 1 ((Bit.toI (Bit.numsL s s.length)).map encI)], []) := by
  have h := loopl41 s hw hs (64 * s.length) 0 [] (by omega) (by simp)
  rw [List.nil_append, ← Bit.nums_sel] at h
  exact runK (l41 s (Bit.toI (Bit.numsL s s.length)) _) ⟨h, rfl⟩
end
theorem wl63 (l : List Int) (hl : l.length < 1000000) : Wf Tryd.prog H 63 [.sl (l.map encI)] [] = some (.sl ((U.withL [] l).map encU), [], []) := by
  have e : List.take (U.withL [] l).length (List.drop 0 ((l.foldl Bit.putL []).map encU)) = (U.withL [] l).map encU := by
    rw [List.drop_zero, ← List.map_take]; unfold U.withL; rw [neat_take]
  refine runK (l63 l (l.foldl Bit.putL []) (U.withL [] l).length _) ?_
  rw [e]
  exact ⟨wb16 [] l Bit.Wd.nil (by simp) hl, rfl⟩
end Go.Proofs.YtdnekkkpngnmkaaDoor.E
