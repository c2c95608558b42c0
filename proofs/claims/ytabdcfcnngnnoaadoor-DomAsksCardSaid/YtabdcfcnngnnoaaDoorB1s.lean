/- Functions, by what the evaluator asks; the theorems t.. were printed by show.txt, a program of this session. -/
import Derived.Test.YtabdcfcnngnnoaaDoor05d
import Derived.Test.YtabdcfcnngnnoaaDoorB0
set_option linter.unusedVariables false
set_option linter.unusedSectionVars false
set_option linter.unusedSimpArgs false
set_option maxRecDepth 100000
namespace Go.Proofs.YtabdcfcnngnnoaaDoor.E
open Go
def goU (n : Int) : AV := .v (.int .u64 n)
def encU (n : Int) : List AV := [goU n]
namespace U
def withL (s l : List Int) : List Int := Bit.neatL (l.foldl Bit.putL s)
def withoutL (s l : List Int) : List Int := Bit.neatL (l.foldl Bit.dropL s)
def decU (l : List (List AV)) : List Int := l.map fun r => rdI r 0
def neatR (l : List (List AV)) : List (List AV) := (Bit.neatL (decU l)).map encU
def orW (a b : Int) : Int := Bit.orI a b
def sameR (a b : List (List AV)) : Bool := decide (decU a = decU b)
def hasW (l : List (List AV)) (n : Int) : Bool := Bit.hasB (decU l) n
end U
def LB50 (l : List Int) (m : Nat) : Nat → St → LT := fun id st => .is (.exit 0) (mkS 21 [(0, .os 0 0 m)] [.arr 1 (l.map encU)])
def FB16 (b : Bool) (k : Nat) : CallT := fun f args sto => match f, args, sto with
 | 73, [.sl s], [] => .is (.os 0 0 s.length, [.arr 1 s], [])
 | 74, [.os 0 0 _], [.arr 1 x] => .is (.os 0 0 k, [.arr 1 x], [])
 | 43, _, _ => .is (goB b, [], [])
 | _, _, _ => .no
def LB16 (n : Nat) (x : List Int) : Nat → St → LT := fun id st => .is (.exit 0) (mkS n [(0, .os 0 0 x.length)] [.arr 1 (x.map encU)])

theorem b50 (l : List Int) (n : Nat) (m : Nat) (r : AV × List Row × List Nat) : (runT Tryd.prog H (fun f args sto => CT.of (F0 f args sto)) (LB50 l m) false 74 [AV.os 0 0 n]
 [Row.arr 1 (List.map encU l)] fun q => q = r) = (LoopTo Tryd.prog H (H 74) 1 (loopOf Tryd.prog 74 1) (mkS 21 [(0, AV.os 0 0 n)] [Row.arr 1 (List.map encU l)])
 (Ex.exit 0, mkS 21 [(0, AV.os 0 0 m)] [Row.arr 1 (List.map encU l)]) ∧
 (AV.os 0 0 m, [Row.arr 1 (List.map encU l)], []) = r) := by kernel_rfl
theorem b50_1 (l : List Int) (n : Nat) (r : Ex × St) : (turnT Tryd.prog H (fun f args sto => CT.of (F0 f args sto)) L0 false (H 74) 1 (loopOf Tryd.prog 74 1)
 (mkS 21 [(0, AV.os 0 0 n)] [Row.arr 1 (List.map encU l)]) r) = (TB (decide ((↑n : Int) > 0))
 ((0 ≤ IntKind.wrap IntKind.i64 ((↑n : Int) - 1) ∧
 IntKind.wrap IntKind.i64 ((↑n : Int) - 1) < (↑n : Int) ∧
 0 + Int.toNat (IntKind.wrap IntKind.i64 ((↑n : Int) - 1)) < List.length (List.map encU l)) ∧
 cutAt 1 0 (List.map encU l)[0 + Int.toNat (IntKind.wrap IntKind.i64 ((↑n : Int) - 1))]? =
 some
 [AV.v
 (Value.int IntKind.u64
 (rdI (rowAt (List.map encU l) (0 + Int.toNat (IntKind.wrap IntKind.i64 ((↑n : Int) - 1)))) 0))] ∧
 TB (rdI (rowAt (List.map encU l) (0 + Int.toNat (IntKind.wrap IntKind.i64 ((↑n : Int) - 1)))) 0 == 0)
 ((0 ≤ IntKind.wrap IntKind.i64 ((↑n : Int) - 1) ∧
 IntKind.wrap IntKind.i64 ((↑n : Int) - 1) ≤ (↑(List.length (List.map encU l) - 0) : Int)) ∧
 LoopTo Tryd.prog H (H 74) 1 (loopOf Tryd.prog 74 1)
 (mkS 21 [(0, AV.os 0 0 (Int.toNat (IntKind.wrap IntKind.i64 ((↑n : Int) - 1)) - 0))]
 [Row.arr 1 (List.map encU l)])
 r)
 ((Ex.exit 0, mkS 21 [(0, AV.os 0 0 n)] [Row.arr 1 (List.map encU l)]) = r))
 ((Ex.exit 0, mkS 21 [(0, AV.os 0 0 n)] [Row.arr 1 (List.map encU l)]) = r)) := by kernel_rfl
theorem b42 (l : List Int) (n : Int) (r : AV × List Row × List Nat) : (runT Tryd.prog H (fun f args sto => CT.of (F0 f args sto)) L0 false 43 [AV.sl (List.map encU l), goI n] [] fun q => q = r) = (TB (decide (n ≥ 0))
 (iz 64 ≠ 0 ∧
 TB (decide (IntKind.wrap IntKind.i64 (Int.tdiv n 64) < (↑(List.length (List.map encU l)) : Int)))
 (iz 64 ≠ 0 ∧
 (0 ≤ IntKind.wrap IntKind.i64 (Int.tdiv n 64) ∧
 (List.map encU l)[Int.toNat (IntKind.wrap IntKind.i64 (Int.tdiv n 64))]? =
 some
 [AV.v
 (Value.int IntKind.u64
 (rdI (rowAt (List.map encU l) (Int.toNat (IntKind.wrap IntKind.i64 (Int.tdiv n 64)))) 0))]) ∧
 iz 64 ≠ 0 ∧
 0 ≤ Int.tmod n 64 ∧
 (goB
 (bitI BinOp.and IntKind.u64
 (shrI IntKind.u64
 (rdI (rowAt (List.map encU l) (Int.toNat (IntKind.wrap IntKind.i64 (Int.tdiv n 64)))) 0)
 (Int.tmod n 64))
 1 ==
 1),
 [], []) =
 r)
 ((goB false, [], []) = r))
 ((goB false, [], []) = r)) := by kernel_rfl
theorem b16 (s : List Int) (l : List Int) (x : List Int) (k : Nat) (r : AV × List Row × List Nat) : (runT Tryd.prog H (FB16 false k) (LB16 46 x) false 56 [AV.sl (List.map encU s), AV.sl (List.map encI l)] [] fun q => q = r) = (Wf Tryd.prog H 73 [AV.sl (List.map encU s)] [] =
 some (AV.os 0 0 (List.length (List.map encU s)), [Row.arr 1 (List.map encU s)], []) ∧
 LoopTo Tryd.prog H (H 56) 0 (loopOf Tryd.prog 56 3)
 (mkS 46
 [(0, AV.os 0 0 (List.length (List.map encU s))), (10, AV.sl (List.map encI l)),
 (11, goI (↑(List.length (List.map encI l)) : Int)), (12, goI 0)]
 [Row.arr 1 (List.map encU s)])
 (Ex.exit 0, mkS 46 [(0, AV.os 0 0 (List.length x))] [Row.arr 1 (List.map encU x)]) ∧
 Wf Tryd.prog H 74 [AV.os 0 0 (List.length x)] [Row.arr 1 (List.map encU x)] =
 some (AV.os 0 0 k, [Row.arr 1 (List.map encU x)], []) ∧
 (AV.os 0 0 k, [Row.arr 1 (List.map encU x)], []) = r) := by kernel_rfl
theorem b16_3 (l : List Int) (x : List Int) (n : Int) (i : Nat) (r : Ex × St) : (turnT Tryd.prog H (fun f args sto => CT.of (F0 f args sto)) L0 false (H 56) 0 (loopOf Tryd.prog 56 3)
 (mkS 46 [(0, AV.os 0 0 (List.length x)), (10, AV.sl (List.map encI l)), (11, goI n), (12, goI (↑i : Int))]
 [Row.arr 1 (List.map encU x)])
 r) = (TB (decide ((↑i : Int) < n))
 ((0 ≤ (↑i : Int) ∧ (List.map encI l)[i]? = some [goI (rdI (rowAt (List.map encI l) i) 0)]) ∧
 TB (decide (rdI (rowAt (List.map encI l) i) 0 < 0))
 (LoopTo Tryd.prog H (H 56) 0 (loopOf Tryd.prog 56 3)
 (mkS 46
 [(0, AV.os 0 0 (List.length x)), (10, AV.sl (List.map encI l)), (11, goI n),
 (12, goI (IntKind.wrap IntKind.i64 ((↑i : Int) + 1)))]
 [Row.arr 1 (List.map encU x)])
 r)
 (TB (decide (rdI (rowAt (List.map encI l) i) 0 ≥ 4096))
 (LoopTo Tryd.prog H (H 56) 0 (loopOf Tryd.prog 56 3)
 (mkS 46
 [(0, AV.os 0 0 (List.length x)), (10, AV.sl (List.map encI l)), (11, goI n),
 (12, goI (IntKind.wrap IntKind.i64 ((↑i : Int) + 1)))]
 [Row.arr 1 (List.map encU x)])
 r)
 (iz 64 ≠ 0 ∧
 TB
 (decide
 (IntKind.wrap IntKind.i64
 (IntKind.wrap IntKind.i64
 (IntKind.wrap IntKind.i64 (Int.tdiv (rdI (rowAt (List.map encI l) i) 0) 64) + 1) -
 (↑(List.length x) : Int)) >
 0))
 ((List.length x = List.length (List.map encU x) ∧
 0 ≤
 IntKind.wrap IntKind.i64
 (IntKind.wrap IntKind.i64
 (IntKind.wrap IntKind.i64 (Int.tdiv (rdI (rowAt (List.map encI l) i) 0) 64) + 1) -
 (↑(List.length x) : Int)) ∧
 List.length x +
 Int.toNat
 (IntKind.wrap IntKind.i64
 (IntKind.wrap IntKind.i64
 (IntKind.wrap IntKind.i64 (Int.tdiv (rdI (rowAt (List.map encI l) i) 0) 64) + 1) -
 (↑(List.length x) : Int))) ≤
 1000000) ∧
 iz 64 ≠ 0 ∧
 (0 ≤ IntKind.wrap IntKind.i64 (Int.tdiv (rdI (rowAt (List.map encI l) i) 0) 64) ∧
 IntKind.wrap IntKind.i64 (Int.tdiv (rdI (rowAt (List.map encI l) i) 0) 64) <
 (↑(List.length x +
 Int.toNat
 (IntKind.wrap IntKind.i64
 (IntKind.wrap IntKind.i64
 (IntKind.wrap IntKind.i64 (Int.tdiv (rdI (rowAt (List.map encI l) i) 0) 64) + 1) -
 (↑(List.length x) : Int)))) :
 Int) ∧
 0 + Int.toNat (IntKind.wrap IntKind.i64 (Int.tdiv (rdI (rowAt (List.map encI l) i) 0) 64)) <
 List.length
 (List.map encU x ++
 List.replicate
 (Int.toNat
 (IntKind.wrap IntKind.i64
 (IntKind.wrap IntKind.i64
 (IntKind.wrap IntKind.i64 (Int.tdiv (rdI (rowAt (List.map encI l) i) 0) 64) + 1) -
 (↑(List.length x) : Int))))
 [AV.v (Value.int IntKind.u64 0)])) ∧
 cutAt 1 0
 (List.map encU x ++
 List.replicate
 (Int.toNat
 (IntKind.wrap IntKind.i64
 (IntKind.wrap IntKind.i64
 (IntKind.wrap IntKind.i64 (Int.tdiv (rdI (rowAt (List.map encI l) i) 0) 64) + 1) -
 (↑(List.length x) : Int))))
 [AV.v
 (Value.int IntKind.u64
 0)])[0 +
 Int.toNat (IntKind.wrap IntKind.i64 (Int.tdiv (rdI (rowAt (List.map encI l) i) 0) 64))]? =
 some
 [AV.v
 (Value.int IntKind.u64
 (rdI
 (rowAt
 (List.map encU x ++
 List.replicate
 (Int.toNat
 (IntKind.wrap IntKind.i64
 (IntKind.wrap IntKind.i64
 (IntKind.wrap IntKind.i64
 (Int.tdiv (rdI (rowAt (List.map encI l) i) 0) 64) +
 1) -
 (↑(List.length x) : Int))))
 [AV.v (Value.int IntKind.u64 0)])
 (0 +
 Int.toNat
 (IntKind.wrap IntKind.i64 (Int.tdiv (rdI (rowAt (List.map encI l) i) 0) 64))))
 0))] ∧
 iz 64 ≠ 0 ∧
 0 ≤ Int.tmod (rdI (rowAt (List.map encI l) i) 0) 64 ∧
 (0 ≤ IntKind.wrap IntKind.i64 (Int.tdiv (rdI (rowAt (List.map encI l) i) 0) 64) ∧
 IntKind.wrap IntKind.i64 (Int.tdiv (rdI (rowAt (List.map encI l) i) 0) 64) <
 (↑(List.length x +
 Int.toNat
 (IntKind.wrap IntKind.i64
 (IntKind.wrap IntKind.i64
 (IntKind.wrap IntKind.i64
 (Int.tdiv (rdI (rowAt (List.map encI l) i) 0) 64) +
 1) -
 (↑(List.length x) : Int)))) :
 Int) ∧
 0 +
 Int.toNat
 (IntKind.wrap IntKind.i64 (Int.tdiv (rdI (rowAt (List.map encI l) i) 0) 64)) <
 List.length
 (List.map encU x ++
 List.replicate
 (Int.toNat
 (IntKind.wrap IntKind.i64
 (IntKind.wrap IntKind.i64
 (IntKind.wrap IntKind.i64
 (Int.tdiv (rdI (rowAt (List.map encI l) i) 0) 64) +
 1) -
 (↑(List.length x) : Int))))
 [AV.v (Value.int IntKind.u64 0)])) ∧
 Option.map List.length
 (List.map encU x ++
 List.replicate
 (Int.toNat
 (IntKind.wrap IntKind.i64
 (IntKind.wrap IntKind.i64
 (IntKind.wrap IntKind.i64
 (Int.tdiv (rdI (rowAt (List.map encI l) i) 0) 64) +
 1) -
 (↑(List.length x) : Int))))
 [AV.v
 (Value.int IntKind.u64
 0)])[0 +
 Int.toNat
 (IntKind.wrap IntKind.i64 (Int.tdiv (rdI (rowAt (List.map encI l) i) 0) 64))]? =
 some 1 ∧
 LoopTo Tryd.prog H (H 56) 0 (loopOf Tryd.prog 56 3)
 (mkS 46
 [(0,
 AV.os 0 0
 (List.length x +
 Int.toNat
 (IntKind.wrap IntKind.i64
 (IntKind.wrap IntKind.i64
 (IntKind.wrap IntKind.i64
 (Int.tdiv (rdI (rowAt (List.map encI l) i) 0) 64) +
 1) -
 (↑(List.length x) : Int))))),
 (10, AV.sl (List.map encI l)), (11, goI n),
 (12, goI (IntKind.wrap IntKind.i64 ((↑i : Int) + 1)))]
 [Row.arr 1
 (List.set
 (List.map encU x ++
 List.replicate
 (Int.toNat
 (IntKind.wrap IntKind.i64
 (IntKind.wrap IntKind.i64
 (IntKind.wrap IntKind.i64
 (Int.tdiv (rdI (rowAt (List.map encI l) i) 0) 64) +
 1) -
 (↑(List.length x) : Int))))
 [AV.v (Value.int IntKind.u64 0)])
 (0 +
 Int.toNat
 (IntKind.wrap IntKind.i64 (Int.tdiv (rdI (rowAt (List.map encI l) i) 0) 64)))
 [AV.v
 (Value.int IntKind.u64
 (bitI BinOp.or IntKind.u64
 (rdI
 (rowAt
 (List.map encU x ++
 List.replicate
 (Int.toNat
 (IntKind.wrap IntKind.i64
 (IntKind.wrap IntKind.i64
 (IntKind.wrap IntKind.i64
 (Int.tdiv (rdI (rowAt (List.map encI l) i) 0) 64) +
 1) -
 (↑(List.length x) : Int))))
 [AV.v (Value.int IntKind.u64 0)])
 (0 +
 Int.toNat
 (IntKind.wrap IntKind.i64
 (Int.tdiv (rdI (rowAt (List.map encI l) i) 0) 64))))
 0)
 (shlI IntKind.u64 1
 (Int.tmod (rdI (rowAt (List.map encI l) i) 0) 64))))])])
 r)
 (iz 64 ≠ 0 ∧
 (0 ≤ IntKind.wrap IntKind.i64 (Int.tdiv (rdI (rowAt (List.map encI l) i) 0) 64) ∧
 IntKind.wrap IntKind.i64 (Int.tdiv (rdI (rowAt (List.map encI l) i) 0) 64) <
 (↑(List.length x) : Int) ∧
 0 + Int.toNat (IntKind.wrap IntKind.i64 (Int.tdiv (rdI (rowAt (List.map encI l) i) 0) 64)) <
 List.length (List.map encU x)) ∧
 cutAt 1 0
 (List.map encU
 x)[0 +
 Int.toNat (IntKind.wrap IntKind.i64 (Int.tdiv (rdI (rowAt (List.map encI l) i) 0) 64))]? =
 some
 [AV.v
 (Value.int IntKind.u64
 (rdI
 (rowAt (List.map encU x)
 (0 +
 Int.toNat
 (IntKind.wrap IntKind.i64 (Int.tdiv (rdI (rowAt (List.map encI l) i) 0) 64))))
 0))] ∧
 iz 64 ≠ 0 ∧
 0 ≤ Int.tmod (rdI (rowAt (List.map encI l) i) 0) 64 ∧
 (0 ≤ IntKind.wrap IntKind.i64 (Int.tdiv (rdI (rowAt (List.map encI l) i) 0) 64) ∧
 IntKind.wrap IntKind.i64 (Int.tdiv (rdI (rowAt (List.map encI l) i) 0) 64) <
 (↑(List.length x) : Int) ∧
 0 + Int.toNat (IntKind.wrap IntKind.i64 (Int.tdiv (rdI (rowAt (List.map encI l) i) 0) 64)) <
 List.length (List.map encU x)) ∧
 Option.map List.length
 (List.map encU
 x)[0 +
 Int.toNat
 (IntKind.wrap IntKind.i64 (Int.tdiv (rdI (rowAt (List.map encI l) i) 0) 64))]? =
 some 1 ∧
 LoopTo Tryd.prog H (H 56) 0 (loopOf Tryd.prog 56 3)
 (mkS 46
 [(0, AV.os 0 0 (List.length x)), (10, AV.sl (List.map encI l)), (11, goI n),
 (12, goI (IntKind.wrap IntKind.i64 ((↑i : Int) + 1)))]
 [Row.arr 1
 (List.set (List.map encU x)
 (0 +
 Int.toNat
 (IntKind.wrap IntKind.i64 (Int.tdiv (rdI (rowAt (List.map encI l) i) 0) 64)))
 [AV.v
 (Value.int IntKind.u64
 (bitI BinOp.or IntKind.u64
 (rdI
 (rowAt (List.map encU x)
 (0 +
 Int.toNat
 (IntKind.wrap IntKind.i64
 (Int.tdiv (rdI (rowAt (List.map encI l) i) 0) 64))))
 0)
 (shlI IntKind.u64 1 (Int.tmod (rdI (rowAt (List.map encI l) i) 0) 64))))])])
 r))))
 ((Ex.exit 0, mkS 46 [(0, AV.os 0 0 (List.length x))] [Row.arr 1 (List.map encU x)]) = r)) := by kernel_rfl
def wd (l : List Int) (i : Nat) : Int := l.getD i 0
theorem rowU {l : List Int} {i : Nat} (h : i < l.length) : rdI (rowAt (l.map encU) i) 0 = wd l i ∧ (l.map encU)[i]? = some [goU (wd l i)] := by
  have e1 : rowAt (l.map encU) i = encU (l.getD i default) := rowAt_map h
  have e2 : (l.map encU)[i]? = some (encU (l.getD i default)) := rows_map h
  rw [e1, e2]; exact ⟨rfl, rfl⟩
theorem set_mapU (W : List Int) (i : Nat) (v : Int) : (W.map encU).set i [goU v] = (W.set i v).map encU := set_map encU W i v
theorem decU_map (l : List Int) : U.decU (l.map encU) = l := by
  unfold U.decU
  rw [List.map_map]
  exact (List.map_congr_left (fun x _ => rfl)).trans (List.map_id l)
theorem neatR_map (l : List Int) : U.neatR (l.map encU) = (Bit.neatL l).map encU := by unfold U.neatR; rw [decU_map]
theorem rowsOkU (l : List Int) : rowsOk 1 (l.map encU) = true := rowsOk_of (enc := encU) (s := 1) (fun _ => rfl) l
theorem take_snoc (l : List Int) (n : Nat) (h : n < l.length) : l.take (n + 1) = l.take n ++ [wd l n] := by
  rw [List.take_add_one, List.getElem?_eq_getElem h]
  unfold wd
  rw [List.getD_eq_getElem?_getD, List.getElem?_eq_getElem h]; rfl
theorem neat_take (l : List Int) : l.take (Bit.neatL l).length = Bit.neatL l := by
  obtain ⟨m, hm⟩ := Bit.neatL_prefix l
  have h := List.take_left (l₁ := Bit.neatL l) (l₂ := List.replicate m 0)
  rwa [← hm] at h
theorem loopb50 (l : List Int) (hl : l.length < 1000000) : ∀ n, n ≤ l.length →
    LoopTo Tryd.prog H (H 74) 1 (loopOf Tryd.prog 74 1) (mkS 21 [(0, .os 0 0 n)] [.arr 1 (l.map encU)]) (.exit 0, mkS 21 [(0, .os 0 0 (Bit.neatL (l.take n)).length)] [.arr 1 (l.map encU)])
  | 0, _ => by
    refine turnK (b50_1 l 0 _) ?_
    rw [decide_eq_false (by omega)]; exact rfl
  | n + 1, hn => by
    have ih := loopb50 l hl n (by omega)
    have ew : IntKind.i64.wrap (((n + 1 : Nat) : Int) - 1) = (n : Int) := by rw [wrap64 (by omega) (by omega)]; omega
    obtain ⟨r1, r2⟩ := rowU (l := l) (i := n) (by omega)
    have elen : (l.map encU).length = l.length := List.length_map _
    refine turnK (b50_1 l (n + 1) _) ?_
    rw [ew, decide_eq_true (by omega), Nat.zero_add, Int.toNat_natCast, r1, r2, take_snoc l n (by omega)]
    refine ⟨⟨by omega, by omega, by omega⟩, rfl, ?_⟩
    by_cases h0 : wd l n = 0
    · rw [show (wd l n == 0) = true by simp [h0], h0, Bit.neatL_snoc_zero]
      refine ⟨⟨by omega, by omega⟩, ?_⟩
      rw [Nat.sub_zero]; exact ih
    · rw [show (wd l n == 0) = false by simp [h0], Bit.neatL_snoc_ne _ _ h0]
      rw [List.length_append, List.length_take, Nat.min_eq_left (by omega)]
      exact rfl
theorem wb50 (l : List Int) (hl : l.length < 1000000) : Wf Tryd.prog H 74 [.os 0 0 l.length] [.arr 1 (l.map encU)] = some (.os 0 0 (Bit.neatL l).length, [.arr 1 (l.map encU)], []) := by
  have h := loopb50 l hl l.length (Nat.le_refl _)
  rw [List.take_length] at h
  exact runK (b50 l l.length (Bit.neatL l).length _) ⟨h, rfl⟩
theorem iz64 : iz 64 ≠ 0 := by decide
theorem wb42 {l : List Int} (hw : Bit.Wd l) (n : Int) (h1 : n < 9223372036854775808) (hl : l.length < 1000000) : Wf Tryd.prog H 43 [.sl (l.map encU), goI n] [] = some (goB (Bit.hasB l n), [], []) := by
  have elen : (l.map encU).length = l.length := List.length_map _
  refine runK (b42 l n _) ?_
  by_cases h0 : n ≥ 0
  · have e1 : IntKind.i64.wrap (Int.tdiv n 64) = ((n.toNat / 64 : Nat) : Int) := by
      rw [Int.tdiv_eq_ediv_of_nonneg h0, wrap64 (by omega) (by omega)]; omega
    have e2 : Int.tmod n 64 = ((n.toNat % 64 : Nat) : Int) := by rw [Int.tmod_eq_emod_of_nonneg h0]; omega
    rw [decide_eq_true h0, elen, e1, e2, Int.toNat_natCast]
    refine ⟨iz64, ?_⟩
    by_cases hb : n.toNat / 64 < l.length
    · obtain ⟨r1, r2⟩ := rowU hb
      rw [decide_eq_true (by omega), r1, r2]
      refine ⟨iz64, ⟨by omega, rfl⟩, iz64, by omega, ?_⟩
      have h3 := Bit.has_bit (x := wd l (n.toNat / 64)) (j := ((n.toNat % 64 : Nat) : Int)) (hw.getD _) (by omega) (by omega)
      have h4 : (bitI BinOp.and IntKind.u64 (shrI IntKind.u64 (wd l (n.toNat / 64)) ((n.toNat % 64 : Nat) : Int)) 1 == 1) = Bit.hasB l n := by
        refine h3.trans ?_
        unfold Bit.hasB Bit.tb
        rw [decide_eq_true (show 0 ≤ n from h0), Bool.true_and, Int.toNat_natCast]
        rfl
      rw [h4]
    · rw [decide_eq_false (by omega)]
      have : Bit.hasB l n = false := by
        cases h : Bit.hasB l n with
        | false => rfl
        | true => have := Bit.hasB_lt h; omega
      rw [this]; exact rfl
  · rw [decide_eq_false h0]
    have : Bit.hasB l n = false := by unfold Bit.hasB; rw [decide_eq_false (by omega)]; rfl
    rw [this]; exact rfl
theorem puts_len (ns : List Int) : ∀ l : List Int, l.length ≤ 1000 → (ns.foldl Bit.putL l).length ≤ 1000 := by
  induction ns with
  | nil => intro l h; exact h
  | cons n ns ih =>
    intro l h
    have := Bit.putL_length l n
    exact ih _ (by omega)
theorem loopb16 (l : List Int) (hl : l.length < 1000000) : ∀ (d i : Nat) (x : List Int), i + d = l.length → Bit.Wd x → x.length ≤ 1000 →
    LoopTo Tryd.prog H (H 56) 0 (loopOf Tryd.prog 56 3) (mkS 46 [(0, .os 0 0 x.length), (10, .sl (l.map encI)), (11, goI l.length), (12, goI i)] [.arr 1 (x.map encU)])
      (.exit 0, mkS 46 [(0, .os 0 0 ((l.drop i).foldl Bit.putL x).length)] [.arr 1 (((l.drop i).foldl Bit.putL x).map encU)])
  | 0, i, x, hd, hw, hx => by
    refine turnK (b16_3 l x l.length i _) ?_
    rw [decide_eq_false (by omega), List.drop_of_length_le (by omega)]; exact rfl
  | d + 1, i, x, hd, hw, hx => by
    have hi : i < l.length := by omega
    have ed : l.drop i = U.nt l i :: l.drop (i + 1) := drop_cons' l hi
    have e1 : rdI (rowAt (l.map encI) i) 0 = U.nt l i := by rw [rowI hi]; rfl
    have hput := Bit.putL_length x (U.nt l i)
    have ih := loopb16 l hl d (i + 1) (Bit.putL x (U.nt l i)) (by omega) (Bit.putL_Wd hw _) (by omega)
    rw [ed, List.foldl_cons]
    refine turnK (b16_3 l x l.length i _) ?_
    rw [decide_eq_true (by omega), e1, getI hi, wrapS hi hl]
    refine ⟨⟨by omega, rfl⟩, ?_⟩
    generalize U.nt l i = n at *
    by_cases h0 : n < 0
    · rw [decide_eq_true h0]
      have : Bit.putL x n = x := by unfold Bit.putL; rw [if_neg (by omega)]
      rw [this] at ih ⊢
      exact ih
    by_cases h1 : n ≥ 4096
    · rw [decide_eq_false h0, decide_eq_true h1]
      have : Bit.putL x n = x := by unfold Bit.putL; rw [if_neg (by omega)]
      rw [this] at ih ⊢
      exact ih
    rw [decide_eq_false h0, decide_eq_false h1]
    have eq : IntKind.i64.wrap (Int.tdiv n 64) = ((n.toNat / 64 : Nat) : Int) := by
      rw [Int.tdiv_eq_ediv_of_nonneg (by omega), wrap64 (by omega) (by omega)]; omega
    have em : Int.tmod n 64 = ((n.toNat % 64 : Nat) : Int) := by rw [Int.tmod_eq_emod_of_nonneg (by omega)]; omega
    have emore : IntKind.i64.wrap (IntKind.i64.wrap (((n.toNat / 64 : Nat) : Int) + 1) - (x.length : Int)) = ((n.toNat / 64 : Nat) : Int) + 1 - x.length := by
      rw [wrap64 (n := ((n.toNat / 64 : Nat) : Int) + 1) (by omega) (by omega), wrap64 (by omega) (by omega)]
    have ebit : ∀ y : List Int, Bit.Wd y → bitI BinOp.or IntKind.u64 (wd y (n.toNat / 64)) (shlI IntKind.u64 1 ((n.toNat % 64 : Nat) : Int)) = (((y.getD (n.toNat / 64) 0).toNat ||| 2 ^ (n.toNat % 64) : Nat) : Int) := fun y hy => by
      have e5 : shlI IntKind.u64 1 ((n.toNat % 64 : Nat) : Int) = ((2 ^ (n.toNat % 64) : Nat) : Int) := by
        have := Bit.shl_one (j := ((n.toNat % 64 : Nat) : Int)) (by omega) (by omega)
        rw [Int.toNat_natCast] at this
        exact this
      rw [e5]
      have hp := Bit.pow_lt (j := n.toNat % 64) (by omega)
      have := Bit.bits_or (x := wd y (n.toNat / 64)) (y := ((2 ^ (n.toNat % 64) : Nat) : Int)) (hy.getD _) ⟨Int.natCast_nonneg _, Bit.lt_cast hp⟩
      rw [Int.toNat_natCast] at this
      exact this
    rw [eq, em, emore, Int.toNat_natCast, Nat.zero_add]
    refine ⟨iz64, ?_⟩
    have hpl : Bit.putL x n = Bit.orL (Bit.padL x (n.toNat / 64)) n.toNat := by unfold Bit.putL; rw [if_pos (by omega)]
    rw [hpl] at ih ⊢
    have hol := Bit.orL_length (Bit.padL x (n.toNat / 64)) n.toNat
    by_cases hm : ((n.toNat / 64 : Nat) : Int) + 1 - x.length > 0
    · have ek : (((n.toNat / 64 : Nat) : Int) + 1 - x.length).toNat = n.toNat / 64 + 1 - x.length := by omega
      have epad : x.map encU ++ List.replicate (n.toNat / 64 + 1 - x.length) [AV.v (.int .u64 0)] = (Bit.padL x (n.toNat / 64)).map encU := by
        unfold Bit.padL; rw [List.map_append, List.map_replicate]; rfl
      have hpadl : (Bit.padL x (n.toNat / 64)).length = x.length + (n.toNat / 64 + 1 - x.length) := by unfold Bit.padL; simp
      obtain ⟨r1, r2⟩ := rowU (l := Bit.padL x (n.toNat / 64)) (i := n.toNat / 64) (by omega)
      rw [decide_eq_true hm, ek, epad, r1, r2, ebit _ (Bit.padL_Wd hw _)]
      have eset : ((Bit.padL x (n.toNat / 64)).map encU).set (n.toNat / 64) [AV.v (.int .u64 ((((Bit.padL x (n.toNat / 64)).getD (n.toNat / 64) 0).toNat ||| 2 ^ (n.toNat % 64) : Nat) : Int))] = (Bit.orL (Bit.padL x (n.toNat / 64)) n.toNat).map encU := set_mapU _ _ _
      rw [eset]
      rw [hol, hpadl] at ih
      have hin : 0 ≤ ((n.toNat / 64 : Nat) : Int) ∧ ((n.toNat / 64 : Nat) : Int) < ((x.length + (n.toNat / 64 + 1 - x.length) : Nat) : Int) ∧ n.toNat / 64 < ((Bit.padL x (n.toNat / 64)).map encU).length := ⟨by omega, by omega, by rw [List.length_map]; omega⟩
      exact ⟨⟨by rw [List.length_map], by omega, by omega⟩, iz64, hin, rfl, iz64, by omega, hin, rfl, ih⟩
    · have epad : Bit.padL x (n.toNat / 64) = x := by
        unfold Bit.padL
        rw [show n.toNat / 64 + 1 - x.length = 0 by omega]; simp
      rw [epad] at ih hol ⊢
      obtain ⟨r1, r2⟩ := rowU (l := x) (i := n.toNat / 64) (by omega)
      rw [decide_eq_false hm, r1, r2, ebit _ hw]
      have eset : (x.map encU).set (n.toNat / 64) [AV.v (.int .u64 (((x.getD (n.toNat / 64) 0).toNat ||| 2 ^ (n.toNat % 64) : Nat) : Int))] = (Bit.orL x n.toNat).map encU := set_mapU _ _ _
      rw [eset]
      rw [hol] at ih
      have hin : 0 ≤ ((n.toNat / 64 : Nat) : Int) ∧ ((n.toNat / 64 : Nat) : Int) < (x.length : Int) ∧ n.toNat / 64 < (x.map encU).length := ⟨by omega, by omega, by rw [List.length_map]; omega⟩
      exact ⟨iz64, hin, rfl, iz64, by omega, hin, rfl, ih⟩
theorem wb49 (s : List Int) (hs : s.length < 1000000) : Wf Tryd.prog H 73 [.sl (s.map encU)] [] = some (.os 0 0 (s.map encU).length, [.arr 1 (s.map encU)], []) :=
  Wf_prim (p := cloneP 1) (by rfl) (by
    show (if rowsOk 1 (s.map encU) = true ∧ (s.map encU).length ≤ LIM then some (AV.os 0 0 (s.map encU).length, [Row.arr 1 (s.map encU)], []) else none) = _
    rw [if_pos ⟨rowsOkU s, by rw [List.length_map]; unfold LIM; omega⟩])
theorem wb16 (s l : List Int) (hw : Bit.Wd s) (hs : s.length ≤ 1000) (hl : l.length < 1000000) : Wf Tryd.prog H 56 [.sl (s.map encU), .sl (l.map encI)] [] = some (.os 0 0 (U.withL s l).length, [.arr 1 ((l.foldl Bit.putL s).map encU)], []) := by
  have h := loopb16 l hl l.length 0 s (by omega) hw hs
  rw [List.drop_zero] at h
  have hx := puts_len l s hs
  refine runK (b16 s l (l.foldl Bit.putL s) (U.withL s l).length _) ?_
  have e1 : (s.map encU).length = s.length := List.length_map _
  have e2 : (l.map encI).length = l.length := List.length_map _
  have hc := wb49 s (by omega)
  rw [e1] at hc ⊢
  rw [e2]
  exact ⟨hc, h, wb50 _ (by omega), rfl⟩
end Go.Proofs.YtabdcfcnngnnoaaDoor.E
