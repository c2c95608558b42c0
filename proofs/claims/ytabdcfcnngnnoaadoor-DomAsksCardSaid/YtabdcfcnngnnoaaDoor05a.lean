/- Functions, by what the evaluator asks; the theorems t.. were printed by show.txt, a program of this session. -/
import Derived.Test.YtabdcfcnngnnoaaDoor05d
set_option linter.unusedVariables false
set_option linter.unusedSectionVars false
set_option linter.unusedSimpArgs false
set_option maxRecDepth 100000
namespace Go.Proofs.YtabdcfcnngnnoaaDoor.E
open Go
namespace U
def anyFrom (p : Nat → Bool) : Nat → Nat → Bool
  | 0, _ => false
  | d + 1, i => p i || anyFrom p d (i + 1)
/-- The parts of an operation. -/
def parts (op : Int) : ByteArray :=
  if op = 1 then ⟨#[68, 110]⟩ else if op = 2 then ⟨#[68, 65]⟩ else if op = 8 then ⟨#[68, 65]⟩ else if op = 17 then ⟨#[68, 65]⟩
  else if op = 3 then ⟨#[68, 65, 66]⟩ else if op = 4 then ⟨#[68, 65, 66]⟩ else if op = 5 then ⟨#[68, 65, 66]⟩ else if op = 6 then ⟨#[68, 65, 66]⟩ else if op = 9 then ⟨#[68, 65, 66]⟩
  else if op = 7 then ⟨#[68]⟩ else if op = 10 then ⟨#[68, 78, 77]⟩
  else if op = 11 then ⟨#[68, 65, 78]⟩ else if op = 13 then ⟨#[68, 65, 78]⟩ else if op = 15 then ⟨#[68, 65, 78]⟩
  else if op = 12 then ⟨#[65, 78, 66]⟩ else if op = 14 then ⟨#[65, 78, 66]⟩ else if op = 16 then ⟨#[68, 65, 110]⟩ else if op = 18 then ⟨#[65, 66]⟩
  else if op = 19 then ⟨#[68, 78, 76]⟩ else if op = 20 then ⟨#[65]⟩ else if op = 23 then ⟨#[65]⟩ else if op = 21 then ⟨#[78]⟩ else if op = 22 then ⟨#[65, 78, 77]⟩ else ⟨#[]⟩
def signAt (s : ByteArray) (c : Int) (j : Nat) : Bool := ((((s[j]?).getD 0).toNat : Int) == c)
def sign (s : ByteArray) (c : Int) : Bool := anyFrom (signAt s c) s.size 0
/-- Has an operation a part? -/
def has (op c : Int) : Bool := sign (parts op) c
def within (n a b : Int) : Bool := decide (n ≥ a) && decide (n ≤ b)
def last (op : Int) : Bool := (op == 21) || ((op == 22) || (op == 23))
end U
def F81 (s : ByteArray) : CallF := fun f args sto => match f, args with
 | 79, [.v (.int _ n)] => some (.v (.string s), [], [])
 | _, _ => none
def L81 (b : Bool) : Nat → St → LT := fun id st => .by b (.is .ret (mkS 20 [(4, goB true)])) (.is (.exit 0) (mkS 20 []))

theorem t67 (n : Int) (a : Int) (b : Int) (r : AV × List Row × List Nat) : (runT Tryd.prog H (fun f args sto => CT.of (F0 f args sto)) L0 false 59 [goI n, goI a, goI b] [] fun q => q = r) = (TB (decide (n ≥ a)) ((goB (decide (n ≤ b)), [], []) = r) ((goB false, [], []) = r)) := by kernel_rfl
theorem t89 (n : Int) (r : AV × List Row × List Nat) : (runT Tryd.prog H (fun f args sto => CT.of (F0 f args sto)) L0 false 78 [goI n] [] fun q => q = r) = (TB (n == 21) ((goB true, [], []) = r) (TB (n == 22) ((goB true, [], []) = r) ((goB (n == 23), [], []) = r))) := by kernel_rfl
theorem t90 (n : Int) (r : AV × List Row × List Nat) : (runT Tryd.prog H (fun f args sto => CT.of (F0 f args sto)) L0 false 79 [goI n] [] fun q => q = r) = (TB (n == 1)
 ((AV.v
 (Value.string
 (ByteArray.mk
 (Array.mk
 [UInt8.ofBitVec (BitVec.ofFin (Fin.mk 68 (Nat.mod_lt 68 (BitVec.ofNat._proof_1 8)))),
 UInt8.ofBitVec (BitVec.ofFin (Fin.mk 110 (Nat.mod_lt 110 (BitVec.ofNat._proof_1 8))))]))),
 [], []) =
 r)
 (TB (n == 2)
 ((AV.v
 (Value.string
 (ByteArray.mk
 (Array.mk
 [UInt8.ofBitVec (BitVec.ofFin (Fin.mk 68 (Nat.mod_lt 68 (BitVec.ofNat._proof_1 8)))),
 UInt8.ofBitVec (BitVec.ofFin (Fin.mk 65 (Nat.mod_lt 65 (BitVec.ofNat._proof_1 8))))]))),
 [], []) =
 r)
 (TB (n == 8)
 ((AV.v
 (Value.string
 (ByteArray.mk
 (Array.mk
 [UInt8.ofBitVec (BitVec.ofFin (Fin.mk 68 (Nat.mod_lt 68 (BitVec.ofNat._proof_1 8)))),
 UInt8.ofBitVec (BitVec.ofFin (Fin.mk 65 (Nat.mod_lt 65 (BitVec.ofNat._proof_1 8))))]))),
 [], []) =
 r)
 (TB (n == 17)
 ((AV.v
 (Value.string
 (ByteArray.mk
 (Array.mk
 [UInt8.ofBitVec (BitVec.ofFin (Fin.mk 68 (Nat.mod_lt 68 (BitVec.ofNat._proof_1 8)))),
 UInt8.ofBitVec (BitVec.ofFin (Fin.mk 65 (Nat.mod_lt 65 (BitVec.ofNat._proof_1 8))))]))),
 [], []) =
 r)
 (TB (n == 3)
 ((AV.v
 (Value.string
 (ByteArray.mk
 (Array.mk
 [UInt8.ofBitVec (BitVec.ofFin (Fin.mk 68 (Nat.mod_lt 68 (BitVec.ofNat._proof_1 8)))),
 UInt8.ofBitVec (BitVec.ofFin (Fin.mk 65 (Nat.mod_lt 65 (BitVec.ofNat._proof_1 8)))),
 UInt8.ofBitVec (BitVec.ofFin (Fin.mk 66 (Nat.mod_lt 66 (BitVec.ofNat._proof_1 8))))]))),
 [], []) =
 r)
 (TB (n == 4)
 ((AV.v
 (Value.string
 (ByteArray.mk
 (Array.mk
 [UInt8.ofBitVec (BitVec.ofFin (Fin.mk 68 (Nat.mod_lt 68 (BitVec.ofNat._proof_1 8)))),
 UInt8.ofBitVec (BitVec.ofFin (Fin.mk 65 (Nat.mod_lt 65 (BitVec.ofNat._proof_1 8)))),
 UInt8.ofBitVec (BitVec.ofFin (Fin.mk 66 (Nat.mod_lt 66 (BitVec.ofNat._proof_1 8))))]))),
 [], []) =
 r)
 (TB (n == 5)
 ((AV.v
 (Value.string
 (ByteArray.mk
 (Array.mk
 [UInt8.ofBitVec (BitVec.ofFin (Fin.mk 68 (Nat.mod_lt 68 (BitVec.ofNat._proof_1 8)))),
 UInt8.ofBitVec (BitVec.ofFin (Fin.mk 65 (Nat.mod_lt 65 (BitVec.ofNat._proof_1 8)))),
 UInt8.ofBitVec (BitVec.ofFin (Fin.mk 66 (Nat.mod_lt 66 (BitVec.ofNat._proof_1 8))))]))),
 [], []) =
 r)
 (TB (n == 6)
 ((AV.v
 (Value.string
 (ByteArray.mk
 (Array.mk
 [UInt8.ofBitVec (BitVec.ofFin (Fin.mk 68 (Nat.mod_lt 68 (BitVec.ofNat._proof_1 8)))),
 UInt8.ofBitVec (BitVec.ofFin (Fin.mk 65 (Nat.mod_lt 65 (BitVec.ofNat._proof_1 8)))),
 UInt8.ofBitVec (BitVec.ofFin (Fin.mk 66 (Nat.mod_lt 66 (BitVec.ofNat._proof_1 8))))]))),
 [], []) =
 r)
 (TB (n == 9)
 ((AV.v
 (Value.string
 (ByteArray.mk
 (Array.mk
 [UInt8.ofBitVec (BitVec.ofFin (Fin.mk 68 (Nat.mod_lt 68 (BitVec.ofNat._proof_1 8)))),
 UInt8.ofBitVec (BitVec.ofFin (Fin.mk 65 (Nat.mod_lt 65 (BitVec.ofNat._proof_1 8)))),
 UInt8.ofBitVec (BitVec.ofFin (Fin.mk 66 (Nat.mod_lt 66 (BitVec.ofNat._proof_1 8))))]))),
 [], []) =
 r)
 (TB (n == 7)
 ((AV.v
 (Value.string
 (ByteArray.mk
 (Array.mk
 [UInt8.ofBitVec
 (BitVec.ofFin (Fin.mk 68 (Nat.mod_lt 68 (BitVec.ofNat._proof_1 8))))]))),
 [], []) =
 r)
 (TB (n == 10)
 ((AV.v
 (Value.string
 (ByteArray.mk
 (Array.mk
 [UInt8.ofBitVec (BitVec.ofFin (Fin.mk 68 (Nat.mod_lt 68 (BitVec.ofNat._proof_1 8)))),
 UInt8.ofBitVec (BitVec.ofFin (Fin.mk 78 (Nat.mod_lt 78 (BitVec.ofNat._proof_1 8)))),
 UInt8.ofBitVec
 (BitVec.ofFin (Fin.mk 77 (Nat.mod_lt 77 (BitVec.ofNat._proof_1 8))))]))),
 [], []) =
 r)
 (TB (n == 11)
 ((AV.v
 (Value.string
 (ByteArray.mk
 (Array.mk
 [UInt8.ofBitVec
 (BitVec.ofFin (Fin.mk 68 (Nat.mod_lt 68 (BitVec.ofNat._proof_1 8)))),
 UInt8.ofBitVec
 (BitVec.ofFin (Fin.mk 65 (Nat.mod_lt 65 (BitVec.ofNat._proof_1 8)))),
 UInt8.ofBitVec
 (BitVec.ofFin (Fin.mk 78 (Nat.mod_lt 78 (BitVec.ofNat._proof_1 8))))]))),
 [], []) =
 r)
 (TB (n == 13)
 ((AV.v
 (Value.string
 (ByteArray.mk
 (Array.mk
 [UInt8.ofBitVec
 (BitVec.ofFin (Fin.mk 68 (Nat.mod_lt 68 (BitVec.ofNat._proof_1 8)))),
 UInt8.ofBitVec
 (BitVec.ofFin (Fin.mk 65 (Nat.mod_lt 65 (BitVec.ofNat._proof_1 8)))),
 UInt8.ofBitVec
 (BitVec.ofFin (Fin.mk 78 (Nat.mod_lt 78 (BitVec.ofNat._proof_1 8))))]))),
 [], []) =
 r)
 (TB (n == 15)
 ((AV.v
 (Value.string
 (ByteArray.mk
 (Array.mk
 [UInt8.ofBitVec
 (BitVec.ofFin (Fin.mk 68 (Nat.mod_lt 68 (BitVec.ofNat._proof_1 8)))),
 UInt8.ofBitVec
 (BitVec.ofFin (Fin.mk 65 (Nat.mod_lt 65 (BitVec.ofNat._proof_1 8)))),
 UInt8.ofBitVec
 (BitVec.ofFin (Fin.mk 78 (Nat.mod_lt 78 (BitVec.ofNat._proof_1 8))))]))),
 [], []) =
 r)
 (TB (n == 12)
 ((AV.v
 (Value.string
 (ByteArray.mk
 (Array.mk
 [UInt8.ofBitVec
 (BitVec.ofFin (Fin.mk 65 (Nat.mod_lt 65 (BitVec.ofNat._proof_1 8)))),
 UInt8.ofBitVec
 (BitVec.ofFin (Fin.mk 78 (Nat.mod_lt 78 (BitVec.ofNat._proof_1 8)))),
 UInt8.ofBitVec
 (BitVec.ofFin (Fin.mk 66 (Nat.mod_lt 66 (BitVec.ofNat._proof_1 8))))]))),
 [], []) =
 r)
 (TB (n == 14)
 ((AV.v
 (Value.string
 (ByteArray.mk
 (Array.mk
 [UInt8.ofBitVec
 (BitVec.ofFin (Fin.mk 65 (Nat.mod_lt 65 (BitVec.ofNat._proof_1 8)))),
 UInt8.ofBitVec
 (BitVec.ofFin (Fin.mk 78 (Nat.mod_lt 78 (BitVec.ofNat._proof_1 8)))),
 UInt8.ofBitVec
 (BitVec.ofFin
 (Fin.mk 66 (Nat.mod_lt 66 (BitVec.ofNat._proof_1 8))))]))),
 [], []) =
 r)
 (TB (n == 16)
 ((AV.v
 (Value.string
 (ByteArray.mk
 (Array.mk
 [UInt8.ofBitVec
 (BitVec.ofFin (Fin.mk 68 (Nat.mod_lt 68 (BitVec.ofNat._proof_1 8)))),
 UInt8.ofBitVec
 (BitVec.ofFin (Fin.mk 65 (Nat.mod_lt 65 (BitVec.ofNat._proof_1 8)))),
 UInt8.ofBitVec
 (BitVec.ofFin
 (Fin.mk 110 (Nat.mod_lt 110 (BitVec.ofNat._proof_1 8))))]))),
 [], []) =
 r)
 (TB (n == 18)
 ((AV.v
 (Value.string
 (ByteArray.mk
 (Array.mk
 [UInt8.ofBitVec
 (BitVec.ofFin
 (Fin.mk 65 (Nat.mod_lt 65 (BitVec.ofNat._proof_1 8)))),
 UInt8.ofBitVec
 (BitVec.ofFin
 (Fin.mk 66 (Nat.mod_lt 66 (BitVec.ofNat._proof_1 8))))]))),
 [], []) =
 r)
 (TB (n == 19)
 ((AV.v
 (Value.string
 (ByteArray.mk
 (Array.mk
 [UInt8.ofBitVec
 (BitVec.ofFin
 (Fin.mk 68 (Nat.mod_lt 68 (BitVec.ofNat._proof_1 8)))),
 UInt8.ofBitVec
 (BitVec.ofFin
 (Fin.mk 78 (Nat.mod_lt 78 (BitVec.ofNat._proof_1 8)))),
 UInt8.ofBitVec
 (BitVec.ofFin
 (Fin.mk 76 (Nat.mod_lt 76 (BitVec.ofNat._proof_1 8))))]))),
 [], []) =
 r)
 (TB (n == 20)
 ((AV.v
 (Value.string
 (ByteArray.mk
 (Array.mk
 [UInt8.ofBitVec
 (BitVec.ofFin
 (Fin.mk 65 (Nat.mod_lt 65 (BitVec.ofNat._proof_1 8))))]))),
 [], []) =
 r)
 (TB (n == 23)
 ((AV.v
 (Value.string
 (ByteArray.mk
 (Array.mk
 [UInt8.ofBitVec
 (BitVec.ofFin
 (Fin.mk 65 (Nat.mod_lt 65 (BitVec.ofNat._proof_1 8))))]))),
 [], []) =
 r)
 (TB (n == 21)
 ((AV.v
 (Value.string
 (ByteArray.mk
 (Array.mk
 [UInt8.ofBitVec
 (BitVec.ofFin
 (Fin.mk 78
 (Nat.mod_lt 78 (BitVec.ofNat._proof_1 8))))]))),
 [], []) =
 r)
 (TB (n == 22)
 ((AV.v
 (Value.string
 (ByteArray.mk
 (Array.mk
 [UInt8.ofBitVec
 (BitVec.ofFin
 (Fin.mk 65 (Nat.mod_lt 65 (BitVec.ofNat._proof_1 8)))),
 UInt8.ofBitVec
 (BitVec.ofFin
 (Fin.mk 78 (Nat.mod_lt 78 (BitVec.ofNat._proof_1 8)))),
 UInt8.ofBitVec
 (BitVec.ofFin
 (Fin.mk 77
 (Nat.mod_lt 77 (BitVec.ofNat._proof_1 8))))]))),
 [], []) =
 r)
 ((AV.v (Value.string (ByteArray.mk (Array.mk []))), [], []) =
 r)))))))))))))))))))))))) := by kernel_rfl
theorem t81 (op : Int) (c : Int) (s : ByteArray) (b : Bool) (r : AV × List Row × List Nat) : (runT Tryd.prog H (fun f args sto => CT.of (F81 s f args sto)) (L81 b) false 101 [goI op, AV.v (Value.int IntKind.u8 c)] []
 fun q => q = r) = (Wf Tryd.prog H 79 [goI op] [] = some (AV.v (Value.string s), [], []) ∧
 TB b
 (LoopTo Tryd.prog H (H 101) 0 (loopOf Tryd.prog 101 3)
 (mkS 20 [(1, AV.v (Value.int IntKind.u8 c)), (5, AV.v (Value.string s)), (6, goI 0)])
 (Ex.ret, mkS 20 [(4, goB true)]) ∧
 (goB true, [], []) = r)
 (LoopTo Tryd.prog H (H 101) 0 (loopOf Tryd.prog 101 3)
 (mkS 20 [(1, AV.v (Value.int IntKind.u8 c)), (5, AV.v (Value.string s)), (6, goI 0)]) (Ex.exit 0, mkS 20 []) ∧
 (goB false, [], []) = r)) := by kernel_rfl
theorem t81_3 (s : ByteArray) (c : Int) (i : Nat) (r : Ex × St) : (turnT Tryd.prog H (fun f args sto => CT.of (F0 f args sto)) L0 false (H 101) 0 (loopOf Tryd.prog 101 3)
 (mkS 20 [(1, AV.v (Value.int IntKind.u8 c)), (5, AV.v (Value.string s)), (6, goI (↑i : Int))]) r) = (TB (decide ((↑i : Int) < (↑(ByteArray.size s) : Int)))
 ((0 ≤ (↑i : Int) ∧ i < ByteArray.size s) ∧
 TB
 ((↑(UInt8.toNat
 (Option.getD s[i]? (UInt8.ofBitVec (BitVec.ofFin (Fin.mk 0 (Nat.mod_lt 0 (BitVec.ofNat._proof_1 8))))))) :
 Int) ==
 c)
 ((Ex.ret, mkS 20 [(4, goB true)]) = r)
 (LoopTo Tryd.prog H (H 101) 0 (loopOf Tryd.prog 101 3)
 (mkS 20
 [(1, AV.v (Value.int IntKind.u8 c)), (5, AV.v (Value.string s)),
 (6, goI (IntKind.wrap IntKind.i64 ((↑i : Int) + 1)))])
 r))
 ((Ex.exit 0, mkS 20 []) = r)) := by kernel_rfl
theorem anyFrom_step (p : Nat → Bool) (d i : Nat) : U.anyFrom p (d + 1) i = (p i || U.anyFrom p d (i + 1)) := rfl
theorem anyFrom_iff (p : Nat → Bool) : ∀ d i, U.anyFrom p d i = true ↔ ∃ j, i ≤ j ∧ j < i + d ∧ p j = true
  | 0, i => by simp [U.anyFrom]; intros; omega
  | d + 1, i => by
    rw [anyFrom_step, Bool.or_eq_true, anyFrom_iff p d (i + 1)]
    constructor
    · rintro (h | ⟨j, h1, h2, h3⟩)
      · exact ⟨i, Nat.le_refl _, by omega, h⟩
      · exact ⟨j, by omega, by omega, h3⟩
    · rintro ⟨j, h1, h2, h3⟩
      by_cases e : j = i
      · subst e; exact Or.inl h3
      · exact Or.inr ⟨j, by omega, by omega, h3⟩
theorem wf67 (n a b : Int) : Wf Tryd.prog H 59 [goI n, goI a, goI b] [] = some (goB (U.within n a b), [], []) := by
  refine runK (t67 n a b _) ?_
  unfold U.within
  by_cases h : n ≥ a
  · rw [decide_eq_true h]; exact rfl
  · rw [decide_eq_false h]; exact rfl
theorem within_iff (n a b : Int) : U.within n a b = true ↔ a ≤ n ∧ n ≤ b := by
  unfold U.within
  rw [Bool.and_eq_true, decide_eq_true_eq, decide_eq_true_eq]
theorem wf89 (n : Int) : Wf Tryd.prog H 78 [goI n] [] = some (goB (U.last n), [], []) := by
  refine runK (t89 n _) ?_
  unfold U.last
  cases h : (n == 21) with
  | true => exact rfl
  | false =>
    cases h2 : (n == 22) with
    | true => exact rfl
    | false => exact rfl
theorem wf90 (n : Int) : Wf Tryd.prog H 79 [goI n] [] = some (.v (.string (U.parts n)), [], []) := by
  refine runK (t90 n _) ?_
  unfold U.parts
  by_cases h1 : n = 1
  · rw [if_pos h1, beq_iff_eq.2 h1]; exact rfl
  rw [if_neg h1, beq_eq_false_iff_ne.2 h1]
  by_cases h2 : n = 2
  · rw [if_pos h2, beq_iff_eq.2 h2]; exact rfl
  rw [if_neg h2, beq_eq_false_iff_ne.2 h2]
  by_cases h8 : n = 8
  · rw [if_pos h8, beq_iff_eq.2 h8]; exact rfl
  rw [if_neg h8, beq_eq_false_iff_ne.2 h8]
  by_cases h17 : n = 17
  · rw [if_pos h17, beq_iff_eq.2 h17]; exact rfl
  rw [if_neg h17, beq_eq_false_iff_ne.2 h17]
  by_cases h3 : n = 3
  · rw [if_pos h3, beq_iff_eq.2 h3]; exact rfl
  rw [if_neg h3, beq_eq_false_iff_ne.2 h3]
  by_cases h4 : n = 4
  · rw [if_pos h4, beq_iff_eq.2 h4]; exact rfl
  rw [if_neg h4, beq_eq_false_iff_ne.2 h4]
  by_cases h5 : n = 5
  · rw [if_pos h5, beq_iff_eq.2 h5]; exact rfl
  rw [if_neg h5, beq_eq_false_iff_ne.2 h5]
  by_cases h6 : n = 6
  · rw [if_pos h6, beq_iff_eq.2 h6]; exact rfl
  rw [if_neg h6, beq_eq_false_iff_ne.2 h6]
  by_cases h9 : n = 9
  · rw [if_pos h9, beq_iff_eq.2 h9]; exact rfl
  rw [if_neg h9, beq_eq_false_iff_ne.2 h9]
  by_cases h7 : n = 7
  · rw [if_pos h7, beq_iff_eq.2 h7]; exact rfl
  rw [if_neg h7, beq_eq_false_iff_ne.2 h7]
  by_cases h10 : n = 10
  · rw [if_pos h10, beq_iff_eq.2 h10]; exact rfl
  rw [if_neg h10, beq_eq_false_iff_ne.2 h10]
  by_cases h11 : n = 11
  · rw [if_pos h11, beq_iff_eq.2 h11]; exact rfl
  rw [if_neg h11, beq_eq_false_iff_ne.2 h11]
  by_cases h13 : n = 13
  · rw [if_pos h13, beq_iff_eq.2 h13]; exact rfl
  rw [if_neg h13, beq_eq_false_iff_ne.2 h13]
  by_cases h15 : n = 15
  · rw [if_pos h15, beq_iff_eq.2 h15]; exact rfl
  rw [if_neg h15, beq_eq_false_iff_ne.2 h15]
  by_cases h12 : n = 12
  · rw [if_pos h12, beq_iff_eq.2 h12]; exact rfl
  rw [if_neg h12, beq_eq_false_iff_ne.2 h12]
  by_cases h14 : n = 14
  · rw [if_pos h14, beq_iff_eq.2 h14]; exact rfl
  rw [if_neg h14, beq_eq_false_iff_ne.2 h14]
  by_cases h16 : n = 16
  · rw [if_pos h16, beq_iff_eq.2 h16]; exact rfl
  rw [if_neg h16, beq_eq_false_iff_ne.2 h16]
  by_cases h18 : n = 18
  · rw [if_pos h18, beq_iff_eq.2 h18]; exact rfl
  rw [if_neg h18, beq_eq_false_iff_ne.2 h18]
  by_cases h19 : n = 19
  · rw [if_pos h19, beq_iff_eq.2 h19]; exact rfl
  rw [if_neg h19, beq_eq_false_iff_ne.2 h19]
  by_cases h20 : n = 20
  · rw [if_pos h20, beq_iff_eq.2 h20]; exact rfl
  rw [if_neg h20, beq_eq_false_iff_ne.2 h20]
  by_cases h23 : n = 23
  · rw [if_pos h23, beq_iff_eq.2 h23]; exact rfl
  rw [if_neg h23, beq_eq_false_iff_ne.2 h23]
  by_cases h21 : n = 21
  · rw [if_pos h21, beq_iff_eq.2 h21]; exact rfl
  rw [if_neg h21, beq_eq_false_iff_ne.2 h21]
  by_cases h22 : n = 22
  · rw [if_pos h22, beq_iff_eq.2 h22]; exact rfl
  rw [if_neg h22, beq_eq_false_iff_ne.2 h22]
  exact rfl
theorem size_ite {c : Prop} [Decidable c] {a b : ByteArray} (ha : a.size ≤ 3) (hb : b.size ≤ 3) : (if c then a else b).size ≤ 3 := by
  by_cases h : c
  · rw [if_pos h]; exact ha
  · rw [if_neg h]; exact hb
theorem parts_short (n : Int) : (U.parts n).size ≤ 3 := by
  unfold U.parts
  repeat' (first | apply size_ite | exact (by decide))
theorem loop81_3 (s : ByteArray) (c : Int) (hs : s.size ≤ 3) : ∀ (d i : Nat), i + d = s.size →
    LoopTo Tryd.prog H (H 101) 0 (loopOf Tryd.prog 101 3) (mkS 20 [(1, .v (.int .u8 c)), (5, .v (.string s)), (6, goI i)]) (if U.anyFrom (U.signAt s c) d i then (.ret, mkS 20 [(4, goB true)]) else (.exit 0, mkS 20 []))
  | 0, i, hd => by
    refine turnK (t81_3 s c i _) ?_
    rw [decide_eq_false (by omega)]
    exact rfl
  | d + 1, i, hd => by
    have ih := loop81_3 s c hs d (i + 1) (by omega)
    have hi : i < s.size := by omega
    refine turnK (t81_3 s c i _) ?_
    rw [decide_eq_true (by omega), wrapS hi (by omega), anyFrom_step]
    refine ⟨⟨by omega, by omega⟩, ?_⟩
    change TB (U.signAt s c i) _ _
    cases U.signAt s c i with
    | true => exact rfl
    | false => exact ih
theorem wf81 (n c : Int) : Wf Tryd.prog H 101 [goI n, .v (.int .u8 c)] [] = some (goB (U.has n c), [], []) := by
  refine runK (t81 n c (U.parts n) (U.has n c) _) ⟨wf90 n, ?_⟩
  have h := loop81_3 (U.parts n) c (parts_short n) (U.parts n).size 0 (by omega)
  have e : U.anyFrom (U.signAt (U.parts n) c) (U.parts n).size 0 = U.has n c := rfl
  rw [e] at h
  cases hb : U.has n c with
  | true => rw [hb] at h; exact ⟨h, rfl⟩
  | false => rw [hb] at h; exact ⟨h, rfl⟩
end Go.Proofs.YtabdcfcnngnnoaaDoor.E
