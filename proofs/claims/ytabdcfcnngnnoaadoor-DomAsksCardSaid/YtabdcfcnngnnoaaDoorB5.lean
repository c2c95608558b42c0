/- A set's numbers, told one by one: the plain law. No program here. -/
import Derived.Test.YtabdcfcnngnnoaaDoorB0
import Derived.Test.YtabdcfcnngnnoaaDoorD2x
import Derived.Lib.TrailingZeros
set_option linter.unusedVariables false
set_option linter.unusedSimpArgs false
namespace Go.Proofs.YtabdcfcnngnnoaaDoor.E
open Go
namespace Bit
theorem and_split (p a b c d : Nat) (hc : c < 2 ^ p) (hd : d < 2 ^ p) : (2 ^ p * a + c) &&& (2 ^ p * b + d) = 2 ^ p * (a &&& b) + (c &&& d) := by
  refine Nat.eq_of_testBit_eq fun i => ?_
  have hcd : c &&& d < 2 ^ p := Nat.and_lt_two_pow _ hd
  rw [Nat.testBit_and, Nat.testBit_two_pow_mul_add _ hc, Nat.testBit_two_pow_mul_add _ hd, Nat.testBit_two_pow_mul_add _ hcd]
  by_cases h : i < p
  · rw [if_pos h, if_pos h, if_pos h, Nat.testBit_and]
  · rw [if_neg h, if_neg h, if_neg h, Nat.testBit_and]
/-- Masks: one field of w bits out of 2w. -/
def mk1 : Nat → Nat
  | 0 => 0
  | k + 1 => 4 * mk1 k + 1
def mk2 : Nat → Nat
  | 0 => 0
  | k + 1 => 16 * mk2 k + 3
def mk3 : Nat → Nat
  | 0 => 0
  | k + 1 => 256 * mk3 k + 15
/-- The numbers of a word. -/
def bitsOf (n x : Nat) : List Nat := (List.range n).filter fun i => x.testBit i
theorem range_split {n c : Nat} (h : c < n) : List.range n = List.range c ++ c :: (List.range (n - c - 1)).map (fun j => c + 1 + j) := by
  have e : n = c + (1 + (n - c - 1)) := by omega
  generalize n - c - 1 = m at *
  subst e
  rw [List.range_add, List.range_add, List.range_one, List.map_append, List.map_singleton, List.map_map, Nat.add_zero, List.singleton_append]
  congr 2
  refine List.map_congr_left fun j _ => ?_
  simp only [Function.comp_apply]
  omega
theorem filter_first {n c : Nat} {p q : Nat → Bool} (hc : c < n) (h1 : p c = true) (h0 : ∀ i, i < c → p i = false) (hq : ∀ i, q i = (p i && decide (i ≠ c))) : (List.range n).filter p = c :: (List.range n).filter q := by
  rw [range_split hc, List.filter_append, List.filter_append, List.filter_cons, List.filter_cons]
  have e1 : (List.range c).filter p = [] := List.filter_eq_nil_iff.2 fun i hi => by rw [h0 i (List.mem_range.1 hi)]; decide
  have e2 : (List.range c).filter q = [] := List.filter_eq_nil_iff.2 fun i hi => by rw [hq, h0 i (List.mem_range.1 hi), Bool.false_and]; decide
  have e3 : q c = false := by rw [hq]; simp
  rw [e1, e2, h1, e3, if_pos rfl, if_neg (by decide), List.nil_append, List.nil_append]
  congr 1
  refine List.filter_congr fun i hi => ?_
  obtain ⟨j, _, rfl⟩ := List.mem_map.1 hi
  rw [hq, decide_eq_true (by omega), Bool.and_true]
theorem low_form {x : Nat} (h0 : x ≠ 0) (h : x < 2 ^ 64) : ∃ m, x = 2 ^ Lib.ctz 64 x * (2 * m + 1) ∧ Lib.ctz 64 x < 64 := by
  have e : Lib.ctz 64 x = Lib.ctzFrom 64 x := by unfold Lib.ctz; rw [if_neg h0]
  rw [e]
  exact Lib.ctzFrom_spec 64 x (by omega) h
theorem low_and (c m : Nat) : (2 ^ c * (2 * m + 1)) &&& (2 ^ c * (2 * m + 1) - 1) = 2 ^ c * (2 * m) := by
  have hp : 0 < 2 ^ c := Nat.two_pow_pos c
  have e : 2 ^ c * (2 * m + 1) - 1 = 2 ^ c * (2 * m) + (2 ^ c - 1) := by rw [Nat.mul_add]; omega
  have h := and_split c (2 * m + 1) (2 * m) 0 (2 ^ c - 1) hp (by omega)
  have h1 : (2 * m + 1) &&& (2 * m) = 2 * m := by
    have := and_split 1 m m 1 0 (by decide) (by decide)
    simpa using this
  rw [Nat.add_zero] at h
  rw [e, h, h1]
  simp
theorem low_bits (c m i : Nat) : (2 ^ c * (2 * m)).testBit i = ((2 ^ c * (2 * m + 1)).testBit i && decide (i ≠ c)) := by
  have h1 := Nat.testBit_two_pow_mul_add (i := c) (2 * m) (b := 0) (Nat.two_pow_pos c) i
  have h2 := Nat.testBit_two_pow_mul_add (i := c) (2 * m + 1) (b := 0) (Nat.two_pow_pos c) i
  rw [Nat.add_zero] at h1 h2
  rw [h1, h2]
  by_cases h : i < c
  · rw [if_pos h, if_pos h, Nat.zero_testBit, Bool.false_and]
  · rw [if_neg h, if_neg h]
    rcases Nat.eq_or_lt_of_le (Nat.le_of_not_lt h) with e | e
    · subst e
      rw [Nat.sub_self, Nat.testBit_zero, Nat.testBit_zero]
      simp
    · obtain ⟨j, hj⟩ : ∃ j, i - c = j + 1 := ⟨i - c - 1, by omega⟩
      rw [hj, Nat.testBit_succ, Nat.testBit_succ, decide_eq_true (by omega), Bool.and_true]
      congr 1
      omega
theorem low_none (c m i : Nat) (h : i < c) : (2 ^ c * (2 * m + 1)).testBit i = false := by
  have h2 := Nat.testBit_two_pow_mul_add (i := c) (2 * m + 1) (b := 0) (Nat.two_pow_pos c) i
  rw [Nat.add_zero] at h2
  rw [h2, if_pos h, Nat.zero_testBit]
theorem low_there (c m : Nat) : (2 ^ c * (2 * m + 1)).testBit c = true := by
  have h2 := Nat.testBit_two_pow_mul_add (i := c) (2 * m + 1) (b := 0) (Nat.two_pow_pos c) c
  rw [Nat.add_zero] at h2
  rw [h2, if_neg (Nat.lt_irrefl _), Nat.sub_self, Nat.testBit_zero]
  simp
/-- The lowest number of a word, and the rest. -/
theorem bits_first {x : Nat} (h0 : x ≠ 0) (h : x < 2 ^ 64) : bitsOf 64 x = Lib.ctz 64 x :: bitsOf 64 (x &&& (x - 1)) := by
  obtain ⟨m, hm, hc⟩ := low_form h0 h
  generalize Lib.ctz 64 x = c at *
  subst hm
  rw [low_and]
  exact filter_first hc (low_there c m) (fun i hi => low_none c m i hi) (fun i => low_bits c m i)
theorem bits_none {x : Nat} (h : x < 2 ^ 64) (hb : bitsOf 64 x = []) : x = 0 := by
  rcases Nat.eq_zero_or_pos x with h0 | h0
  · exact h0
  · rw [bits_first (by omega) h] at hb; cases hb
/-- A set's numbers. -/
def numsL (l : List Int) (n : Nat) : List Nat := (List.range (64 * n)).filter fun i => tb l i
theorem numsL_succ (l : List Int) (n : Nat) : numsL l (n + 1) = numsL l n ++ (bitsOf 64 (l.getD n 0).toNat).map fun b => 64 * n + b := by
  unfold numsL bitsOf
  rw [show 64 * (n + 1) = 64 * n + 64 from by omega, List.range_add, List.filter_append, List.filter_map]
  congr 2
  refine List.filter_congr fun b hb => ?_
  have hb' := List.mem_range.1 hb
  simp only [Function.comp_apply, tb]
  rw [show (64 * n + b) / 64 = n from by omega, show (64 * n + b) % 64 = b from by omega]
theorem numsL_length (l : List Int) (n : Nat) : (numsL l n).length ≤ 64 * n := by
  unfold numsL
  have := List.length_filter_le (fun i => tb l i) (List.range (64 * n))
  simpa using this
def toI (l : List Nat) : List Int := l.map fun n : Nat => (n : Int)
theorem clear_low {x : Nat} (h0 : x ≠ 0) (h : x < 18446744073709551616) : bitsU .and (x : Int) (IntKind.u64.wrap ((x : Int) - 1)) = ((x &&& (x - 1) : Nat) : Int) := by
  have e : IntKind.u64.wrap ((x : Int) - 1) = ((x - 1 : Nat) : Int) := by
    rw [show (x : Int) - 1 = ((x - 1 : Nat) : Int) from by omega]
    exact wrapU (Int.natCast_nonneg _) (lt_cast (by omega))
  have h2 := bits_and (x := (x : Int)) (y := ((x - 1 : Nat) : Int)) ⟨Int.natCast_nonneg _, lt_cast h⟩ ⟨Int.natCast_nonneg _, lt_cast (by omega)⟩
  rw [Int.toNat_natCast, Int.toNat_natCast] at h2
  rw [e, h2]
theorem bitsOf_len (n x : Nat) : (bitsOf n x).length ≤ n := by
  unfold bitsOf
  have := List.length_filter_le (fun i => x.testBit i) (List.range n)
  simpa using this
theorem mem_nums {l : List Int} {n : Nat} : n ∈ numsL l l.length ↔ tb l n = true := by
  unfold numsL
  rw [List.mem_filter, List.mem_range]
  refine ⟨fun h => h.2, fun h => ⟨?_, h⟩⟩
  apply Nat.lt_of_not_le
  intro hle
  rw [tb_ge (by omega)] at h
  cases h
theorem nums_sorted (l : List Int) (n : Nat) : (numsL l n).Pairwise (· < ·) := List.Pairwise.filter _ List.pairwise_lt_range
theorem toI_len (l : List Nat) : (toI l).length = l.length := List.length_map _
theorem toI_append (a b : List Nat) : toI (a ++ b) = toI a ++ toI b := List.map_append
/-- As the numbers that a test holds of. -/
theorem sel_range (p : Nat → Bool) : ∀ (d i : Nat), toI ((List.range' i d).filter p) = U.selP p d i
  | 0, i => rfl
  | d + 1, i => by
    rw [List.range'_succ, List.filter_cons]
    unfold U.selP
    rw [← sel_range p d (i + 1)]
    cases p i with
    | true => rfl
    | false => rfl
theorem nums_sel (l : List Int) (n : Nat) : toI (numsL l n) = U.selP (tb l) (64 * n) 0 := by
  unfold numsL
  rw [List.range_eq_range', sel_range]
end Bit
end Go.Proofs.YtabdcfcnngnnoaaDoor.E
