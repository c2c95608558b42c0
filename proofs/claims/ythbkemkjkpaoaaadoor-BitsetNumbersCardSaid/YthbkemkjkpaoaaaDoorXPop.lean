/- How many bits a word has: the sum over fields that double in width comes to the number of bits. -/
import Derived.Test.YthbkemkjkpaoaaaDoorXBits
set_option linter.unusedVariables false
set_option linter.unusedSimpArgs false
namespace Go.Proofs.YthbkemkjkpaoaaaDoor.Bit
open Go Go.RowKit Go.Proofs.YthbkemkjkpaoaaaDoorW.PrintWords Go.Proofs.YthbkemkjkpaoaaaDoorW.PrintMore
/-- The number of bits of the lowest n. -/
def pc : Nat → Nat → Nat
  | 0, _ => 0
  | n + 1, x => x % 2 + pc n (x / 2)
theorem and_split (p a b c d : Nat) (hc : c < 2 ^ p) (hd : d < 2 ^ p) : (2 ^ p * a + c) &&& (2 ^ p * b + d) = 2 ^ p * (a &&& b) + (c &&& d) := by
  refine Nat.eq_of_testBit_eq fun i => ?_
  have hcd : c &&& d < 2 ^ p := Nat.and_lt_two_pow _ hd
  rw [Nat.testBit_and, Nat.testBit_two_pow_mul_add _ hc, Nat.testBit_two_pow_mul_add _ hd, Nat.testBit_two_pow_mul_add _ hcd]
  by_cases h : i < p
  · rw [if_pos h, if_pos h, if_pos h, Nat.testBit_and]
  · rw [if_neg h, if_neg h, if_neg h, Nat.testBit_and]
/-- Masks: one field of w bits out of 2w. -/
def mk1 : Nat → Nat
  | 0 => 0
  | k + 1 => 4 * mk1 k + 1
def mk2 : Nat → Nat
  | 0 => 0
  | k + 1 => 16 * mk2 k + 3
def mk3 : Nat → Nat
  | 0 => 0
  | k + 1 => 256 * mk3 k + 15
theorem mk1_32 : mk1 32 = 6148914691236517205 := by decide
theorem mk2_16 : mk2 16 = 3689348814741910323 := by decide
theorem mk3_8 : mk3 8 = 1085102592571150095 := by decide
/-- Fields' sums. -/
def g1 : Nat → Nat → Nat
  | 0, _ => 0
  | k + 1, x => 4 * g1 k (x / 4) + (x % 2 + x / 2 % 2)
def g2 : Nat → Nat → Nat
  | 0, _ => 0
  | k + 1, x => 16 * g2 k (x / 16) + (x % 4 + x / 4 % 4)
def g3 : Nat → Nat → Nat
  | 0, _ => 0
  | k + 1, x => 256 * g3 k (x / 256) + (x % 16 + x / 16 % 16)
theorem and_low1 (x : Nat) : x &&& 1 = x % 2 := Nat.and_one_is_mod x
theorem and_low3 (x : Nat) : x &&& 3 = x % 4 := Nat.and_two_pow_sub_one_eq_mod x 2
theorem and_low15 (x : Nat) : x &&& 15 = x % 16 := Nat.and_two_pow_sub_one_eq_mod x 4
theorem step1 : ∀ (k x : Nat), x < 4 ^ k → (x / 2 &&& mk1 k) + (x &&& mk1 k) = g1 k x
  | 0, x, h => by simp [mk1, g1]
  | k + 1, x, h => by
    have h4 : x / 4 < 4 ^ k := by rw [Nat.pow_succ] at h; omega
    have ih := step1 k (x / 4) h4
    have e1 : x = 2 ^ 2 * (x / 4) + x % 4 := by omega
    have e2 : x / 2 = 2 ^ 2 * (x / 4 / 2) + x / 2 % 4 := by omega
    have m : mk1 (k + 1) = 2 ^ 2 * mk1 k + 1 := rfl
    have a1 : x &&& mk1 (k + 1) = 4 * (x / 4 &&& mk1 k) + x % 4 % 2 := by
      have h := and_split 2 (x / 4) (mk1 k) (x % 4) 1 (by omega) (by decide)
      rw [show 2 ^ 2 * (x / 4) + x % 4 = x from by omega, and_low1] at h
      exact h
    have a2 : x / 2 &&& mk1 (k + 1) = 4 * (x / 4 / 2 &&& mk1 k) + x / 2 % 4 % 2 := by
      have h := and_split 2 (x / 4 / 2) (mk1 k) (x / 2 % 4) 1 (by omega) (by decide)
      rw [show 2 ^ 2 * (x / 4 / 2) + x / 2 % 4 = x / 2 from by omega, and_low1] at h
      exact h
    rw [a1, a2]
    show _ = 4 * g1 k (x / 4) + (x % 2 + x / 2 % 2)
    rw [← ih]
    omega
theorem step2 : ∀ (k x : Nat), x < 16 ^ k → (x / 4 &&& mk2 k) + (x &&& mk2 k) = g2 k x
  | 0, x, h => by simp [mk2, g2]
  | k + 1, x, h => by
    have h4 : x / 16 < 16 ^ k := by rw [Nat.pow_succ] at h; omega
    have ih := step2 k (x / 16) h4
    have e1 : x = 2 ^ 4 * (x / 16) + x % 16 := by omega
    have e2 : x / 4 = 2 ^ 4 * (x / 16 / 4) + x / 4 % 16 := by omega
    have m : mk2 (k + 1) = 2 ^ 4 * mk2 k + 3 := rfl
    have a1 : x &&& mk2 (k + 1) = 16 * (x / 16 &&& mk2 k) + x % 16 % 4 := by
      have h := and_split 4 (x / 16) (mk2 k) (x % 16) 3 (by omega) (by decide)
      rw [show 2 ^ 4 * (x / 16) + x % 16 = x from by omega, and_low3] at h
      exact h
    have a2 : x / 4 &&& mk2 (k + 1) = 16 * (x / 16 / 4 &&& mk2 k) + x / 4 % 16 % 4 := by
      have h := and_split 4 (x / 16 / 4) (mk2 k) (x / 4 % 16) 3 (by omega) (by decide)
      rw [show 2 ^ 4 * (x / 16 / 4) + x / 4 % 16 = x / 4 from by omega, and_low3] at h
      exact h
    rw [a1, a2]
    show _ = 16 * g2 k (x / 16) + (x % 4 + x / 4 % 4)
    rw [← ih]
    omega
/-- All fields of four bits are at most 4. -/
def small4 : Nat → Nat → Prop
  | 0, _ => True
  | k + 1, x => x % 16 ≤ 4 ∧ small4 k (x / 16)
theorem step3 : ∀ (k x : Nat), small4 (2 * k) x → x < 256 ^ k → (x / 16 + x) &&& mk3 k = g3 k x
  | 0, x, _, h => by simp [mk3, g3]
  | k + 1, x, hs, h => by
    have h4 : x / 256 < 256 ^ k := by rw [Nat.pow_succ] at h; omega
    have hs' : x % 16 ≤ 4 ∧ x / 16 % 16 ≤ 4 ∧ small4 (2 * k) (x / 16 / 16) := hs
    have hs2 : small4 (2 * k) (x / 256) := by have := hs'.2.2; rwa [Nat.div_div_eq_div_mul] at this
    have ih := step3 k (x / 256) hs2 h4
    have hq : x / 256 % 16 ≤ 15 := by omega
    have m : mk3 (k + 1) = 2 ^ 8 * mk3 k + 15 := rfl
    have hq4 : x / 256 % 16 ≤ 4 ∨ k = 0 := by
      cases k with
      | zero => exact .inr rfl
      | succ k => exact .inl hs2.1
    have hq4' : x / 256 % 16 ≤ 4 := by
      rcases hq4 with h | h
      · exact h
      · subst h; have : x / 256 = 0 := by omega
        omega
    have e1 : x / 16 + x = 2 ^ 8 * (x / 256 / 16 + x / 256) + (16 * (x / 256 % 16) + x % 256 / 16 + x % 256) := by omega
    rw [m, e1, and_split 8 _ _ _ _ (by omega) (by decide), and_low15, ih]
    show _ = 256 * g3 k (x / 256) + (x % 16 + x / 16 % 16)
    omega
/-- Sums of the fields. -/
def t1 : Nat → Nat → Nat
  | 0, _ => 0
  | k + 1, x => x % 4 + t1 k (x / 4)
def t2 : Nat → Nat → Nat
  | 0, _ => 0
  | k + 1, x => x % 16 + t2 k (x / 16)
def t3 : Nat → Nat → Nat
  | 0, _ => 0
  | k + 1, x => x % 256 + t3 k (x / 256)
theorem t1_g1 : ∀ (k x : Nat), t1 k (g1 k x) = pc (2 * k) x
  | 0, x => rfl
  | k + 1, x => by
    show (4 * g1 k (x / 4) + (x % 2 + x / 2 % 2)) % 4 + t1 k ((4 * g1 k (x / 4) + (x % 2 + x / 2 % 2)) / 4) = x % 2 + (x / 2 % 2 + pc (2 * k) (x / 2 / 2))
    rw [show (4 * g1 k (x / 4) + (x % 2 + x / 2 % 2)) / 4 = g1 k (x / 4) from by omega, t1_g1 k (x / 4), Nat.div_div_eq_div_mul, show 2 * 2 = 4 from rfl]
    omega
/-- All fields of two bits are at most 2. -/
def small2 : Nat → Nat → Prop
  | 0, _ => True
  | k + 1, x => x % 4 ≤ 2 ∧ small2 k (x / 4)
theorem small_g1 : ∀ (k x : Nat), small2 k (g1 k x)
  | 0, _ => trivial
  | k + 1, x => by
    refine ⟨?_, ?_⟩
    · show (4 * g1 k (x / 4) + (x % 2 + x / 2 % 2)) % 4 ≤ 2; omega
    · show small2 k ((4 * g1 k (x / 4) + (x % 2 + x / 2 % 2)) / 4)
      rw [show (4 * g1 k (x / 4) + (x % 2 + x / 2 % 2)) / 4 = g1 k (x / 4) from by omega]
      exact small_g1 k _
theorem t2_g2 : ∀ (k x : Nat), small2 (2 * k) x → t2 k (g2 k x) = t1 (2 * k) x
  | 0, x, _ => rfl
  | k + 1, x, h => by
    have h' : x % 4 ≤ 2 ∧ x / 4 % 4 ≤ 2 ∧ small2 (2 * k) (x / 4 / 4) := h
    show (16 * g2 k (x / 16) + (x % 4 + x / 4 % 4)) % 16 + t2 k ((16 * g2 k (x / 16) + (x % 4 + x / 4 % 4)) / 16) = x % 4 + (x / 4 % 4 + t1 (2 * k) (x / 4 / 4))
    rw [show (16 * g2 k (x / 16) + (x % 4 + x / 4 % 4)) / 16 = g2 k (x / 16) from by omega, t2_g2 k (x / 16) (by have := h'.2.2; rwa [Nat.div_div_eq_div_mul] at this), Nat.div_div_eq_div_mul, show 4 * 4 = 16 from rfl]
    omega
theorem small_g2 : ∀ (k x : Nat), small2 (2 * k) x → small4 k (g2 k x)
  | 0, _, _ => trivial
  | k + 1, x, h => by
    have h' : x % 4 ≤ 2 ∧ x / 4 % 4 ≤ 2 ∧ small2 (2 * k) (x / 4 / 4) := h
    refine ⟨?_, ?_⟩
    · show (16 * g2 k (x / 16) + (x % 4 + x / 4 % 4)) % 16 ≤ 4; omega
    · show small4 k ((16 * g2 k (x / 16) + (x % 4 + x / 4 % 4)) / 16)
      rw [show (16 * g2 k (x / 16) + (x % 4 + x / 4 % 4)) / 16 = g2 k (x / 16) from by omega]
      exact small_g2 k _ (by have := h'.2.2; rwa [Nat.div_div_eq_div_mul] at this)
theorem t3_g3 : ∀ (k x : Nat), small4 (2 * k) x → t3 k (g3 k x) = t2 (2 * k) x ∧ g3 k x < 256 ^ k ∧ t3 k (g3 k x) ≤ 8 * k
  | 0, x, _ => ⟨rfl, by simp [g3], Nat.le_refl _⟩
  | k + 1, x, h => by
    have h' : x % 16 ≤ 4 ∧ x / 16 % 16 ≤ 4 ∧ small4 (2 * k) (x / 16 / 16) := h
    obtain ⟨i1, i2, i3⟩ := t3_g3 k (x / 256) (by have := h'.2.2; rwa [Nat.div_div_eq_div_mul] at this)
    have e : (256 * g3 k (x / 256) + (x % 16 + x / 16 % 16)) / 256 = g3 k (x / 256) := by omega
    refine ⟨?_, ?_, ?_⟩
    · show (256 * g3 k (x / 256) + (x % 16 + x / 16 % 16)) % 256 + t3 k ((256 * g3 k (x / 256) + (x % 16 + x / 16 % 16)) / 256) = x % 16 + (x / 16 % 16 + t2 (2 * k) (x / 16 / 16))
      rw [e, i1, Nat.div_div_eq_div_mul, show 16 * 16 = 256 from rfl]
      omega
    · show 256 * g3 k (x / 256) + (x % 16 + x / 16 % 16) < 256 ^ (k + 1)
      rw [Nat.pow_succ]; omega
    · show (256 * g3 k (x / 256) + (x % 16 + x / 16 % 16)) % 256 + t3 k ((256 * g3 k (x / 256) + (x % 16 + x / 16 % 16)) / 256) ≤ 8 * (k + 1)
      rw [e]; omega
theorem g1_lt : ∀ (k x : Nat), g1 k x < 4 ^ k
  | 0, x => by simp [g1]
  | k + 1, x => by
    have := g1_lt k (x / 4)
    show 4 * g1 k (x / 4) + (x % 2 + x / 2 % 2) < 4 ^ (k + 1)
    rw [Nat.pow_succ]; omega
theorem g2_lt : ∀ (k x : Nat), small2 (2 * k) x → g2 k x < 16 ^ k
  | 0, x, _ => by simp [g2]
  | k + 1, x, h => by
    have h' : x % 4 ≤ 2 ∧ x / 4 % 4 ≤ 2 ∧ small2 (2 * k) (x / 4 / 4) := h
    have := g2_lt k (x / 16) (by have := h'.2.2; rwa [Nat.div_div_eq_div_mul] at this)
    show 16 * g2 k (x / 16) + (x % 4 + x / 4 % 4) < 16 ^ (k + 1)
    rw [Nat.pow_succ]; omega
/-- A small4 number leaves room for one more of its kind. -/
theorem small4_room : ∀ (k x : Nat), small4 k x → x < 16 ^ k → 3 * x < 16 ^ k
  | 0, x, _, h => by simp at h; subst h; decide
  | k + 1, x, hs, h => by
    have := small4_room k (x / 16) hs.2 (by rw [Nat.pow_succ] at h; omega)
    have h1 := hs.1
    rw [Nat.pow_succ]; omega
theorem step4v (y y1 y2 y3 y4 y5 y6 y7 e0 e1 e2 e3 e4 e5 e6 : Nat) (h0 : y = e0 + 256 * y1) (h1 : y1 = e1 + 256 * y2) (h2 : y2 = e2 + 256 * y3) (h3 : y3 = e3 + 256 * y4) (h4 : y4 = e4 + 256 * y5) (h5 : y5 = e5 + 256 * y6) (h6 : y6 = e6 + 256 * y7)
    (hs : e0 + (e1 + (e2 + (e3 + (e4 + (e5 + (e6 + (y7 + 0))))))) ≤ 64) :
    y + y1 < 18446744073709551616 ∧ (y + y1) + (y + y1) / 65536 < 18446744073709551616 ∧ ((y + y1) + (y + y1) / 65536) + ((y + y1) + (y + y1) / 65536) / 4294967296 < 18446744073709551616 ∧
      (((y + y1) + (y + y1) / 65536) + ((y + y1) + (y + y1) / 65536) / 4294967296) % 128 = e0 + (e1 + (e2 + (e3 + (e4 + (e5 + (e6 + (y7 + 0))))))) := by
  have b6 : y6 ≤ 20000 := by omega
  have b5 : y5 ≤ 6000000 := by omega
  have b4 : y4 ≤ 1600000000 := by omega
  have b3 : y3 ≤ 500000000000 := by omega
  have b2 : y2 ≤ 200000000000000 := by omega
  have b1 : y1 ≤ 60000000000000000 := by omega
  have b0 : y ≤ 16000000000000000000 := by omega
  have z1 : (y + y1) / 65536 = y2 + y3 := by
    have e : y + y1 = 65536 * (y2 + y3) + (e0 + e1 + 256 * (e1 + e2)) := by omega
    rw [e, Nat.mul_add_div (by decide), Nat.div_eq_of_lt (by omega)]
    rfl
  have z2 : (y + y1 + (y2 + y3)) / 4294967296 = y4 + y5 + (y6 + y7) := by
    have r : y + y1 + (y2 + y3) = 4294967296 * (y4 + y5 + (y6 + y7)) + (e0 + e1 + e2 + e3 + 256 * (e1 + e2 + e3 + e4) + 65536 * (e2 + e3 + e4 + e5) + 16777216 * (e3 + e4 + e5 + e6)) := by
      clear z1
      omega
    rw [r, Nat.mul_add_div (by decide), Nat.div_eq_of_lt (by clear r z1; omega)]
    rfl
  rw [z1, z2]
  clear z1 z2
  refine ⟨by omega, by omega, by omega, ?_⟩
  have hq : y + y1 + (y2 + y3) + (y4 + y5 + (y6 + y7)) = (e0 + (e1 + (e2 + (e3 + (e4 + (e5 + (e6 + (y7 + 0)))))))) + 128 * (2 * (y1 + y2 + y3 + y4 + y5 + y6 + y7)) := by omega
  rw [hq, Nat.add_mul_mod_self_left, Nat.mod_eq_of_lt (by omega)]
/-- The last three sums, and the mask. -/
theorem step4 (y : Nat) (h1 : y < 18446744073709551616) (h2 : t3 8 y ≤ 64) :
    y + y / 256 < 18446744073709551616 ∧ (y + y / 256) + (y + y / 256) / 65536 < 18446744073709551616 ∧ ((y + y / 256) + (y + y / 256) / 65536) + ((y + y / 256) + (y + y / 256) / 65536) / 4294967296 < 18446744073709551616 ∧
      (((y + y / 256) + (y + y / 256) / 65536) + ((y + y / 256) + (y + y / 256) / 65536) / 4294967296) % 128 = t3 8 y := by
  have hl : y / 256 / 256 / 256 / 256 / 256 / 256 / 256 % 256 = y / 256 / 256 / 256 / 256 / 256 / 256 / 256 := by
    simp only [Nat.div_div_eq_div_mul]
    exact Nat.mod_eq_of_lt (by omega)
  have ht : t3 8 y = y % 256 + (y / 256 % 256 + (y / 256 / 256 % 256 + (y / 256 / 256 / 256 % 256 + (y / 256 / 256 / 256 / 256 % 256 + (y / 256 / 256 / 256 / 256 / 256 % 256 + (y / 256 / 256 / 256 / 256 / 256 / 256 % 256 + (y / 256 / 256 / 256 / 256 / 256 / 256 / 256 % 256 + 0))))))) := rfl
  rw [hl] at ht
  rw [ht] at h2 ⊢
  have e : ∀ z : Nat, z = z % 256 + 256 * (z / 256) := fun z => (Nat.mod_add_div z 256).symm
  exact step4v _ _ _ _ _ _ _ _ _ _ _ _ _ _ _ (e _) (e _) (e _) (e _) (e _) (e _) (e _) h2
end Go.Proofs.YthbkemkjkpaoaaaDoor.Bit
