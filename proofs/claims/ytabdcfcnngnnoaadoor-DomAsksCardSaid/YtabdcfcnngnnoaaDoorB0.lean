/- Sets of small numbers as lists of words: the plain laws. No program here. -/
import Derived.Test.YtabdcfcnngnnoaaDoorC0
set_option linter.unusedVariables false
set_option linter.unusedSimpArgs false
namespace Go.Proofs.YtabdcfcnngnnoaaDoor.E.Bit
open Go
def bitsU : BinOp → Int → Int → Int
  | .and, x, y => IntKind.u64.wrap (((BitVec.ofInt 64 x) &&& (BitVec.ofInt 64 y)).toNat : Int)
  | .or, x, y => IntKind.u64.wrap (((BitVec.ofInt 64 x) ||| (BitVec.ofInt 64 y)).toNat : Int)
  | _, x, y => IntKind.u64.wrap (((BitVec.ofInt 64 x) &&& ~~~(BitVec.ofInt 64 y)).toNat : Int)
def shlU (x j : Int) : Int := IntKind.u64.wrap (x * 2 ^ (min j.toNat IntKind.u64.bits))
def shrU (x j : Int) : Int := x.fdiv (2 ^ (min j.toNat IntKind.u64.bits))
/-- Words of 64 bits. -/
def Wd (l : List Int) : Prop := ∀ x ∈ l, 0 ≤ x ∧ x < 18446744073709551616
/-- Is n in the set? -/
def tb (l : List Int) (n : Nat) : Bool := (l.getD (n / 64) 0).toNat.testBit (n % 64)
/-- Without words of 0 at the end. -/
def neatL (l : List Int) : List Int := (l.reverse.dropWhile (fun x => decide (x = 0))).reverse

theorem Wd.getD {l : List Int} (h : Wd l) (i : Nat) : 0 ≤ l.getD i 0 ∧ l.getD i 0 < 18446744073709551616 := by
  rw [List.getD_eq_getElem?_getD]
  rcases Nat.lt_or_ge i l.length with hi | hi
  · rw [List.getElem?_eq_getElem hi]; exact h _ (List.getElem_mem hi)
  · rw [List.getElem?_eq_none hi]; simp

theorem Wd.nil : Wd [] := fun x hx => by cases hx
theorem Wd.append {a b : List Int} (ha : Wd a) (hb : Wd b) : Wd (a ++ b) := fun x hx => by
  rcases List.mem_append.1 hx with h | h
  · exact ha x h
  · exact hb x h
theorem Wd.take {a : List Int} (ha : Wd a) (n : Nat) : Wd (a.take n) := fun x hx => ha x (List.mem_of_mem_take hx)
theorem Wd.set {a : List Int} (ha : Wd a) (i : Nat) {v : Int} (h0 : 0 ≤ v) (h1 : v < 18446744073709551616) : Wd (a.set i v) := fun x hx => by
  rcases List.mem_or_eq_of_mem_set hx with h | h
  · exact ha x h
  · subst h; exact ⟨h0, h1⟩
theorem Wd.zeros (n : Nat) : Wd (List.replicate n 0) := fun x hx => by
  have := List.eq_of_mem_replicate hx
  subst this; decide

theorem neatL_nil : neatL [] = [] := rfl
theorem neatL_snoc_zero (l : List Int) : neatL (l ++ [0]) = neatL l := by simp [neatL, List.reverse_append, List.dropWhile_cons]
theorem neatL_snoc_ne (l : List Int) (x : Int) (h : x ≠ 0) : neatL (l ++ [x]) = l ++ [x] := by simp [neatL, List.reverse_append, List.dropWhile_cons, h]

/-- Induction from the end. -/
theorem snoc_ind {α : Type} {P : List α → Prop} (h0 : P []) (h1 : ∀ l x, P l → P (l ++ [x])) : ∀ l, P l := by
  intro l
  have key : ∀ n, ∀ l : List α, l.length = n → P l := by
    intro n
    induction n with
    | zero => intro l hl; rw [List.eq_nil_of_length_eq_zero hl]; exact h0
    | succ n ih =>
      intro l hl
      have hne : l ≠ [] := by intro h; rw [h] at hl; cases hl
      rw [← List.dropLast_concat_getLast hne]
      exact h1 _ _ (ih _ (by rw [List.length_dropLast, hl]; rfl))
  exact key _ l rfl

theorem neatL_prefix (l : List Int) : ∃ m, l = neatL l ++ List.replicate m 0 := by
  induction l using snoc_ind with
  | h0 => exact ⟨0, rfl⟩
  | h1 l x ih =>
    by_cases hx : x = 0
    · subst hx
      obtain ⟨m, hm⟩ := ih
      refine ⟨m + 1, ?_⟩
      rw [neatL_snoc_zero, List.replicate_succ', ← List.append_assoc, ← hm]
    · exact ⟨0, by rw [neatL_snoc_ne _ _ hx]; simp⟩

theorem neatL_getD (l : List Int) (i : Nat) : (neatL l).getD i 0 = l.getD i 0 := by
  obtain ⟨m, hm⟩ := neatL_prefix l
  rw [show l.getD i 0 = (neatL l ++ List.replicate m 0).getD i 0 from by rw [← hm]]
  rw [List.getD_eq_getElem?_getD, List.getD_eq_getElem?_getD]
  rcases Nat.lt_or_ge i (neatL l).length with hi | hi
  · rw [List.getElem?_append_left hi]
  · rw [List.getElem?_append_right hi, List.getElem?_eq_none hi, List.getElem?_replicate]
    split <;> rfl
theorem neatL_length_le (l : List Int) : (neatL l).length ≤ l.length := by
  obtain ⟨m, hm⟩ := neatL_prefix l
  have := congrArg List.length hm
  simp only [List.length_append, List.length_replicate] at this
  omega
theorem neatL_Wd {l : List Int} (h : Wd l) : Wd (neatL l) := by
  obtain ⟨m, hm⟩ := neatL_prefix l
  intro x hx
  exact h x (by rw [hm]; exact List.mem_append_left _ hx)
/-- The last word of a neat list isn't 0. -/
theorem neatL_last (l : List Int) (i : Nat) (h : (neatL l).length = i + 1) : (neatL l).getD i 0 ≠ 0 := by
  induction l using snoc_ind with
  | h0 => cases h
  | h1 l x ih =>
    by_cases hx : x = 0
    · subst hx
      rw [neatL_snoc_zero] at h ⊢
      exact ih h
    · rw [neatL_snoc_ne _ _ hx] at h ⊢
      have : i = l.length := by simpa using h.symm
      subst this
      simp [List.getD_eq_getElem?_getD, hx]
theorem ext_getD {a b : List Int} (hl : a.length = b.length) (h : ∀ i, a.getD i 0 = b.getD i 0) : a = b := by
  refine List.ext_getElem hl fun i h1 h2 => ?_
  have := h i
  rwa [List.getD_eq_getElem?_getD, List.getD_eq_getElem?_getD, List.getElem?_eq_getElem h1, List.getElem?_eq_getElem h2] at this
/-- Two lists that read alike are one, without words of 0 at the end. -/
theorem neatL_eq {a b : List Int} (h : ∀ i, a.getD i 0 = b.getD i 0) : neatL a = neatL b := by
  have hg : ∀ i, (neatL a).getD i 0 = (neatL b).getD i 0 := fun i => by rw [neatL_getD, neatL_getD, h]
  have key : ∀ a b : List Int, (∀ i, (neatL a).getD i 0 = (neatL b).getD i 0) → (neatL a).length ≤ (neatL b).length := by
    intro a b hg
    rcases Nat.lt_or_ge (neatL b).length (neatL a).length with hlt | hge
    · exfalso
      have h1 := neatL_last a ((neatL a).length - 1) (by omega)
      rw [hg, List.getD_eq_getElem?_getD, List.getElem?_eq_none (by omega)] at h1
      exact h1 rfl
    · exact hge
  exact ext_getD (Nat.le_antisymm (key a b hg) (key b a fun i => (hg i).symm)) hg
theorem neatL_neatL (l : List Int) : neatL (neatL l) = neatL l := neatL_eq fun i => neatL_getD l i
theorem neatL_inj {a b : List Int} (h : neatL a = neatL b) (i : Nat) : a.getD i 0 = b.getD i 0 := by rw [← neatL_getD a, ← neatL_getD b, h]

/-- Words are told by their bits. -/
theorem word_ext {x y : Int} (hx : 0 ≤ x ∧ x < 18446744073709551616) (hy : 0 ≤ y ∧ y < 18446744073709551616) (h : ∀ j, j < 64 → x.toNat.testBit j = y.toNat.testBit j) : x = y := by
  have : x.toNat = y.toNat := by
    refine Nat.eq_of_testBit_eq fun j => ?_
    rcases Nat.lt_or_ge j 64 with hj | hj
    · exact h j hj
    · have p : 18446744073709551616 ≤ 2 ^ j := Nat.le_trans (by decide : 18446744073709551616 ≤ 2 ^ 64) (Nat.pow_le_pow_right (by decide) hj)
      rw [Nat.testBit_lt_two_pow (by omega), Nat.testBit_lt_two_pow (by omega)]
  omega
theorem tb_ext {a b : List Int} (ha : Wd a) (hb : Wd b) (h : ∀ n, tb a n = tb b n) (i : Nat) : a.getD i 0 = b.getD i 0 := by
  refine word_ext (ha.getD i) (hb.getD i) fun j hj => ?_
  have := h (64 * i + j)
  unfold tb at this
  rwa [show (64 * i + j) / 64 = i from by omega, show (64 * i + j) % 64 = j from by omega] at this
theorem tb_neatL (l : List Int) (n : Nat) : tb (neatL l) n = tb l n := by unfold tb; rw [neatL_getD]
theorem tb_congr {a b : List Int} (h : ∀ i, a.getD i 0 = b.getD i 0) (n : Nat) : tb a n = tb b n := by unfold tb; rw [h]
theorem tb_nil (n : Nat) : tb [] n = false := by simp [tb]
theorem tb_ge {l : List Int} {n : Nat} (h : l.length ≤ n / 64) : tb l n = false := by
  unfold tb; rw [List.getD_eq_getElem?_getD, List.getElem?_eq_none h]; simp

theorem lt_cast {m : Nat} (h : m < 18446744073709551616) : (m : Int) < 18446744073709551616 := by omega
/-! ### The operations on words, as natural numbers' -/
theorem ofInt_toNat {x : Int} (h0 : 0 ≤ x) (h1 : x < 18446744073709551616) : (BitVec.ofInt 64 x).toNat = x.toNat := by
  rw [BitVec.toNat_ofInt]
  have : x % ((2 ^ 64 : Nat) : Int) = x := Int.emod_eq_of_lt h0 (by simpa using h1)
  rw [this]
theorem wrapU {n : Int} (h0 : 0 ≤ n) (h1 : n < 18446744073709551616) : IntKind.u64.wrap n = n := by
  simp [IntKind.wrap, IntKind.bits, IntKind.signed]
  omega
theorem bits_and {x y : Int} (hx : 0 ≤ x ∧ x < 18446744073709551616) (hy : 0 ≤ y ∧ y < 18446744073709551616) : bitsU .and x y = ((x.toNat &&& y.toNat : Nat) : Int) := by
  have h : x.toNat &&& y.toNat < 18446744073709551616 := Nat.lt_of_le_of_lt Nat.and_le_left (by omega)
  show IntKind.u64.wrap (((BitVec.ofInt 64 x) &&& (BitVec.ofInt 64 y)).toNat : Int) = _
  rw [BitVec.toNat_and, ofInt_toNat hx.1 hx.2, ofInt_toNat hy.1 hy.2]
  exact wrapU (by omega) (by omega)
theorem or_lt {a b : Nat} (ha : a < 18446744073709551616) (hb : b < 18446744073709551616) : a ||| b < 18446744073709551616 := Nat.or_lt_two_pow (n := 64) ha hb
theorem bits_or {x y : Int} (hx : 0 ≤ x ∧ x < 18446744073709551616) (hy : 0 ≤ y ∧ y < 18446744073709551616) : bitsU .or x y = ((x.toNat ||| y.toNat : Nat) : Int) := by
  have h : x.toNat ||| y.toNat < 18446744073709551616 := or_lt (by omega) (by omega)
  show IntKind.u64.wrap (((BitVec.ofInt 64 x) ||| (BitVec.ofInt 64 y)).toNat : Int) = _
  rw [BitVec.toNat_or, ofInt_toNat hx.1 hx.2, ofInt_toNat hy.1 hy.2]
  exact wrapU (by omega) (by omega)
theorem bits_andNot {x y : Int} (hx : 0 ≤ x ∧ x < 18446744073709551616) (hy : 0 ≤ y ∧ y < 18446744073709551616) :
    0 ≤ bitsU .andNot x y ∧ bitsU .andNot x y < 18446744073709551616 ∧ ∀ j, (bitsU .andNot x y).toNat.testBit j = (x.toNat.testBit j && !y.toNat.testBit j) := by
  have e : bitsU .andNot x y = IntKind.u64.wrap (((BitVec.ofInt 64 x) &&& ~~~(BitVec.ofInt 64 y)).toNat : Int) := rfl
  have hl : ((BitVec.ofInt 64 x) &&& ~~~(BitVec.ofInt 64 y)).toNat < 18446744073709551616 := BitVec.isLt _
  rw [e, wrapU (by omega) (by omega)]
  refine ⟨by omega, by omega, fun j => ?_⟩
  rw [Int.toNat_natCast, BitVec.testBit_toNat, BitVec.getLsbD_and, BitVec.getLsbD_not, ← BitVec.testBit_toNat, ← BitVec.testBit_toNat, ofInt_toNat hx.1 hx.2, ofInt_toNat hy.1 hy.2]
  rcases Nat.lt_or_ge j 64 with hj | hj
  · simp [hj]
  · have p : 18446744073709551616 ≤ 2 ^ j := Nat.le_trans (by decide : 18446744073709551616 ≤ 2 ^ 64) (Nat.pow_le_pow_right (by decide) hj)
    rw [Nat.testBit_lt_two_pow (by omega : x.toNat < 2 ^ j)]
    simp
theorem pow_lt {j : Nat} (h : j < 64) : 2 ^ j < 18446744073709551616 := Nat.pow_lt_pow_right (by decide) h
theorem shl_one {j : Int} (h0 : 0 ≤ j) (h1 : j < 64) : shlU 1 j = ((2 ^ j.toNat : Nat) : Int) := by
  have hp := pow_lt (j := j.toNat) (by omega)
  have hm : min j.toNat IntKind.u64.bits = j.toNat := Nat.min_eq_left (by show j.toNat ≤ 64; omega)
  unfold shlU
  rw [hm, Int.one_mul]
  have : (2 : Int) ^ j.toNat = ((2 ^ j.toNat : Nat) : Int) := by simp
  rw [this]
  exact wrapU (Int.natCast_nonneg _) (lt_cast hp)
theorem shr_at {x j : Int} (hx : 0 ≤ x) (h0 : 0 ≤ j) (h1 : j < 64) : shrU x j = ((x.toNat >>> j.toNat : Nat) : Int) := by
  have hm : min j.toNat IntKind.u64.bits = j.toNat := Nat.min_eq_left (by show j.toNat ≤ 64; omega)
  unfold shrU
  rw [hm, Nat.shiftRight_eq_div_pow]
  obtain ⟨a, rfl⟩ := Int.eq_ofNat_of_zero_le hx
  have hp : (2 : Int) ^ j.toNat = ((2 ^ j.toNat : Nat) : Int) := by simp
  rw [hp, Int.fdiv_eq_ediv_of_nonneg _ (Int.natCast_nonneg _), Int.toNat_natCast]
  simp
/-- The bit that Has asks for. -/
theorem has_bit {x j : Int} (hx : 0 ≤ x ∧ x < 18446744073709551616) (h0 : 0 ≤ j) (h1 : j < 64) : ((bitsU .and (shrU x j) 1) == 1) = x.toNat.testBit j.toNat := by
  rw [shr_at hx.1 h0 h1]
  have hb : x.toNat >>> j.toNat < 18446744073709551616 := Nat.lt_of_le_of_lt (Nat.shiftRight_le _ _) (by omega)
  rw [bits_and ⟨Int.natCast_nonneg _, lt_cast hb⟩ (by decide), Int.toNat_natCast]
  rw [show (1 : Int).toNat = 1 from rfl, Nat.and_one_is_mod, Nat.testBit_eq_decide_div_mod_eq, Nat.shiftRight_eq_div_pow]
  rw [Bool.eq_iff_iff, beq_iff_eq, decide_eq_true_iff]
  omega

/-! ### One number more, one less -/
/-- The set, with words enough for number n. -/
def padL (l : List Int) (i : Nat) : List Int := l ++ List.replicate (i + 1 - l.length) 0
def orL (l : List Int) (n : Nat) : List Int := l.set (n / 64) (((l.getD (n / 64) 0).toNat ||| 2 ^ (n % 64) : Nat) : Int)
def putL (l : List Int) (n : Int) : List Int := if 0 ≤ n ∧ n < 4096 then orL (padL l (n.toNat / 64)) n.toNat else l
def hasB (l : List Int) (n : Int) : Bool := decide (0 ≤ n) && tb l n.toNat
theorem padL_getD (l : List Int) (i j : Nat) : (padL l i).getD j 0 = l.getD j 0 := by
  unfold padL
  rw [List.getD_eq_getElem?_getD, List.getD_eq_getElem?_getD]
  rcases Nat.lt_or_ge j l.length with h | h
  · rw [List.getElem?_append_left h]
  · rw [List.getElem?_append_right h, List.getElem?_eq_none h, List.getElem?_replicate]
    split <;> rfl
theorem padL_length (l : List Int) (i : Nat) : (padL l i).length = max l.length (i + 1) := by simp [padL]; omega
theorem padL_Wd {l : List Int} (h : Wd l) (i : Nat) : Wd (padL l i) := h.append (Wd.zeros _)
theorem word_nat {l : List Int} (h : Wd l) (i : Nat) : (l.getD i 0).toNat < 18446744073709551616 := by have := h.getD i; omega
theorem orL_length (l : List Int) (n : Nat) : (orL l n).length = l.length := by simp [orL]
theorem orL_Wd {l : List Int} (h : Wd l) (n : Nat) : Wd (orL l n) := by
  have h1 := or_lt (word_nat h (n / 64)) (pow_lt (j := n % 64) (by omega))
  exact h.set _ (Int.natCast_nonneg _) (lt_cast h1)
theorem getD_set {l : List Int} (i j : Nat) (v : Int) (h : i < l.length) : (l.set i v).getD j 0 = if i = j then v else l.getD j 0 := by
  rw [List.getD_eq_getElem?_getD, List.getD_eq_getElem?_getD, List.getElem?_set]
  split
  · rfl
  · rfl
theorem tb_orL {l : List Int} (n m : Nat) (hn : n / 64 < l.length) : tb (orL l n) m = (tb l m || decide (m = n)) := by
  unfold tb orL
  rw [getD_set _ _ _ hn]
  by_cases e : n / 64 = m / 64
  · rw [if_pos e, ← e, Int.toNat_natCast, Nat.testBit_or, Nat.testBit_two_pow]
    congr 1
    rw [decide_eq_decide]; omega
  · rw [if_neg e]
    have : ¬ m = n := by intro h; subst h; exact e rfl
    simp [this]
theorem tb_padL (l : List Int) (i m : Nat) : tb (padL l i) m = tb l m := tb_congr (padL_getD l i) m
theorem tb_putL (l : List Int) (n : Int) (m : Nat) : tb (putL l n) m = (tb l m || (decide ((m : Int) = n) && decide (n < 4096))) := by
  unfold putL
  by_cases h : 0 ≤ n ∧ n < 4096
  · rw [if_pos h, tb_orL _ _ (by rw [padL_length]; omega), tb_padL]
    congr 1
    have h2 : decide (n < 4096) = true := decide_eq_true h.2
    rw [h2, Bool.and_true, decide_eq_decide]; omega
  · rw [if_neg h]
    have : (decide ((m : Int) = n) && decide (n < 4096)) = false := by
      rw [Bool.and_eq_false_iff, decide_eq_false_iff_not, decide_eq_false_iff_not]
      omega
    rw [this, Bool.or_false]
theorem putL_Wd {l : List Int} (h : Wd l) (n : Int) : Wd (putL l n) := by
  unfold putL
  split
  · exact orL_Wd (padL_Wd h _) _
  · exact h
theorem putL_length (l : List Int) (n : Int) : (putL l n).length ≤ max l.length 64 := by
  unfold putL
  split
  · rw [orL_length, padL_length]; omega
  · omega
/-- Without a number. -/
def dropL (l : List Int) (n : Int) : List Int := if hasB l n then l.set (n.toNat / 64) (bitsU .andNot (l.getD (n.toNat / 64) 0) ((2 ^ (n.toNat % 64) : Nat) : Int)) else l
theorem hasB_lt {l : List Int} {n : Int} (h : hasB l n = true) : 0 ≤ n ∧ n.toNat / 64 < l.length := by
  unfold hasB at h
  rw [Bool.and_eq_true, decide_eq_true_iff] at h
  refine ⟨h.1, ?_⟩
  rcases Nat.lt_or_ge (n.toNat / 64) l.length with h1 | h1
  · exact h1
  · rw [tb_ge h1] at h; exact absurd h.2 (by decide)
theorem dropL_Wd {l : List Int} (h : Wd l) (n : Int) : Wd (dropL l n) := by
  unfold dropL
  split
  · have hp := pow_lt (j := n.toNat % 64) (by omega)
    have := bits_andNot (h.getD (n.toNat / 64)) (y := ((2 ^ (n.toNat % 64) : Nat) : Int)) ⟨Int.natCast_nonneg _, lt_cast hp⟩
    exact h.set _ this.1 this.2.1
  · exact h
theorem dropL_length (l : List Int) (n : Int) : (dropL l n).length = l.length := by
  unfold dropL
  split
  · exact List.length_set
  · rfl
theorem tb_dropL {l : List Int} (h : Wd l) (n : Int) (m : Nat) : tb (dropL l n) m = (tb l m && !decide ((m : Int) = n)) := by
  unfold dropL
  by_cases hb : hasB l n = true
  · rw [if_pos hb]
    obtain ⟨h0, hl⟩ := hasB_lt hb
    have hp := pow_lt (j := n.toNat % 64) (by omega)
    have hbit := (bits_andNot (h.getD (n.toNat / 64)) (y := ((2 ^ (n.toNat % 64) : Nat) : Int)) ⟨Int.natCast_nonneg _, lt_cast hp⟩).2.2
    unfold tb
    rw [getD_set _ _ _ hl]
    by_cases e : n.toNat / 64 = m / 64
    · rw [if_pos e, ← e, hbit, Int.toNat_natCast, Nat.testBit_two_pow]
      congr 2
      rw [decide_eq_decide]; omega
    · rw [if_neg e]
      have : ¬ (m : Int) = n := by omega
      simp [this]
  · rw [if_neg hb]
    by_cases e : (m : Int) = n
    · have : tb l m = false := by
        subst e
        unfold hasB at hb
        rw [Int.toNat_natCast, decide_eq_true (Int.natCast_nonneg m), Bool.true_and] at hb
        simpa using hb
      rw [this]; rfl
    · simp [e]
theorem tb_puts (ns : List Int) (m : Nat) : ∀ l : List Int, tb (ns.foldl putL l) m = (tb l m || (decide ((m : Int) ∈ ns) && decide ((m : Int) < 4096))) := by
  induction ns with
  | nil => intro l; simp
  | cons n ns ih =>
    intro l
    rw [List.foldl_cons, ih, tb_putL, Bool.or_assoc]
    congr 1
    rw [Bool.eq_iff_iff]
    simp only [Bool.or_eq_true, Bool.and_eq_true, decide_eq_true_iff, List.mem_cons]
    constructor
    · rintro (⟨h1, h2⟩ | ⟨h1, h2⟩)
      · exact ⟨.inl h1, by omega⟩
      · exact ⟨.inr h1, h2⟩
    · rintro ⟨h1 | h1, h2⟩
      · exact .inl ⟨h1, by omega⟩
      · exact .inr ⟨h1, h2⟩
theorem puts_Wd (ns : List Int) : ∀ l : List Int, Wd l → Wd (ns.foldl putL l) := by
  induction ns with
  | nil => intro l h; exact h
  | cons n ns ih => intro l h; exact ih _ (putL_Wd h n)
theorem drops_Wd (ns : List Int) : ∀ l : List Int, Wd l → Wd (ns.foldl dropL l) := by
  induction ns with
  | nil => intro l h; exact h
  | cons n ns ih => intro l h; exact ih _ (dropL_Wd h n)
theorem tb_drops (ns : List Int) (m : Nat) : ∀ l : List Int, Wd l → tb (ns.foldl dropL l) m = (tb l m && !decide ((m : Int) ∈ ns)) := by
  induction ns with
  | nil => intro l _; simp
  | cons n ns ih =>
    intro l h
    rw [List.foldl_cons, ih _ (dropL_Wd h n), tb_dropL h, Bool.and_assoc]
    congr 1
    rw [Bool.eq_iff_iff]
    simp only [Bool.and_eq_true, Bool.not_eq_true', decide_eq_false_iff_not, List.mem_cons, not_or]
theorem hasB_neat (l : List Int) (n : Int) : hasB (neatL l) n = hasB l n := by unfold hasB; rw [tb_neatL]
def zipL (g : Int → Int → Int) (a b : List Int) : List Int := (List.range (max a.length b.length)).map fun i => g (a.getD i 0) (b.getD i 0)
theorem zipL_length (g : Int → Int → Int) (a b : List Int) : (zipL g a b).length = max a.length b.length := by simp [zipL]
theorem zipL_getD (g : Int → Int → Int) (h0 : g 0 0 = 0) (a b : List Int) (i : Nat) : (zipL g a b).getD i 0 = g (a.getD i 0) (b.getD i 0) := by
  rw [List.getD_eq_getElem?_getD]
  unfold zipL
  rw [List.getElem?_map]
  rcases Nat.lt_or_ge i (max a.length b.length) with h | h
  · rw [List.getElem?_range h]; rfl
  · rw [List.getElem?_eq_none (by simpa using h)]
    rw [List.getD_eq_getElem?_getD, List.getD_eq_getElem?_getD, List.getElem?_eq_none (by omega), List.getElem?_eq_none (by omega)]
    simp [h0]
def orI (x y : Int) : Int := bitsU .or x y
def andI (x y : Int) : Int := bitsU .and x y
def lessI (x y : Int) : Int := bitsU .andNot x y
def opL (g : Int → Int → Int) (a b : List Int) : List Int := neatL (zipL g a b)
theorem opL_length (g : Int → Int → Int) (a b : List Int) : (opL g a b).length ≤ max a.length b.length := by
  have := neatL_length_le (zipL g a b)
  rw [zipL_length] at this
  exact this
def joinL (ls : List (List Int)) (x : List Int) : List Int := ls.foldl (opL orI) x
def sameB (a b : List Int) : Bool := decide (neatL a = neatL b)
theorem or_word2 {x y : Int} (hx : 0 ≤ x ∧ x < 18446744073709551616) (hy : 0 ≤ y ∧ y < 18446744073709551616) : 0 ≤ orI x y ∧ orI x y < 18446744073709551616 := by
  have h := or_lt (a := x.toNat) (b := y.toNat) (by omega) (by omega)
  unfold orI; rw [bits_or hx hy]; exact ⟨Int.natCast_nonneg _, lt_cast h⟩
theorem and_word2 {x y : Int} (hx : 0 ≤ x ∧ x < 18446744073709551616) (hy : 0 ≤ y ∧ y < 18446744073709551616) : 0 ≤ andI x y ∧ andI x y < 18446744073709551616 := by
  have h : x.toNat &&& y.toNat < 18446744073709551616 := Nat.lt_of_le_of_lt Nat.and_le_left (by omega)
  unfold andI; rw [bits_and hx hy]; exact ⟨Int.natCast_nonneg _, lt_cast h⟩
theorem less_word2 {x y : Int} (hx : 0 ≤ x ∧ x < 18446744073709551616) (hy : 0 ≤ y ∧ y < 18446744073709551616) : 0 ≤ lessI x y ∧ lessI x y < 18446744073709551616 := ⟨(bits_andNot hx hy).1, (bits_andNot hx hy).2.1⟩
theorem zip_Wd {g : Int → Int → Int} (hg : ∀ x y : Int, (0 ≤ x ∧ x < 18446744073709551616) → (0 ≤ y ∧ y < 18446744073709551616) → 0 ≤ g x y ∧ g x y < 18446744073709551616) {a b : List Int} (ha : Wd a) (hb : Wd b) : Wd (opL g a b) := by
  refine neatL_Wd fun x hx => ?_
  obtain ⟨i, _, rfl⟩ := List.mem_map.1 hx
  exact hg _ _ (ha.getD i) (hb.getD i)
theorem tb_or {a b : List Int} (ha : Wd a) (hb : Wd b) (n : Nat) : tb (opL orI a b) n = (tb a n || tb b n) := by
  unfold opL
  rw [tb_neatL]
  unfold tb
  rw [zipL_getD orI (by decide)]
  unfold orI
  rw [bits_or (ha.getD _) (hb.getD _), Int.toNat_natCast, Nat.testBit_or]
theorem tb_and {a b : List Int} (ha : Wd a) (hb : Wd b) (n : Nat) : tb (opL andI a b) n = (tb a n && tb b n) := by
  unfold opL
  rw [tb_neatL]
  unfold tb
  rw [zipL_getD andI (by decide)]
  unfold andI
  rw [bits_and (ha.getD _) (hb.getD _), Int.toNat_natCast, Nat.testBit_and]
theorem tb_less {a b : List Int} (ha : Wd a) (hb : Wd b) (n : Nat) : tb (opL lessI a b) n = (tb a n && !tb b n) := by
  unfold opL
  rw [tb_neatL]
  unfold tb
  rw [zipL_getD lessI (by decide)]
  exact (bits_andNot (ha.getD _) (hb.getD _)).2.2 _
theorem join_Wd : ∀ (ls : List (List Int)) (x : List Int), Wd x → (∀ l ∈ ls, Wd l) → Wd (joinL ls x)
  | [], x, hx, _ => hx
  | l :: ls, x, hx, h => join_Wd ls _ (zip_Wd (fun _ _ => or_word2) hx (h l List.mem_cons_self)) (fun m hm => h m (List.mem_cons_of_mem _ hm))
theorem tb_join : ∀ (ls : List (List Int)) (x : List Int), Wd x → (∀ l ∈ ls, Wd l) → ∀ n, tb (joinL ls x) n = (tb x n || ls.any fun l => tb l n)
  | [], x, hx, _, n => by simp [joinL]
  | l :: ls, x, hx, h, n => by
    have hl := h l List.mem_cons_self
    show tb (joinL ls (opL orI x l)) n = _
    rw [tb_join ls _ (zip_Wd (fun _ _ => or_word2) hx hl) (fun m hm => h m (List.mem_cons_of_mem _ hm)), tb_or hx hl, List.any_cons, Bool.or_assoc]
theorem sameB_tb {a b : List Int} (ha : Wd a) (hb : Wd b) (h : ∀ n, tb a n = tb b n) : sameB a b = true := by
  unfold sameB
  exact decide_eq_true (neatL_eq (tb_ext ha hb h))
theorem empty_tb {a : List Int} (ha : Wd a) (h : ∀ n, tb a n = false) : neatL a = [] := by
  have : neatL a = neatL [] := neatL_eq (tb_ext ha Wd.nil (fun n => by rw [h, tb_nil]))
  rw [this]; rfl
theorem opL_neat (g : Int → Int → Int) (a b : List Int) : neatL (opL g a b) = opL g a b := neatL_neatL _
theorem joinL_length (ls : List (List Int)) (x : List Int) (n : Nat) (hx : x.length ≤ n) (hs : ∀ l ∈ ls, l.length ≤ n) : (joinL ls x).length ≤ n := by
  unfold joinL
  induction ls generalizing x with
  | nil => exact hx
  | cons l ls ih =>
    rw [List.foldl_cons]
    refine ih _ ?_ (fun l hl => hs l (List.mem_cons_of_mem _ hl))
    have := opL_length orI x l
    have := hs l List.mem_cons_self
    omega
/-- Neat words that hold the same numbers are the same. -/
theorem neat_ext {a b : List Int} (ha : Wd a) (hb : Wd b) (na : neatL a = a) (nb : neatL b = b) (h : ∀ n, tb a n = tb b n) : a = b := by
  rw [← na, ← nb]; exact neatL_eq (tb_ext ha hb h)
end Go.Proofs.YtabdcfcnngnnoaaDoor.E.Bit
