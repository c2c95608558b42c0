/- A set's numbers, told one by one. -/
import Derived.Test.YthbkemkjkpaoaaaDoorXPureDm
set_option linter.unusedVariables false
set_option linter.unusedSimpArgs false
namespace Go.Proofs.YthbkemkjkpaoaaaDoor.Pure
open Go.RowKit Go.Proofs.YthbkemkjkpaoaaaDoor.X Go.Proofs.YthbkemkjkpaoaaaDoor.Bit Go.Proofs.YthbkemkjkpaoaaaDoorW.PrintWords Go.Proofs.YthbkemkjkpaoaaaDoorW.PrintLast Go.Proofs.YthbkemkjkpaoaaaDoorW.PrintMore
/-- The numbers of a word. -/
def bitsOf (n x : Nat) : List Nat := (List.range n).filter fun i => x.testBit i
theorem range_split {n c : Nat} (h : c < n) : List.range n = List.range c ++ c :: (List.range (n - c - 1)).map (fun j => c + 1 + j) := by
  have e : n = c + (1 + (n - c - 1)) := by omega
  generalize n - c - 1 = m at *
  subst e
  rw [List.range_add, List.range_add, List.range_one, List.map_append, List.map_singleton, List.map_map, Nat.add_zero, List.singleton_append]
  congr 2
  refine List.map_congr_left fun j _ => ?_
  simp only [Function.comp_apply]
  omega
theorem filter_first {n c : Nat} {p q : Nat → Bool} (hc : c < n) (h1 : p c = true) (h0 : ∀ i, i < c → p i = false) (hq : ∀ i, q i = (p i && decide (i ≠ c))) : (List.range n).filter p = c :: (List.range n).filter q := by
  rw [range_split hc, List.filter_append, List.filter_append, List.filter_cons, List.filter_cons]
  have e1 : (List.range c).filter p = [] := List.filter_eq_nil_iff.2 fun i hi => by rw [h0 i (List.mem_range.1 hi)]; decide
  have e2 : (List.range c).filter q = [] := List.filter_eq_nil_iff.2 fun i hi => by rw [hq, h0 i (List.mem_range.1 hi), Bool.false_and]; decide
  have e3 : q c = false := by rw [hq]; simp
  rw [e1, e2, h1, e3, if_pos rfl, if_neg (by decide), List.nil_append, List.nil_append]
  congr 1
  refine List.filter_congr fun i hi => ?_
  obtain ⟨j, _, rfl⟩ := List.mem_map.1 hi
  rw [hq, decide_eq_true (by omega), Bool.and_true]
theorem low_form {x : Nat} (h0 : x ≠ 0) (h : x < 2 ^ 64) : ∃ m, x = 2 ^ Lib.ctz 64 x * (2 * m + 1) ∧ Lib.ctz 64 x < 64 := by
  have e : Lib.ctz 64 x = Lib.ctzFrom 64 x := by unfold Lib.ctz; rw [if_neg h0]
  rw [e]
  exact Lib.ctzFrom_spec 64 x (by omega) h
theorem low_and (c m : Nat) : (2 ^ c * (2 * m + 1)) &&& (2 ^ c * (2 * m + 1) - 1) = 2 ^ c * (2 * m) := by
  have hp : 0 < 2 ^ c := Nat.two_pow_pos c
  have e : 2 ^ c * (2 * m + 1) - 1 = 2 ^ c * (2 * m) + (2 ^ c - 1) := by rw [Nat.mul_add]; omega
  have h := and_split c (2 * m + 1) (2 * m) 0 (2 ^ c - 1) hp (by omega)
  have h1 : (2 * m + 1) &&& (2 * m) = 2 * m := by
    have := and_split 1 m m 1 0 (by decide) (by decide)
    simpa using this
  rw [Nat.add_zero] at h
  rw [e, h, h1]
  simp
theorem low_bits (c m i : Nat) : (2 ^ c * (2 * m)).testBit i = ((2 ^ c * (2 * m + 1)).testBit i && decide (i ≠ c)) := by
  have h1 := Nat.testBit_two_pow_mul_add (i := c) (2 * m) (b := 0) (Nat.two_pow_pos c) i
  have h2 := Nat.testBit_two_pow_mul_add (i := c) (2 * m + 1) (b := 0) (Nat.two_pow_pos c) i
  rw [Nat.add_zero] at h1 h2
  rw [h1, h2]
  by_cases h : i < c
  · rw [if_pos h, if_pos h, Nat.zero_testBit, Bool.false_and]
  · rw [if_neg h, if_neg h]
    rcases Nat.eq_or_lt_of_le (Nat.le_of_not_lt h) with e | e
    · subst e
      rw [Nat.sub_self, Nat.testBit_zero, Nat.testBit_zero]
      simp
    · obtain ⟨j, hj⟩ : ∃ j, i - c = j + 1 := ⟨i - c - 1, by omega⟩
      rw [hj, Nat.testBit_succ, Nat.testBit_succ, decide_eq_true (by omega), Bool.and_true]
      congr 1
      omega
theorem low_none (c m i : Nat) (h : i < c) : (2 ^ c * (2 * m + 1)).testBit i = false := by
  have h2 := Nat.testBit_two_pow_mul_add (i := c) (2 * m + 1) (b := 0) (Nat.two_pow_pos c) i
  rw [Nat.add_zero] at h2
  rw [h2, if_pos h, Nat.zero_testBit]
theorem low_there (c m : Nat) : (2 ^ c * (2 * m + 1)).testBit c = true := by
  have h2 := Nat.testBit_two_pow_mul_add (i := c) (2 * m + 1) (b := 0) (Nat.two_pow_pos c) c
  rw [Nat.add_zero] at h2
  rw [h2, if_neg (Nat.lt_irrefl _), Nat.sub_self, Nat.testBit_zero]
  simp
/-- The lowest number of a word, and the rest. -/
theorem bits_first {x : Nat} (h0 : x ≠ 0) (h : x < 2 ^ 64) : bitsOf 64 x = Lib.ctz 64 x :: bitsOf 64 (x &&& (x - 1)) := by
  obtain ⟨m, hm, hc⟩ := low_form h0 h
  generalize Lib.ctz 64 x = c at *
  subst hm
  rw [low_and]
  exact filter_first hc (low_there c m) (fun i hi => low_none c m i hi) (fun i => low_bits c m i)
theorem bits_none {x : Nat} (h : x < 2 ^ 64) (hb : bitsOf 64 x = []) : x = 0 := by
  rcases Nat.eq_zero_or_pos x with h0 | h0
  · exact h0
  · rw [bits_first (by omega) h] at hb; cases hb
theorem pc_bits : ∀ n x, pc n x = (bitsOf n x).length
  | 0, _ => rfl
  | n + 1, x => by
    show x % 2 + pc n (x / 2) = _
    rw [pc_bits n (x / 2)]
    unfold bitsOf
    rw [List.range_succ_eq_map, List.filter_cons, List.filter_map, Nat.testBit_zero]
    have e : (List.range n).filter ((fun i => x.testBit i) ∘ Nat.succ) = (List.range n).filter fun i => (x / 2).testBit i := List.filter_congr fun i _ => by
      simp only [Function.comp_apply, Nat.succ_eq_add_one, Nat.testBit_succ]
    rw [e]
    rcases Nat.mod_two_eq_zero_or_one x with h | h
    · rw [h, decide_eq_false (by decide), if_neg (by decide), List.length_map, Nat.zero_add]
    · rw [h, decide_eq_true rfl, if_pos rfl, List.length_cons, List.length_map, Nat.add_comm]
/-- A set's numbers. -/
def numsL (l : List Int) (n : Nat) : List Nat := (List.range (64 * n)).filter fun i => tb l i
theorem numsL_succ (l : List Int) (n : Nat) : numsL l (n + 1) = numsL l n ++ (bitsOf 64 (l.getD n 0).toNat).map fun b => 64 * n + b := by
  unfold numsL bitsOf
  rw [show 64 * (n + 1) = 64 * n + 64 from by omega, List.range_add, List.filter_append, List.filter_map]
  congr 2
  refine List.filter_congr fun b hb => ?_
  have hb' := List.mem_range.1 hb
  simp only [Function.comp_apply, tb]
  rw [show (64 * n + b) / 64 = n from by omega, show (64 * n + b) % 64 = b from by omega]
theorem numsL_length (l : List Int) (n : Nat) : (numsL l n).length ≤ 64 * n := by
  unfold numsL
  have := List.length_filter_le (fun i => tb l i) (List.range (64 * n))
  simpa using this
def toI (l : List Nat) : List Int := l.map fun n : Nat => (n : Int)
theorem clear_low {x : Nat} (h0 : x ≠ 0) (h : x < 18446744073709551616) : Go.bits .and .u64 (x : Int) (IntKind.u64.wrap ((x : Int) - 1)) = ((x &&& (x - 1) : Nat) : Int) := by
  have e : IntKind.u64.wrap ((x : Int) - 1) = ((x - 1 : Nat) : Int) := by
    rw [show (x : Int) - 1 = ((x - 1 : Nat) : Int) from by omega]
    exact wrapU (Int.natCast_nonneg _) (lt_cast (by omega))
  rw [e, and_nat h (by omega)]
theorem inner (l : List Int) (i : Nat) (hi : i < 1000000) (r : List Int) : ∀ (bs : List Nat) (x : Nat) (acc : List Int), bitsOf 64 x = bs → x < 2 ^ 64 → acc.length + bs.length ≤ 1000000000 →
    Ev (fun k => bitset_List.l0 k (acc ++ toI (bs.map fun b => 64 * i + b)) l (l.length : Int) (wrap64 ((i : Int) + 1))) r → Ev (fun k => bitset_List.l1 k acc (i : Int) (x : Int) l (l.length : Int) (i : Int)) r := by
  intro bs
  induction bs with
  | nil =>
    intro x acc hb hx _ h
    have h0 := bits_none hx hb
    subst h0
    refine Ev.step (fun k => ?_) h
    simp only [bitset_List.l1]
    rw [if_pos (by rfl)]
    simp [toI]
  | cons b bs ih =>
    intro x acc hb hx hlen h
    have hx' : x < 18446744073709551616 := hx
    have h0 : x ≠ 0 := by
      intro e; subst e
      have : bitsOf 64 0 = [] := List.filter_eq_nil_iff.2 fun i _ => by simp
      rw [this] at hb; cases hb
    obtain ⟨_, _, hc⟩ := low_form h0 hx
    rw [bits_first h0 hx] at hb
    obtain ⟨hb1, hb2⟩ := List.cons.inj hb
    rw [List.length_cons] at hlen
    have next := ih (x &&& (x - 1)) (acc ++ [((64 * i + b : Nat) : Int)]) hb2 (Nat.lt_of_le_of_lt Nat.and_le_left hx) (by rw [List.length_append, List.length_singleton]; omega) (by
      rw [List.append_assoc]
      exact h)
    refine Ev.step (fun k => ?_) next
    simp only [bitset_List.l1]
    have ht : bits_TrailingZeros64.f (x : Int) = some (b : Int) := by
      unfold bits_TrailingZeros64.f
      rw [if_pos (Int.natCast_nonneg _), if_pos (lt_cast hx'), Int.toNat_natCast, hb1]
    have hw : wrap64 (wrap64 ((i : Int) * 64) + (b : Int)) = ((64 * i + b : Nat) : Int) := by
      rw [hb1] at hc
      rw [wrap64_id (n := (i : Int) * 64) (by omega) (by omega), wrap64_id (by omega) (by omega)]
      omega
    rw [if_neg (by omega), ht, Option.bind_some, if_pos (by omega), hw, clear_low h0 hx']
theorem list_loop (l : List Int) (hw : Wd l) (hl : l.length ≤ 1000000) : ∀ (d i : Nat), l.length - i = d → i ≤ l.length → Ev (fun k => bitset_List.l0 k (toI (numsL l i)) l (l.length : Int) (i : Int)) (toI (numsL l l.length)) := by
  intro d
  induction d with
  | zero =>
    intro i hd hi
    have e : i = l.length := by omega
    subst e
    refine Ev.step (f := fun _ => some (toI (numsL l l.length))) (fun k => ?_) (Ev.now _)
    simp only [bitset_List.l0]
    rw [if_neg (by omega)]
  | succ d ih =>
    intro i hd hi
    have hlt : i < l.length := by omega
    have hx := hw.getD i
    have next := ih (i + 1) (by omega) (by omega)
    rw [numsL_succ] at next
    have hb : (bitsOf 64 (l.getD i 0).toNat).length ≤ 64 := by rw [← pc_bits]; exact pc_le _ _
    have hn := numsL_length l i
    have hlen : (toI (numsL l i)).length = (numsL l i).length := by simp [toI]
    have step := inner l i (by omega) (toI (numsL l l.length)) _ (l.getD i 0).toNat (toI (numsL l i)) rfl (by omega) (by rw [hlen]; omega) (by
      rw [wrap_succ hlt hl]
      have e : toI (numsL l i) ++ toI ((bitsOf 64 (l.getD i 0).toNat).map fun b => 64 * i + b) = toI (numsL l i ++ (bitsOf 64 (l.getD i 0).toNat).map fun b => 64 * i + b) := by simp [toI]
      rw [e]; exact next)
    rw [Int.toNat_of_nonneg hx.1] at step
    refine Ev.step (fun k => ?_) step
    simp only [bitset_List.l0]
    rw [if_pos (by omega), if_pos (by omega), if_pos (by omega), rd_nat]
theorem list_eval {l : List Int} (hw : Wd l) (hl : l.length ≤ 1000000) : Ev (fun k => bitset_List.f k l) (toI (numsL l l.length)) := by
  have := list_loop l hw hl l.length 0 rfl (Nat.zero_le _)
  exact this
theorem countL_nums {l : List Int} (hw : Wd l) : countL l = (numsL l l.length).length := by
  have h : ∀ n, n ≤ l.length → countL (l.take n) = (numsL l n).length := by
    intro n
    induction n with
    | zero => intro _; rfl
    | succ n ih =>
      intro hn
      have hx : l.getD n 0 = l[n] := by rw [List.getD_eq_getElem?_getD, List.getElem?_eq_getElem (by omega)]; rfl
      rw [numsL_succ, List.length_append, List.length_map, ← ih (by omega), ← pc_bits, hx, List.take_add_one, List.getElem?_eq_getElem (by omega)]
      unfold countL
      rw [List.map_append, List.sum_append, Option.toList_some, List.map_singleton, List.sum_singleton]
  have := h l.length (Nat.le_refl _)
  rwa [List.take_length] at this
theorem mem_nums {l : List Int} {n : Nat} : n ∈ numsL l l.length ↔ tb l n = true := by
  unfold numsL
  rw [List.mem_filter, List.mem_range]
  refine ⟨fun h => h.2, fun h => ⟨?_, h⟩⟩
  apply Nat.lt_of_not_le
  intro hle
  rw [tb_ge (by omega)] at h
  cases h
theorem nums_sorted (l : List Int) (n : Nat) : (numsL l n).Pairwise (· < ·) := List.Pairwise.filter _ List.pairwise_lt_range
end Go.Proofs.YthbkemkjkpaoaaaDoor.Pure
