/- The reference's functions of layer 2 that read and write numbers. -/
import Derived.Test.YthbkemkjkpaoaaaDoorXPureDl
import Derived.Test.YthbkemkjkpaoaaaDoorXPureDr
set_option linter.unusedVariables false
set_option linter.unusedSimpArgs false
namespace Go.Proofs.YthbkemkjkpaoaaaDoor.Pure
open Go.RowKit Go.Proofs.YthbkemkjkpaoaaaDoor.X Go.Proofs.YthbkemkjkpaoaaaDoor.Bit Go.Proofs.YthbkemkjkpaoaaaDoorW.PrintWords Go.Proofs.YthbkemkjkpaoaaaDoorW.PrintLast Go.Proofs.YthbkemkjkpaoaaaDoorW.PrintMore
theorem ubit_of (m : Nat) : IntKind.u64.wrap (Int.tmod (m : Int) 64) = ((m % 64 : Nat) : Int) := by
  rw [bit_of, wrapU (by omega) (by omega)]
theorem word_at {m : Nat} (hm : m < 9223372036854775808) : wrap64 (Int.tdiv (m : Int) 64) = ((m / 64 : Nat) : Int) := by rw [tdiv64 (by omega), wrap64_id (by omega) (by omega)]; omega
theorem refhas_eval {l : List Int} (hw : Wd l) (n : Int) (h1 : n < 9223372036854775808) : portolanref02_Has.f l n = some (hasB l n) := by
  unfold portolanref02_Has.f
  by_cases h0 : n ≥ 0
  · obtain ⟨m, rfl⟩ := Int.eq_ofNat_of_zero_le h0
    rw [if_pos h0, word_at (by omega), ubit_of]
    unfold hasB
    rw [decide_eq_true (show (0 : Int) ≤ (m : Int) from h0), Bool.true_and, Int.toNat_natCast]
    by_cases hl : ((m / 64 : Nat) : Int) < (l.length : Int)
    · rw [if_pos hl, if_pos (Int.natCast_nonneg _), if_pos (Int.natCast_nonneg _), rd_nat, has_bit (hw.getD _) (Int.natCast_nonneg _) (by omega), Int.toNat_natCast]
      rfl
    · rw [if_neg hl, tb_ge (by omega)]
  · rw [if_neg h0]
    unfold hasB
    rw [decide_eq_false (by omega), Bool.false_and]
/-- The numbers below i. -/
def uptoL (l : List Int) (i : Nat) : List Nat := (List.range i).filter fun n => tb l n
theorem reflist_loop (l : List Int) (hw : Wd l) (hl : l.length ≤ 1000000) : ∀ (d i : Nat), 64 * l.length - i = d → i ≤ 64 * l.length → Ev (fun k => portolanref02_List.l0 k l (toI (uptoL l i)) (i : Int)) (toI (numsL l l.length)) := by
  have hlen : wrap64 (64 * (l.length : Int)) = ((64 * l.length : Nat) : Int) := by rw [wrap64_id (by omega) (by omega)]; omega
  intro d
  induction d with
  | zero =>
    intro i hd hi
    have e : i = 64 * l.length := by omega
    subst e
    refine Ev.step (f := fun _ => some (toI (numsL l l.length))) (fun k => ?_) (Ev.now _)
    simp only [portolanref02_List.l0]
    rw [hlen, if_neg (by omega)]
    rfl
  | succ d ih =>
    intro i hd hi
    have hlt : i < 64 * l.length := by omega
    have next := ih (i + 1) (by omega) (by omega)
    have hh : portolanref02_Has.f l (i : Int) = some (tb l i) := by
      rw [refhas_eval hw _ (by omega)]
      unfold hasB
      rw [decide_eq_true (Int.natCast_nonneg _), Bool.true_and, Int.toNat_natCast]
    have hw1 : wrap64 ((i : Int) + 1) = ((i + 1 : Nat) : Int) := by rw [wrap64_id (by omega) (by omega)]; omega
    have hacc : (toI (uptoL l i)).length ≤ i := by
      have := List.length_filter_le (fun n => tb l n) (List.range i)
      simpa [toI, uptoL] using this
    have hup : uptoL l (i + 1) = if tb l i = true then uptoL l i ++ [i] else uptoL l i := by
      unfold uptoL
      rw [List.range_succ, List.filter_append, List.filter_cons]
      split <;> simp
    refine Ev.step (fun k => ?_) next
    simp only [portolanref02_List.l0]
    rw [hlen, if_pos (by omega), hh, Option.bind_some, hw1, hup]
    by_cases ht : tb l i = true
    · rw [if_pos ht, if_pos ht, if_pos (by omega)]
      simp [toI]
    · rw [if_neg ht, if_neg ht]
theorem reflist_eval {l : List Int} (hw : Wd l) (hl : l.length ≤ 1000000) : Ev (fun k => portolanref02_List.f k l) (toI (numsL l l.length)) := reflist_loop l hw hl _ 0 rfl (Nat.zero_le _)
theorem put_loop (m : Nat) (hm : m < 4096) : ∀ (d : Nat) (x : List Int), m / 64 + 1 - x.length = d → Wd x → x.length ≤ 1000000 → Ev (fun k => portolanref02_put.l0 k (m : Int) x) (orL (padL x (m / 64)) m) := by
  intro d
  induction d with
  | zero =>
    intro x hd hw hx
    have hp : padL x (m / 64) = x := by unfold padL; rw [hd]; simp
    rw [hp]
    refine Ev.step (f := fun _ => some (orL x m)) (fun k => ?_) (Ev.now _)
    simp only [portolanref02_put.l0]
    rw [word_at (by omega), ubit_of, if_neg (by omega), if_pos (Int.natCast_nonneg _), if_pos (by omega), if_pos (Int.natCast_nonneg _), or_word hw m]
  | succ d ih =>
    intro x hd hw hx
    have hp : padL (x ++ [0]) (m / 64) = padL x (m / 64) := by
      unfold padL
      rw [hd, List.length_append, List.length_singleton, show m / 64 + 1 - (x.length + 1) = d from by omega, List.append_assoc, List.replicate_succ]
      rfl
    have next := ih (x ++ [0]) (by rw [List.length_append, List.length_singleton]; omega) (hw.append (fun y hy => by simp at hy; subst hy; decide)) (by rw [List.length_append, List.length_singleton]; omega)
    rw [hp] at next
    refine Ev.step (fun k => ?_) next
    simp only [portolanref02_put.l0]
    rw [word_at (by omega), if_pos (by omega), if_pos (by omega)]
theorem put_eval {x : List Int} (hw : Wd x) (hx : x.length ≤ 100000) {n : Int} (h0 : 0 ≤ n) (h1 : n < 4096) : Ev (fun k => portolanref02_put.f k x n) (putL x n) := by
  obtain ⟨m, rfl⟩ := Int.eq_ofNat_of_zero_le h0
  have hp : putL x (m : Int) = orL (padL x (m / 64)) m := by unfold putL; rw [if_pos ⟨h0, h1⟩, Int.toNat_natCast]
  rw [hp]
  refine Ev.congr (fun k => ?_) (put_loop m (by omega) _ x rfl hw (by omega))
  unfold portolanref02_put.f
  rw [Option.bind_some, List.nil_append, if_pos (by simp; omega)]
theorem refwith_loop (l : List Int) (hl : l.length ≤ 1000000) :
    ∀ (post pre : List Int) (x : List Int), l = pre ++ post → Wd x → x.length ≤ 100000 → Ev (fun k => portolanref02_With.l0 k l x (pre.length : Int)) (neatL (post.foldl putL x)) := by
  intro post
  induction post with
  | nil =>
    intro pre x he hw hx
    refine Ev.step (f := fun k => (portolanref02_Neat.f k x).bind fun t => some t) (fun k => ?_) (Ev.bind (refneat_eval (by omega)) (Ev.now _))
    simp only [portolanref02_With.l0]
    rw [if_neg (by rw [he]; simp)]
  | cons n post ih =>
    intro pre x he hw hx
    have hlt : (pre.length : Int) < (l.length : Int) := by rw [he]; simp; omega
    have hplus : wrap64 ((pre.length : Int) + 1) = ((pre ++ [n]).length : Int) := by
      rw [wrap64_id (by omega) (by omega)]; simp
    have hrd : rd l (pre.length : Int) = n := by rw [he]; exact rd_mid pre post n
    have next := ih (pre ++ [n]) (putL x n) (by rw [he]; simp) (putL_Wd hw n) (by have := putL_length x n; omega)
    rw [List.foldl_cons]
    by_cases hs : 0 ≤ n ∧ n < 4096
    · refine Ev.step (f := fun k => (portolanref02_put.f k x n).bind fun t => portolanref02_With.l0 k l t ((pre ++ [n]).length : Int)) (fun k => ?_) (Ev.bind (put_eval hw hx hs.1 hs.2) next)
      simp only [portolanref02_With.l0]
      rw [if_pos hlt, if_pos (by omega), hrd, hplus]
      unfold portolanref02_small.f
      rw [if_pos hs.1, Option.bind_some, if_pos (decide_eq_true hs.2)]
    · have e : putL x n = x := by unfold putL; rw [if_neg hs]
      rw [e] at next ⊢
      refine Ev.step (fun k => ?_) next
      simp only [portolanref02_With.l0]
      rw [if_pos hlt, if_pos (by omega), hrd, hplus]
      unfold portolanref02_small.f
      by_cases h0 : n ≥ 0
      · rw [if_pos h0, Option.bind_some, if_neg (by simp; omega)]
      · rw [if_neg h0, Option.bind_some, if_neg (by decide)]
theorem refwith_eval {s l : List Int} (hw : Wd s) (hs : s.length ≤ 100000) (hl : l.length ≤ 1000000) : Ev (fun k => portolanref02_With.f k s l) (neatL (l.foldl putL s)) := refwith_loop l hl l [] s rfl hw hs
theorem refof_eval {l : List Int} (hl : l.length ≤ 1000000) : Ev (fun k => portolanref02_Of.f k l) (neatL (l.foldl putL [])) := Ev.bind (refwith_eval Wd.nil (by simp) hl) (Ev.now _)
theorem sub_bit {x b : Nat} (h : x.testBit b = true) (j : Nat) : (x - 2 ^ b).testBit j = (x.testBit j && !(2 ^ b).testBit j) := by
  have hp : 0 < 2 ^ b := Nat.two_pow_pos b
  rw [Nat.testBit_eq_decide_div_mod_eq, decide_eq_true_iff] at h
  obtain ⟨m, hm⟩ : ∃ m, x / 2 ^ b = 2 * m + 1 := ⟨x / 2 ^ b / 2, by omega⟩
  have hx : x = 2 ^ b * (2 * m + 1) + x % 2 ^ b := by rw [← hm]; exact (Nat.div_add_mod x (2 ^ b)).symm
  have hlow : x % 2 ^ b < 2 ^ b := Nat.mod_lt _ hp
  generalize x % 2 ^ b = low at *
  have hs : x - 2 ^ b = 2 ^ b * (2 * m) + low := by rw [hx, Nat.mul_add]; omega
  rw [hs, hx, Nat.testBit_two_pow_mul_add _ hlow, Nat.testBit_two_pow_mul_add _ hlow, Nat.testBit_two_pow]
  by_cases hj : j < b
  · rw [if_pos hj, if_pos hj, decide_eq_false (by omega)]; simp
  · rw [if_neg hj, if_neg hj]
    rcases Nat.eq_or_lt_of_le (Nat.le_of_not_lt hj) with e | e
    · subst e
      rw [Nat.sub_self, Nat.testBit_zero, Nat.testBit_zero]
      simp
    · obtain ⟨i, hi⟩ : ∃ i, j - b = i + 1 := ⟨j - b - 1, by omega⟩
      rw [hi, Nat.testBit_succ, Nat.testBit_succ, decide_eq_false (by omega), Bool.not_false, Bool.and_true]
      congr 1
      omega
theorem sub_word {x : Int} (hx : 0 ≤ x ∧ x < 18446744073709551616) {b : Nat} (hb : b < 64) (h : x.toNat.testBit b = true) : IntKind.u64.wrap (x - ((2 ^ b : Nat) : Int)) = Go.bits .andNot .u64 x ((2 ^ b : Nat) : Int) := by
  have hp := pow_lt hb
  obtain ⟨n0, _, nt⟩ := bits_andNot hx ⟨Int.natCast_nonneg (2 ^ b), lt_cast hp⟩
  have hle : 2 ^ b ≤ x.toNat := Nat.ge_two_pow_of_testBit h
  have e : (Go.bits .andNot .u64 x ((2 ^ b : Nat) : Int)).toNat = x.toNat - 2 ^ b := by
    refine Nat.eq_of_testBit_eq fun j => ?_
    rw [nt, sub_bit h, Int.toNat_natCast]
  generalize Go.bits .andNot .u64 x ((2 ^ b : Nat) : Int) = y at *
  generalize (2 ^ b : Nat) = p at *
  rw [wrapU (by omega) (by omega)]
  omega
theorem refwithout_loop (l : List Int) (hl : l.length ≤ 1000000) (hr : ∀ n ∈ l, -9223372036854775808 ≤ n ∧ n < 9223372036854775808) :
    ∀ (post pre : List Int) (x : List Int), l = pre ++ post → Wd x → x.length ≤ 1000000 → Ev (fun k => portolanref02_Without.l0 k l x (pre.length : Int)) (neatL (post.foldl dropL x)) := by
  intro post
  induction post with
  | nil =>
    intro pre x he hw hx
    refine Ev.step (f := fun k => (portolanref02_Neat.f k x).bind fun t => some t) (fun k => ?_) (Ev.bind (refneat_eval (by omega)) (Ev.now _))
    simp only [portolanref02_Without.l0]
    rw [if_neg (by rw [he]; simp)]
  | cons n post ih =>
    intro pre x he hw hx
    have hn := hr n (by rw [he]; simp)
    have hlt : (pre.length : Int) < (l.length : Int) := by rw [he]; simp; omega
    have hplus : wrap64 ((pre.length : Int) + 1) = ((pre ++ [n]).length : Int) := by
      rw [wrap64_id (by omega) (by omega)]; simp
    have hrd : rd l (pre.length : Int) = n := by rw [he]; exact rd_mid pre post n
    have next := ih (pre ++ [n]) (dropL x n) (by rw [he]; simp) (dropL_Wd hw n) (by rw [dropL_length]; exact hx)
    rw [List.foldl_cons]
    refine Ev.step (f := fun k => portolanref02_Without.l0 k l (dropL x n) ((pre ++ [n]).length : Int)) (fun k => ?_) next
    simp only [portolanref02_Without.l0]
    rw [if_pos hlt, if_pos (by omega), hrd, refhas_eval hw n hn.2, Option.bind_some, hplus]
    by_cases hb : hasB x n = true
    · obtain ⟨h0, h1⟩ := hasB_lt hb
      obtain ⟨m, rfl⟩ := Int.eq_ofNat_of_zero_le h0
      rw [Int.toNat_natCast] at h1
      have hbit : (x.getD (m / 64) 0).toNat.testBit (m % 64) = true := by
        have := hb
        unfold hasB at this
        rw [Bool.and_eq_true, Int.toNat_natCast] at this
        exact this.2
      have h64 : m % 64 < 64 := Nat.mod_lt _ (by decide)
      rw [if_pos hb, word_at (by omega), ubit_of, if_pos (by omega), if_pos (by omega), if_pos (by omega), shl_one (by omega) (by omega), rd_nat, Int.toNat_natCast, Int.toNat_natCast, sub_word (hw.getD _) h64 hbit]
      unfold dropL
      rw [if_pos hb, Int.toNat_natCast]
    · rw [if_neg hb]
      unfold dropL
      rw [if_neg hb]
theorem refwithout_eval {s l : List Int} (hw : Wd s) (hs : s.length ≤ 1000000) (hl : l.length ≤ 1000000) (hr : ∀ n ∈ l, -9223372036854775808 ≤ n ∧ n < 9223372036854775808) : Ev (fun k => portolanref02_Without.f k s l) (neatL (l.foldl dropL s)) := by
  refine Ev.congr (fun k => ?_) (refwithout_loop l hl hr l [] s rfl hw hs)
  unfold portolanref02_Without.f
  rw [Option.bind_some, List.nil_append, if_pos (by simp; omega)]
  rfl
theorem ints_loop (l : List Int) (hl : l.length ≤ 100000000) : ∀ (d i : Nat), l.length - i = d → i ≤ l.length → Ev (fun k => portolanref01_Ints.l0 k l l (i : Int)) true := by
  intro d
  induction d with
  | zero =>
    intro i hd hi
    refine Ev.step (f := fun _ => some true) (fun k => ?_) (Ev.now _)
    simp only [portolanref01_Ints.l0]
    rw [if_neg (by omega)]
  | succ d ih =>
    intro i hd hi
    have next := ih (i + 1) (by omega) (by omega)
    have hw1 : wrap64 ((i : Int) + 1) = ((i + 1 : Nat) : Int) := by rw [wrap64_id (by omega) (by omega)]; omega
    refine Ev.step (fun k => ?_) next
    simp only [portolanref01_Ints.l0]
    rw [if_pos (by omega), if_pos (by omega), if_pos (by omega), if_pos trivial, hw1]
theorem ints_eval {l : List Int} (hl : l.length ≤ 100000000) : Ev (fun k => portolanref01_Ints.f k l l) true := by
  refine Ev.congr (fun k => ?_) (ints_loop l hl _ 0 rfl (Nat.zero_le _))
  unfold portolanref01_Ints.f
  rw [if_pos rfl]
  rfl
end Go.Proofs.YthbkemkjkpaoaaaDoor.Pure
