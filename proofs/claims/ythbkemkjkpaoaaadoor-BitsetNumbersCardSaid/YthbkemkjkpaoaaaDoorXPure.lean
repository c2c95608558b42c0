/- The functions of layer 2, as the print tells them, come to the plain laws' words. -/
import Derived.Test.YthbkemkjkpaoaaaDoorXBits
import Derived.Test.YthbkemkjkpaoaaaDoorXx3
set_option linter.unusedVariables false
set_option linter.unusedSimpArgs false
namespace Go.Proofs.YthbkemkjkpaoaaaDoor.Pure
open Go.RowKit Go.Proofs.YthbkemkjkpaoaaaDoor.X Go.Proofs.YthbkemkjkpaoaaaDoor.Bit Go.Proofs.YthbkemkjkpaoaaaDoorW.PrintWords Go.Proofs.YthbkemkjkpaoaaaDoorW.PrintLast Go.Proofs.YthbkemkjkpaoaaaDoorW.PrintMore

theorem rd_at {l : List Int} {i : Int} (h : 0 ≤ i) : rd l i = l.getD i.toNat 0 := rfl
theorem rd_mid (pre post : List Int) (x : Int) : rd (pre ++ x :: post) (pre.length : Int) = x := by
  unfold rd; simp [List.getD_eq_getElem?_getD]
theorem tdiv64 {n : Int} (h : 0 ≤ n) : Int.tdiv n 64 = n / 64 := Int.tdiv_eq_ediv_of_nonneg h
theorem tmod64 {n : Int} (h : 0 ≤ n) : Int.tmod n 64 = n % 64 := Int.tmod_eq_emod_of_nonneg h
theorem has_eval {l : List Int} (hw : Wd l) (n : Int) (h1 : n < 9223372036854775808) : bitset_Has.f l n = some (hasB l n) := by
  unfold bitset_Has.f
  by_cases h0 : n ≥ 0
  · have e : wrap64 (Int.tdiv n 64) = n / 64 := by rw [tdiv64 h0]; exact wrap64_id (by omega) (by omega)
    rw [if_pos h0, e, tmod64 h0]
    have hd : (n / 64).toNat = n.toNat / 64 := by omega
    by_cases hl : n / 64 < (l.length : Int)
    · rw [if_pos hl, if_pos (by omega), if_pos (by omega), rd_at (by omega), has_bit (hw.getD _) (by omega) (by omega)]
      unfold hasB tb
      rw [decide_eq_true (show 0 ≤ n from h0), Bool.true_and, hd, show (n % 64).toNat = n.toNat % 64 from by omega]
    · rw [if_neg hl]
      unfold hasB
      rw [tb_ge (by omega), Bool.and_false]
  · rw [if_neg h0]
    unfold hasB
    rw [decide_eq_false (by omega), Bool.false_and]
theorem neat_eval (l : List Int) (hl : l.length ≤ 1000000) : Ev (fun k => bitset_neat.f k l) (neatL l) := by
  show Ev (fun k => bitset_neat.l0 k l) (neatL l)
  induction l using snoc_ind with
  | h0 => exact Ev.step (f := fun _ => some []) (fun k => by simp only [bitset_neat.l0]; rw [if_neg (by simp)]) (Ev.now _)
  | h1 l x ih =>
    have hlen : ((l ++ [x]).length : Int) = l.length + 1 := by simp
    have hl' : l.length + 1 ≤ 1000000 := by simpa using hl
    have e : wrap64 (((l ++ [x]).length : Int) - 1) = (l.length : Int) := by rw [hlen, wrap64_id (by omega) (by omega)]; omega
    have hr : rd (l ++ [x]) (l.length : Int) = x := rd_mid l [] x
    by_cases hx : x = 0
    · subst hx
      rw [neatL_snoc_zero]
      refine Ev.step (f := fun k => bitset_neat.l0 k l) (fun k => ?_) (ih (by omega))
      simp only [bitset_neat.l0]
      rw [e, hr, if_pos (by omega), if_pos (by omega), if_pos (by omega), if_pos rfl, if_pos (by omega)]
      congr 1
      simp
    · rw [neatL_snoc_ne _ _ hx]
      refine Ev.step (f := fun _ => some (l ++ [x])) (fun k => ?_) (Ev.now _)
      simp only [bitset_neat.l0]
      rw [e, hr, if_pos (by omega), if_pos (by omega), if_pos (by omega), if_neg hx]
theorem clone_eval (l : List Int) (hl : l.length ≤ 1000000) : slices_Clone_uint64_uint64.f l = some l := by
  unfold slices_Clone_uint64_uint64.f
  simp only [Option.bind_some, List.nil_append, List.length_nil, Nat.zero_add]
  rw [if_pos (by omega)]
theorem rd_nat (l : List Int) (i : Nat) : rd l (i : Int) = l.getD i 0 := by unfold rd; simp
theorem or_word {y : List Int} (hy : Wd y) (m : Nat) : y.set (((m / 64 : Nat) : Int)).toNat (Go.bits .or .u64 (rd y ((m / 64 : Nat) : Int)) (shl .u64 1 ((m % 64 : Nat) : Int))) = orL y m := by
  have hp := pow_lt (j := m % 64) (by omega)
  rw [shl_one (by omega) (by omega), rd_nat, Int.toNat_natCast, Int.toNat_natCast, bits_or (hy.getD _) ⟨Int.natCast_nonneg _, lt_cast hp⟩]
  rfl
theorem word_of {m : Nat} (hm : m < 4096) : wrap64 (Int.tdiv (m : Int) 64) = ((m / 64 : Nat) : Int) := by rw [tdiv64 (by omega), wrap64_id (by omega) (by omega)]; omega
theorem bit_of (m : Nat) : Int.tmod (m : Int) 64 = ((m % 64 : Nat) : Int) := by rw [tmod64 (by omega)]; omega
theorem more_of {q n : Nat} (hq : q < 1000) (hn : n ≤ 1000000) : wrap64 (wrap64 ((q : Int) + 1) - (n : Int)) = (q : Int) + 1 - (n : Int) := by
  rw [wrap64_id (n := (q : Int) + 1) (by omega) (by omega), wrap64_id (by omega) (by omega)]
theorem with_round (k : Nat) (l : List Int) (len i : Int) (m : Nat) (x : List Int) (hm : m < 4096) (hw : Wd x) (hx : x.length ≤ 1000000) :
    bitset_With.j1 (k + 1) x (m : Int) l len i false = bitset_With.l0 k (putL x (m : Int)) l len (wrap64 (i + 1)) := by
  have hput : putL x (m : Int) = orL (padL x (m / 64)) m := by unfold putL; rw [if_pos (by omega)]; simp
  have hq : m / 64 < 64 := by omega
  simp only [bitset_With.j1]
  rw [if_neg (by decide), word_of hm, bit_of, more_of (by omega) hx, hput]
  generalize hqe : m / 64 = q at *
  have h64 : (0 : Int) ≤ ((m % 64 : Nat) : Int) := Int.natCast_nonneg _
  have hor : ∀ y : List Int, Wd y → y.set ((q : Int)).toNat (Go.bits .or .u64 (rd y (q : Int)) (shl .u64 1 ((m % 64 : Nat) : Int))) = orL y m := fun y hy => by
    have := or_word hy m
    rwa [hqe] at this
  by_cases hmore : (q : Int) + 1 - (x.length : Int) > 0
  · have hpad : x ++ List.replicate ((q : Int) + 1 - (x.length : Int)).toNat 0 = padL x q := by
      unfold padL
      rw [show ((q : Int) + 1 - (x.length : Int)).toNat = q + 1 - x.length from by omega]
    have hlen := padL_length x q
    have c1 : (0 : Int) ≤ (q : Int) + 1 - (x.length : Int) := by omega
    have c2 : x.length + ((q : Int) + 1 - (x.length : Int)).toNat < 17592186044416 := by omega
    have c3 : (0 : Int) ≤ (q : Int) := by omega
    have c4 : (q : Int) < ((padL x q).length : Int) := by omega
    rw [if_pos hmore, if_pos c1, if_pos c2, hpad, Option.bind_some, if_pos c3, if_pos c4, if_pos h64, hor _ (padL_Wd hw _)]
  · have hpad : padL x q = x := by
      unfold padL
      rw [show q + 1 - x.length = 0 from by omega]
      simp
    have c3 : (0 : Int) ≤ (q : Int) := by omega
    have c4 : (q : Int) < (x.length : Int) := by omega
    rw [if_neg hmore, if_pos c3, if_pos c4, if_pos h64, hor _ hw, hpad]
/-- One round of With. -/
theorem with_loop (l : List Int) (hl : l.length ≤ 1000000) (hr : ∀ n ∈ l, -9223372036854775808 ≤ n ∧ n < 9223372036854775808) :
    ∀ (post pre : List Int) (x : List Int), l = pre ++ post → Wd x → x.length ≤ 1000000 → Ev (fun k => bitset_With.l0 k x l (l.length : Int) (pre.length : Int)) (neatL (post.foldl putL x)) := by
  intro post
  induction post with
  | nil =>
    intro pre x he hw hx
    refine Ev.step (f := fun k => (bitset_neat.f k x).bind fun t => some t) (fun k => ?_) (Ev.bind (neat_eval x hx) (Ev.now _))
    simp only [bitset_With.l0]
    rw [if_neg (by rw [he]; simp)]
  | cons n post ih =>
    intro pre x he hw hx
    have hn := hr n (by rw [he]; simp)
    have hlt : (pre.length : Int) < (l.length : Int) := by rw [he]; simp; omega
    have hplus : wrap64 ((pre.length : Int) + 1) = ((pre ++ [n]).length : Int) := by
      rw [wrap64_id (by omega) (by omega)]; simp
    have hrd : rd l (pre.length : Int) = n := by rw [he]; exact rd_mid pre post n
    have next := ih (pre ++ [n]) (putL x n) (by rw [he]; simp) (putL_Wd hw n) (by have := putL_length x n; omega)
    have small : n < 0 ∨ n ≥ 4096 → putL x n = x := fun h => by unfold putL; rw [if_neg (by omega)]
    rw [List.foldl_cons]
    by_cases hneg : n < 0
    · rw [small (.inl hneg)] at next ⊢
      refine Ev.step (f := fun k => bitset_With.j1 k x n l (l.length : Int) (pre.length : Int) true) (fun k => ?_) (Ev.step (f := fun k => bitset_With.l0 k x l (l.length : Int) ((pre ++ [n]).length : Int)) (fun k => ?_) next)
      · simp only [bitset_With.l0]
        rw [if_pos hlt, if_pos (by omega), if_pos hlt, hrd, if_pos hneg]
      · simp only [bitset_With.j1]
        rw [if_pos trivial, hplus]
    · by_cases hbig : n ≥ 4096
      · rw [small (.inr hbig)] at next ⊢
        refine Ev.step (f := fun k => bitset_With.j1 k x n l (l.length : Int) (pre.length : Int) true) (fun k => ?_) (Ev.step (f := fun k => bitset_With.l0 k x l (l.length : Int) ((pre ++ [n]).length : Int)) (fun k => ?_) next)
        · simp only [bitset_With.l0]
          rw [if_pos hlt, if_pos (by omega), if_pos hlt, hrd, if_neg hneg, decide_eq_true hbig]
        · simp only [bitset_With.j1]
          rw [if_pos trivial, hplus]
      · refine Ev.step (f := fun k => bitset_With.j1 k x n l (l.length : Int) (pre.length : Int) false) (fun k => ?_) (Ev.step (f := fun k => bitset_With.l0 k (putL x n) l (l.length : Int) ((pre ++ [n]).length : Int)) (fun k => ?_) next)
        · simp only [bitset_With.l0]
          rw [if_pos hlt, if_pos (by omega), if_pos hlt, hrd, if_neg hneg, decide_eq_false hbig]
        · obtain ⟨m, rfl⟩ := Int.eq_ofNat_of_zero_le (show 0 ≤ n by omega)
          rw [with_round k l _ _ m x (by omega) hw hx, hplus]
theorem with_eval {s l : List Int} (hw : Wd s) (hs : s.length ≤ 1000000) (hl : l.length ≤ 1000000) (hr : ∀ n ∈ l, -9223372036854775808 ≤ n ∧ n < 9223372036854775808) : Ev (fun k => bitset_With.f k s l) (neatL (l.foldl putL s)) := by
  unfold bitset_With.f
  refine Ev.congr (f := fun k => bitset_With.l0 k s l (l.length : Int) 0) (fun k => by rw [clone_eval s hs, Option.bind_some]) ?_
  exact with_loop l hl hr l [] s rfl hw hs
/-- One round of Without. -/
theorem without_loop (l : List Int) (hl : l.length ≤ 1000000) (hr : ∀ n ∈ l, -9223372036854775808 ≤ n ∧ n < 9223372036854775808) :
    ∀ (post pre : List Int) (x : List Int), l = pre ++ post → Wd x → x.length ≤ 1000000 → Ev (fun k => bitset_Without.l0 k x l (l.length : Int) (pre.length : Int)) (neatL (post.foldl dropL x)) := by
  intro post
  induction post with
  | nil =>
    intro pre x he hw hx
    refine Ev.step (f := fun k => (bitset_neat.f k x).bind fun t => some t) (fun k => ?_) (Ev.bind (neat_eval x hx) (Ev.now _))
    simp only [bitset_Without.l0]
    rw [if_neg (by rw [he]; simp)]
  | cons n post ih =>
    intro pre x he hw hx
    have hn := hr n (by rw [he]; simp)
    have hlt : (pre.length : Int) < (l.length : Int) := by rw [he]; simp; omega
    have hplus : wrap64 ((pre.length : Int) + 1) = ((pre ++ [n]).length : Int) := by
      rw [wrap64_id (by omega) (by omega)]; simp
    have hrd : rd l (pre.length : Int) = n := by rw [he]; exact rd_mid pre post n
    have next := ih (pre ++ [n]) (dropL x n) (by rw [he]; simp) (dropL_Wd hw n) (by rw [dropL_length]; exact hx)
    rw [List.foldl_cons]
    refine Ev.step (f := fun k => bitset_Without.l0 k (dropL x n) l (l.length : Int) ((pre ++ [n]).length : Int)) (fun k => ?_) next
    simp only [bitset_Without.l0]
    rw [if_pos hlt, if_pos (by omega), if_pos hlt, hrd, has_eval hw n hn.2, Option.bind_some, hplus]
    by_cases hb : hasB x n = true
    · obtain ⟨h0, h1⟩ := hasB_lt hb
      obtain ⟨m, rfl⟩ := Int.eq_ofNat_of_zero_le h0
      rw [Int.toNat_natCast] at h1
      have e1 : wrap64 (Int.tdiv (m : Int) 64) = ((m / 64 : Nat) : Int) := by rw [tdiv64 (by omega), wrap64_id (by omega) (by omega)]; omega
      have e2 : Int.tmod (m : Int) 64 = ((m % 64 : Nat) : Int) := by rw [tmod64 (by omega)]; omega
      have hp := pow_lt (j := m % 64) (by omega)
      rw [if_pos hb, e1, e2, if_pos (by omega), if_pos (by omega), if_pos (by omega), shl_one (by omega) (by omega), rd_nat, Int.toNat_natCast, Int.toNat_natCast]
      unfold dropL
      rw [if_pos hb, Int.toNat_natCast]
    · rw [if_neg hb]
      unfold dropL
      rw [if_neg hb]
theorem without_eval {s l : List Int} (hw : Wd s) (hs : s.length ≤ 1000000) (hl : l.length ≤ 1000000) (hr : ∀ n ∈ l, -9223372036854775808 ≤ n ∧ n < 9223372036854775808) : Ev (fun k => bitset_Without.f k s l) (neatL (l.foldl dropL s)) := by
  unfold bitset_Without.f
  refine Ev.congr (f := fun k => bitset_Without.l0 k s l (l.length : Int) 0) (fun k => by rw [clone_eval s hs, Option.bind_some]) ?_
  exact without_loop l hl hr l [] s rfl hw hs
theorem alive_eval : Ev (fun k => portolanlaw02_alive.f k) true := Ev.of portolanlaw02_alive.mono (k := 40) (by decide +kernel)
end Go.Proofs.YthbkemkjkpaoaaaDoor.Pure
