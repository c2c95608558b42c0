/- How many numbers a set has; sets are reckoned with as sets are. -/
import Derived.Test.YthbkemkjkpaoaaaXPureb
import Derived.Test.YthbkemkjkpaoaaaXPop
set_option linter.unusedVariables false
set_option linter.unusedSimpArgs false
namespace Go.Proofs.Ythbkemkjkpaoaaa.Pure
open Go.RowKit Go.Proofs.Ythbkemkjkpaoaaa.X Go.Proofs.Ythbkemkjkpaoaaa.Bit Go.Proofs.YthbkemkjkpaoaaaW.PrintWords Go.Proofs.YthbkemkjkpaoaaaW.PrintLast Go.Proofs.YthbkemkjkpaoaaaW.PrintMore
theorem pc_le : ∀ n x, pc n x ≤ n
  | 0, _ => Nat.le_refl _
  | n + 1, x => by
    have := pc_le n (x / 2)
    show x % 2 + pc n (x / 2) ≤ n + 1
    omega
theorem pc_add : ∀ n x y, pc n x + pc n y = pc n (x ||| y) + pc n (x &&& y)
  | 0, _, _ => rfl
  | n + 1, x, y => by
    have ih := pc_add n (x / 2) (y / 2)
    show x % 2 + pc n (x / 2) + (y % 2 + pc n (y / 2)) = (x ||| y) % 2 + pc n ((x ||| y) / 2) + ((x &&& y) % 2 + pc n ((x &&& y) / 2))
    have e1 : (x ||| y) / 2 = x / 2 ||| y / 2 := Nat.or_div_two
    have e2 : (x &&& y) / 2 = x / 2 &&& y / 2 := Nat.and_div_two
    have e3 : (x ||| y) % 2 = (x % 2 ||| y % 2) := Nat.or_mod_two_pow (n := 1)
    have e4 : (x &&& y) % 2 = (x % 2 &&& y % 2) := Nat.and_mod_two_pow (n := 1)
    rw [e1, e2, e3, e4]
    rcases Nat.mod_two_eq_zero_or_one x with hx | hx <;> rcases Nat.mod_two_eq_zero_or_one y with hy | hy <;> rw [hx, hy]
    · show 0 + pc n (x / 2) + (0 + pc n (y / 2)) = 0 + _ + (0 + _); omega
    · show 0 + pc n (x / 2) + (1 + pc n (y / 2)) = 1 + _ + (0 + _); omega
    · show 1 + pc n (x / 2) + (0 + pc n (y / 2)) = 1 + _ + (0 + _); omega
    · show 1 + pc n (x / 2) + (1 + pc n (y / 2)) = 1 + _ + (1 + _); omega
def s1 (x : Int) : Int := IntKind.u64.wrap ((Go.bits .and .u64 (x / 2) 6148914691236517205) + (Go.bits .and .u64 x 6148914691236517205))
def s2 (x : Int) : Int := IntKind.u64.wrap ((Go.bits .and .u64 (x / 4) 3689348814741910323) + (Go.bits .and .u64 x 3689348814741910323))
def s3 (x : Int) : Int := Go.bits .and .u64 (IntKind.u64.wrap ((x / 16) + x)) 1085102592571150095
def s4 (x : Int) : Int := IntKind.u64.wrap (x + (x / 256))
def s5 (x : Int) : Int := IntKind.u64.wrap (x + (x / 65536))
def s6 (x : Int) : Int := IntKind.u64.wrap (x + (x / 4294967296))
theorem ones_form (x : Int) : bits_OnesCount64.f x = some (Go.bits .and .i64 (wrap64 (s6 (s5 (s4 (s3 (s2 (s1 x))))))) 127) := rfl
theorem and_nat {a b : Nat} (ha : a < 18446744073709551616) (hb : b < 18446744073709551616) : Go.bits .and .u64 (a : Int) (b : Int) = ((a &&& b : Nat) : Int) := by
  rw [bits_and ⟨by omega, by omega⟩ ⟨by omega, by omega⟩, Int.toNat_natCast, Int.toNat_natCast]
theorem s1_nat {x : Nat} (h : x < 18446744073709551616) : s1 (x : Int) = (g1 32 x : Int) := by
  have hs := step1 32 x h
  have hl := g1_lt 32 x
  rw [mk1_32] at hs
  have e : (x : Int) / 2 = ((x / 2 : Nat) : Int) := by omega
  unfold s1
  rw [e, show (6148914691236517205 : Int) = ((6148914691236517205 : Nat) : Int) from rfl, and_nat (by omega) (by omega), and_nat h (by omega), ← Int.natCast_add, hs]
  exact wrapU (Int.natCast_nonneg _) (lt_cast hl)
theorem s2_nat {x : Nat} (h : x < 18446744073709551616) (hm : small2 32 x) : s2 (x : Int) = (g2 16 x : Int) := by
  have hs := step2 16 x h
  have hl := g2_lt 16 x hm
  rw [mk2_16] at hs
  have e : (x : Int) / 4 = ((x / 4 : Nat) : Int) := by omega
  unfold s2
  rw [e, show (3689348814741910323 : Int) = ((3689348814741910323 : Nat) : Int) from rfl, and_nat (by omega) (by omega), and_nat h (by omega), ← Int.natCast_add, hs]
  exact wrapU (Int.natCast_nonneg _) (lt_cast hl)
theorem s3_nat {x : Nat} (h : x < 18446744073709551616) (hm : small4 16 x) : s3 (x : Int) = (g3 8 x : Int) := by
  have hs := step3 8 x hm h
  have hr := small4_room 16 x hm h
  have hr' : 3 * x < 18446744073709551616 := hr
  rw [mk3_8] at hs
  have e : (x : Int) / 16 + (x : Int) = ((x / 16 + x : Nat) : Int) := by omega
  unfold s3
  rw [e, wrapU (by omega) (by omega), show (1085102592571150095 : Int) = ((1085102592571150095 : Nat) : Int) from rfl, and_nat (by omega) (by omega), hs]
theorem and127 {x : Nat} (h : x < 9223372036854775808) : Go.bits .and .i64 (x : Int) 127 = ((x % 128 : Nat) : Int) := by
  have hw : ∀ n : Int, 0 ≤ n → n < 2 ^ 63 → IntKind.i64.wrap n = n := fun n h0 h1 => by
    rw [IntKind.wrap_i64]; omega
  have := Go.bits_mask .i64 63 (by decide) hw 7 (by decide) (x : Int) (by omega) (by omega)
  rw [show ((2 : Int) ^ 7 - 1) = 127 from rfl] at this
  rw [this]
  show (x : Int) % 128 = _
  omega
theorem g3_room : ∀ (k x : Nat), small4 (2 * k) x → 16 * g3 k x < 256 ^ k
  | 0, x, _ => by simp [g3]
  | k + 1, x, h => by
    have h' : x % 16 ≤ 4 ∧ x / 16 % 16 ≤ 4 ∧ small4 (2 * k) (x / 16 / 16) := h
    have := g3_room k (x / 256) (by have := h'.2.2; rwa [Nat.div_div_eq_div_mul] at this)
    show 16 * (256 * g3 k (x / 256) + (x % 16 + x / 16 % 16)) < 256 ^ (k + 1)
    rw [Nat.pow_succ]; omega
theorem v_room {y z u v : Nat} (h : y < 1152921504606846976) (hz : z = y + y / 256) (hu : u = z + z / 65536) (hv : v = u + u / 4294967296) : v < 9223372036854775808 := by
  have h1 : z < 2305843009213693952 := by omega
  have h2 : u < 4611686018427387904 := by omega
  omega
theorem ones_eval {x : Nat} (h : x < 18446744073709551616) : bits_OnesCount64.f (x : Int) = some (pc 64 x : Int) := by
  have m2 := small_g1 32 x
  have m4 := small_g2 16 (g1 32 x) m2
  obtain ⟨q1, q2, q3⟩ := t3_g3 8 (g2 16 (g1 32 x)) m4
  have hp : t3 8 (g3 8 (g2 16 (g1 32 x))) = pc 64 x := by rw [q1, t2_g2 16 (g1 32 x) m2, t1_g1 32 x]
  obtain ⟨r1, r2, r3, r4⟩ := step4 (g3 8 (g2 16 (g1 32 x))) q2 q3
  rw [ones_form, s1_nat h, s2_nat (g1_lt 32 x) m2, s3_nat (g2_lt 16 _ m2) m4]
  have hroom : 16 * g3 8 (g2 16 (g1 32 x)) < 18446744073709551616 := g3_room 8 _ m4
  generalize g3 8 (g2 16 (g1 32 x)) = y at *
  have hv := v_room (y := y) (by omega) rfl rfl rfl
  have e4 : s4 (y : Int) = ((y + y / 256 : Nat) : Int) := by
    unfold s4
    rw [show (y : Int) + (y : Int) / 256 = ((y + y / 256 : Nat) : Int) from by omega]
    exact wrapU (Int.natCast_nonneg _) (lt_cast r1)
  rw [e4]
  generalize y + y / 256 = z at *
  have e5 : s5 (z : Int) = ((z + z / 65536 : Nat) : Int) := by
    unfold s5
    rw [show (z : Int) + (z : Int) / 65536 = ((z + z / 65536 : Nat) : Int) from by omega]
    exact wrapU (Int.natCast_nonneg _) (lt_cast r2)
  rw [e5]
  generalize z + z / 65536 = u at *
  have e6 : s6 (u : Int) = ((u + u / 4294967296 : Nat) : Int) := by
    unfold s6
    rw [show (u : Int) + (u : Int) / 4294967296 = ((u + u / 4294967296 : Nat) : Int) from by omega]
    exact wrapU (Int.natCast_nonneg _) (lt_cast r3)
  rw [e6, ← hp, ← r4]
  generalize u + u / 4294967296 = v at *
  rw [wrap64_id (by omega) (by omega), and127 (by omega)]

def countL (l : List Int) : Nat := (l.map fun x => pc 64 x.toNat).sum
theorem countL_le (l : List Int) : countL l ≤ 64 * l.length := by
  unfold countL
  induction l with
  | nil => simp
  | cons x l ih => simp only [List.map_cons, List.sum_cons, List.length_cons]; have := pc_le 64 x.toNat; omega
theorem count_loop (l : List Int) (hw : Wd l) (hl : l.length ≤ 1000000) : ∀ (post pre : List Int), l = pre ++ post → Ev (fun k => bitset_Count.l0 k (countL pre : Int) l (l.length : Int) (pre.length : Int)) (countL l : Int) := by
  intro post
  induction post with
  | nil =>
    intro pre he
    have : pre = l := by rw [he]; simp
    subst this
    refine Ev.step (f := fun _ => some (countL pre : Int)) (fun k => ?_) (Ev.now _)
    simp only [bitset_Count.l0]
    rw [if_neg (by omega)]
  | cons x post ih =>
    intro pre he
    have hx := hw x (by rw [he]; simp)
    have hlt : (pre.length : Int) < (l.length : Int) := by rw [he]; simp; omega
    have hplus : wrap64 ((pre.length : Int) + 1) = ((pre ++ [x]).length : Int) := by rw [wrap64_id (by omega) (by omega)]; simp
    have hrd : rd l (pre.length : Int) = x := by rw [he]; exact rd_mid pre post x
    have hc := countL_le pre
    have hp := pc_le 64 x.toNat
    have hsum : countL (pre ++ [x]) = countL pre + pc 64 x.toNat := by simp [countL]
    refine Ev.step (fun k => ?_) (ih (pre ++ [x]) (by rw [he]; simp))
    simp only [bitset_Count.l0]
    have ho : bits_OnesCount64.f x = some (pc 64 x.toNat : Int) := by
      have := ones_eval (x := x.toNat) (by omega)
      rwa [Int.toNat_of_nonneg hx.1] at this
    rw [if_pos hlt, if_pos (by omega), if_pos hlt, hrd, ho, Option.bind_some, hplus, hsum, wrap64_id (by omega) (by omega), Int.natCast_add]
theorem count_eval {l : List Int} (hw : Wd l) (hl : l.length ≤ 1000000) : Ev (fun k => bitset_Count.f k l) (countL l : Int) := count_loop l hw hl l [] rfl

/-! ### Sets as what is in them -/
theorem or_word2 {x y : Int} (hx : 0 ≤ x ∧ x < 18446744073709551616) (hy : 0 ≤ y ∧ y < 18446744073709551616) : 0 ≤ orI x y ∧ orI x y < 18446744073709551616 := by
  have h := or_lt (a := x.toNat) (b := y.toNat) (by omega) (by omega)
  unfold orI; rw [bits_or hx hy]; exact ⟨Int.natCast_nonneg _, lt_cast h⟩
theorem and_word2 {x y : Int} (hx : 0 ≤ x ∧ x < 18446744073709551616) (hy : 0 ≤ y ∧ y < 18446744073709551616) : 0 ≤ andI x y ∧ andI x y < 18446744073709551616 := by
  have h : x.toNat &&& y.toNat < 18446744073709551616 := Nat.lt_of_le_of_lt Nat.and_le_left (by omega)
  unfold andI; rw [bits_and hx hy]; exact ⟨Int.natCast_nonneg _, lt_cast h⟩
theorem less_word2 {x y : Int} (hx : 0 ≤ x ∧ x < 18446744073709551616) (hy : 0 ≤ y ∧ y < 18446744073709551616) : 0 ≤ lessI x y ∧ lessI x y < 18446744073709551616 := ⟨(bits_andNot hx hy).1, (bits_andNot hx hy).2.1⟩
theorem zip_Wd {g : Int → Int → Int} (hg : ∀ x y : Int, (0 ≤ x ∧ x < 18446744073709551616) → (0 ≤ y ∧ y < 18446744073709551616) → 0 ≤ g x y ∧ g x y < 18446744073709551616) {a b : List Int} (ha : Wd a) (hb : Wd b) : Wd (opL g a b) := by
  refine neatL_Wd fun x hx => ?_
  obtain ⟨i, _, rfl⟩ := List.mem_map.1 hx
  exact hg _ _ (ha.getD i) (hb.getD i)
theorem tb_or {a b : List Int} (ha : Wd a) (hb : Wd b) (n : Nat) : tb (opL orI a b) n = (tb a n || tb b n) := by
  unfold opL
  rw [tb_neatL]
  unfold tb
  rw [zipL_getD orI (by decide)]
  unfold orI
  rw [bits_or (ha.getD _) (hb.getD _), Int.toNat_natCast, Nat.testBit_or]
theorem tb_and {a b : List Int} (ha : Wd a) (hb : Wd b) (n : Nat) : tb (opL andI a b) n = (tb a n && tb b n) := by
  unfold opL
  rw [tb_neatL]
  unfold tb
  rw [zipL_getD andI (by decide)]
  unfold andI
  rw [bits_and (ha.getD _) (hb.getD _), Int.toNat_natCast, Nat.testBit_and]
theorem tb_less {a b : List Int} (ha : Wd a) (hb : Wd b) (n : Nat) : tb (opL lessI a b) n = (tb a n && !tb b n) := by
  unfold opL
  rw [tb_neatL]
  unfold tb
  rw [zipL_getD lessI (by decide)]
  exact (bits_andNot (ha.getD _) (hb.getD _)).2.2 _
theorem join_Wd : ∀ (ls : List (List Int)) (x : List Int), Wd x → (∀ l ∈ ls, Wd l) → Wd (joinL ls x)
  | [], x, hx, _ => hx
  | l :: ls, x, hx, h => join_Wd ls _ (zip_Wd (fun _ _ => or_word2) hx (h l List.mem_cons_self)) (fun m hm => h m (List.mem_cons_of_mem _ hm))
theorem tb_join : ∀ (ls : List (List Int)) (x : List Int), Wd x → (∀ l ∈ ls, Wd l) → ∀ n, tb (joinL ls x) n = (tb x n || ls.any fun l => tb l n)
  | [], x, hx, _, n => by simp [joinL]
  | l :: ls, x, hx, h, n => by
    have hl := h l List.mem_cons_self
    show tb (joinL ls (opL orI x l)) n = _
    rw [tb_join ls _ (zip_Wd (fun _ _ => or_word2) hx hl) (fun m hm => h m (List.mem_cons_of_mem _ hm)), tb_or hx hl, List.any_cons, Bool.or_assoc]
theorem sameB_tb {a b : List Int} (ha : Wd a) (hb : Wd b) (h : ∀ n, tb a n = tb b n) : sameB a b = true := by
  unfold sameB
  exact decide_eq_true (neatL_eq (tb_ext ha hb h))
theorem empty_tb {a : List Int} (ha : Wd a) (h : ∀ n, tb a n = false) : neatL a = [] := by
  have : neatL a = neatL [] := neatL_eq (tb_ext ha Wd.nil (fun n => by rw [h, tb_nil]))
  rw [this]; rfl
theorem opL_neat (g : Int → Int → Int) (a b : List Int) : neatL (opL g a b) = opL g a b := neatL_neatL _
/-- Words of 0 count for nothing. -/
theorem countL_append (a b : List Int) : countL (a ++ b) = countL a + countL b := by simp [countL]
theorem pc_zero : ∀ n, pc n 0 = 0
  | 0 => rfl
  | n + 1 => by show 0 % 2 + pc n (0 / 2) = 0; rw [Nat.zero_div, pc_zero n]
theorem countL_zeros (m : Nat) : countL (List.replicate m 0) = 0 := by
  induction m with
  | zero => rfl
  | succ m ih => rw [List.replicate_succ]; unfold countL at *; rw [List.map_cons, List.sum_cons, ih]; show pc 64 0 + 0 = 0; rw [pc_zero]
theorem countL_neat (l : List Int) : countL (neatL l) = countL l := by
  obtain ⟨m, hm⟩ := neatL_prefix l
  have := congrArg countL hm
  rw [countL_append, countL_zeros] at this
  omega
theorem sum_succ (f : Nat → Nat) (n : Nat) : ((List.range (n + 1)).map f).sum = ((List.range n).map f).sum + f n := by
  rw [List.range_succ, List.map_append, List.sum_append, List.map_singleton, List.sum_singleton]
theorem countL_zip (p : Nat → Nat) {g h : Int → Int → Int} (hgh : ∀ x y : Int, (0 ≤ x ∧ x < 18446744073709551616) → (0 ≤ y ∧ y < 18446744073709551616) → p x.toNat + p y.toNat = p (g x y).toNat + p (h x y).toNat) {a b : List Int} (ha : Wd a) (hb : Wd b) (n : Nat) :
    ((List.range n).map fun i => p (a.getD i 0).toNat).sum + ((List.range n).map fun i => p (b.getD i 0).toNat).sum = ((List.range n).map fun i => p (g (a.getD i 0) (b.getD i 0)).toNat).sum + ((List.range n).map fun i => p (h (a.getD i 0) (b.getD i 0)).toNat).sum := by
  induction n with
  | zero => rfl
  | succ n ih =>
    have := hgh _ _ (ha.getD n) (hb.getD n)
    rw [sum_succ, sum_succ, sum_succ, sum_succ]
    omega
theorem countL_range (l : List Int) (n : Nat) (h : l.length ≤ n) : countL l = ((List.range n).map fun i => pc 64 (l.getD i 0).toNat).sum := by
  have e : l ++ List.replicate (n - l.length) 0 = (List.range n).map fun i => l.getD i 0 := by
    refine List.ext_getElem (by simp; omega) fun i h1 h2 => ?_
    rw [List.getElem_map, List.getElem_range, List.getD_eq_getElem?_getD]
    rcases Nat.lt_or_ge i l.length with hi | hi
    · rw [List.getElem_append_left hi, List.getElem?_eq_getElem hi]; rfl
    · rw [List.getElem_append_right hi, List.getElem?_eq_none hi, List.getElem_replicate]; rfl
  have := congrArg countL e
  rw [countL_append, countL_zeros, Nat.add_zero] at this
  rw [this]
  unfold countL
  rw [List.map_map]
  rfl
theorem count_add {a b : List Int} (ha : Wd a) (hb : Wd b) : countL a + countL b = countL (opL orI a b) + countL (opL andI a b) := by
  unfold opL
  rw [countL_neat, countL_neat, countL_range a (max a.length b.length) (by omega), countL_range b (max a.length b.length) (by omega)]
  rw [countL_zip (pc 64) (g := orI) (h := andI) ?_ ha hb]
  · unfold zipL countL
    rw [List.map_map, List.map_map]
    rfl
  · intro x y hx hy
    unfold orI andI
    rw [bits_or hx hy, bits_and hx hy, Int.toNat_natCast, Int.toNat_natCast]
    exact pc_add 64 _ _
end Go.Proofs.Ythbkemkjkpaoaaa.Pure
