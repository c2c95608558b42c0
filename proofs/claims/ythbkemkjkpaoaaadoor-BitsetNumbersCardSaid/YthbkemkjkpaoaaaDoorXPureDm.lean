/- Taken away, held against each other, counted: the door seat's share of Pure02b.txt and Pure02c.txt. -/
import Derived.Test.YthbkemkjkpaoaaaDoorXPure
import Derived.Test.YthbkemkjkpaoaaaDoorXPop
import Derived.Test.YthbkemkjkpaoaaaDoorXx3
set_option linter.unusedVariables false
set_option linter.unusedSimpArgs false
namespace Go.Proofs.YthbkemkjkpaoaaaDoor.Pure
open Go.RowKit Go.Proofs.YthbkemkjkpaoaaaDoor.X Go.Proofs.YthbkemkjkpaoaaaDoor.Bit Go.Proofs.YthbkemkjkpaoaaaDoorW.PrintWords Go.Proofs.YthbkemkjkpaoaaaDoorW.PrintLast Go.Proofs.YthbkemkjkpaoaaaDoorW.PrintMore
def zipL (g : Int → Int → Int) (a b : List Int) : List Int := (List.range (max a.length b.length)).map fun i => g (a.getD i 0) (b.getD i 0)
theorem zipL_length (g : Int → Int → Int) (a b : List Int) : (zipL g a b).length = max a.length b.length := by simp [zipL]
theorem zipL_getD (g : Int → Int → Int) (h0 : g 0 0 = 0) (a b : List Int) (i : Nat) : (zipL g a b).getD i 0 = g (a.getD i 0) (b.getD i 0) := by
  rw [List.getD_eq_getElem?_getD]
  unfold zipL
  rw [List.getElem?_map]
  rcases Nat.lt_or_ge i (max a.length b.length) with h | h
  · rw [List.getElem?_range h]; rfl
  · rw [List.getElem?_eq_none (by simpa using h)]
    rw [List.getD_eq_getElem?_getD, List.getD_eq_getElem?_getD, List.getElem?_eq_none (by omega), List.getElem?_eq_none (by omega)]
    simp [h0]
def lessI (x y : Int) : Int := Go.bits .andNot .u64 x y
def opL (g : Int → Int → Int) (a b : List Int) : List Int := neatL (zipL g a b)
theorem opL_length (g : Int → Int → Int) (a b : List Int) : (opL g a b).length ≤ max a.length b.length := by
  have := neatL_length_le (zipL g a b)
  rw [zipL_length] at this
  exact this
theorem set_getD (l : List Int) (i j : Nat) (v : Int) (h : i < l.length) : (l.set i v).getD j 0 = if i = j then v else l.getD j 0 := getD_set i j v h
theorem wrap_succ {i n : Nat} (h : i < n) (hn : n ≤ 1000000) : wrap64 ((i : Int) + 1) = ((i + 1 : Nat) : Int) := by rw [wrap64_id (by omega) (by omega)]; omega
theorem merge_loop (L : Nat → List Int → List Int → Int → Int → Option (List Int)) (g : Int → Int → Int)
    (hL : ∀ k x1 x7 x20 x21, L (k + 1) x1 x7 x20 x21 = if x21 < x20 then (if x21 < (x1.length : Int) then (if 0 ≤ x21 then (if x21 < (x7.length : Int) then L k x1 (x7.set (x21 : Int).toNat (g (rd x7 x21) (rd x1 x21))) x20 (wrap64 (x21 + 1)) else none) else none) else (if 0 ≤ x21 then (if x21 < (x7.length : Int) then L k x1 (x7.set (x21 : Int).toNat (g (rd x7 x21) 0)) x20 (wrap64 (x21 + 1)) else none) else none)) else ((bitset_neat.f k x7).bind fun t => some t))
    (a b : List Int) (n : Nat) (hn : n = max a.length b.length) (hs : n ≤ 1000000) : ∀ (d i : Nat) (x : List Int), n - i = d → i ≤ n → x.length = n → (∀ j, j < n → x.getD j 0 = if j < i then g (a.getD j 0) (b.getD j 0) else a.getD j 0) → Ev (fun k => L k b x (n : Int) (i : Int)) (opL g a b) := by
  intro d
  induction d with
  | zero =>
    intro i x hd hi hl hx
    have hz : x = zipL g a b := by
      refine List.ext_getElem (by rw [zipL_length, hl, hn]) fun j h1 h2 => ?_
      have := hx j (by omega)
      rw [if_pos (by omega), List.getD_eq_getElem?_getD, List.getElem?_eq_getElem h1] at this
      simp only [zipL, List.getElem_map, List.getElem_range]
      exact this
    refine Ev.step (f := fun k => (bitset_neat.f k x).bind fun t => some t) (fun k => ?_) ?_
    · rw [hL, if_neg (by omega)]
    · have := neat_eval x (by omega)
      rw [hz] at this ⊢
      exact Ev.bind this (Ev.now _)
  | succ d ih =>
    intro i x hd hi hl hx
    have hlt : i < n := by omega
    have hxi : rd x (i : Int) = a.getD i 0 := by rw [rd_nat, hx i hlt, if_neg (by omega)]
    have hb : (if (i : Int) < (b.length : Int) then rd b (i : Int) else 0) = b.getD i 0 := by
      by_cases h : (i : Int) < (b.length : Int)
      · rw [if_pos h, rd_nat]
      · rw [if_neg h, List.getD_eq_getElem?_getD, List.getElem?_eq_none (by omega)]; rfl
    have next := ih (i + 1) (x.set i (g (a.getD i 0) (b.getD i 0))) (by omega) (by omega) (by rw [List.length_set]; exact hl) (fun j hj => by
      rw [set_getD _ _ _ _ (by omega)]
      by_cases e : i = j
      · subst e; rw [if_pos rfl, if_pos (by omega)]
      · rw [if_neg e, hx j hj]
        by_cases h : j < i
        · rw [if_pos h, if_pos (by omega)]
        · rw [if_neg h, if_neg (by omega)])
    refine Ev.step (fun k => ?_) next
    rw [hL, if_pos (by omega), wrap_succ hlt hs, hxi, Int.toNat_natCast]
    have c0 : (0 : Int) ≤ (i : Int) := by omega
    have c1 : (i : Int) < (x.length : Int) := by omega
    by_cases h : (i : Int) < (b.length : Int)
    · rw [if_pos h] at hb
      rw [if_pos h, if_pos c0, if_pos c1, hb]
    · rw [if_neg h] at hb
      rw [if_neg h, if_pos c0, if_pos c1, ← hb]
theorem mx_nat (a b : Nat) : mx (a : Int) (b : Int) = ((max a b : Nat) : Int) := by unfold mx; split <;> omega
theorem merge_start (a : List Int) (n : Nat) (hn : a.length ≤ n) : (a.take n ++ (List.replicate n (0 : Int)).drop a.length).length = n ∧ ∀ j, j < n → (a.take n ++ (List.replicate n (0 : Int)).drop a.length).getD j 0 = if j < 0 then (0 : Int) else a.getD j 0 := by
  rw [List.take_of_length_le hn]
  refine ⟨by simp; omega, fun j hj => ?_⟩
  rw [if_neg (by omega), List.getD_eq_getElem?_getD, List.getD_eq_getElem?_getD]
  rcases Nat.lt_or_ge j a.length with h | h
  · rw [List.getElem?_append_left h]
  · rw [List.getElem?_append_right h, List.getElem?_eq_none h, List.drop_replicate, List.getElem?_replicate]
    split <;> rfl
theorem merge_eval {L : Nat → List Int → List Int → Int → Int → Option (List Int)} {F : Nat → List Int → List Int → Option (List Int)} {g : Int → Int → Int}
    (hL : ∀ k x1 x7 x20 x21, L (k + 1) x1 x7 x20 x21 = if x21 < x20 then (if x21 < (x1.length : Int) then (if 0 ≤ x21 then (if x21 < (x7.length : Int) then L k x1 (x7.set (x21 : Int).toNat (g (rd x7 x21) (rd x1 x21))) x20 (wrap64 (x21 + 1)) else none) else none) else (if 0 ≤ x21 then (if x21 < (x7.length : Int) then L k x1 (x7.set (x21 : Int).toNat (g (rd x7 x21) 0)) x20 (wrap64 (x21 + 1)) else none) else none)) else ((bitset_neat.f k x7).bind fun t => some t))
    (hF : ∀ k l0 l1, F k l0 l1 = if 0 ≤ (mx (l0.length : Int) (l1.length : Int)) then (if (mx (l0.length : Int) (l1.length : Int) : Int).toNat ≤ 35184372088832 then ((some (List.replicate (mx (l0.length : Int) (l1.length : Int) : Int).toNat 0 : List Int)).bind fun y180 => ((some (l0.take y180.length ++ y180.drop l0.length : List Int)).bind fun y183 => (L k l1 y183 (y183.length : Int) 0))) else (none)) else (none))
    (a b : List Int) (ha : a.length ≤ 1000000) (hb : b.length ≤ 1000000) : Ev (fun k => F k a b) (opL g a b) := by
  have hm := mx_nat a.length b.length
  have hs := merge_start a (max a.length b.length) (by omega)
  have := merge_loop L g hL a b (max a.length b.length) rfl (by omega) (max a.length b.length) 0 (a.take (max a.length b.length) ++ (List.replicate (max a.length b.length) (0 : Int)).drop a.length) (by omega) (by omega) hs.1 (fun j hj => by rw [hs.2 j hj, if_neg (by omega), if_neg (by omega)])
  refine Ev.congr (fun k => ?_) this
  rw [hF, hm, if_pos (by omega), Int.toNat_natCast, if_pos (by omega), Option.bind_some, Option.bind_some, List.length_replicate, hs.1]
  rfl
theorem merge30 {a b : List Int} (ha : a.length ≤ 1000000) (hb : b.length ≤ 1000000) : Ev (fun k => bitset_merge_34.f k a b) (opL lessI a b) :=
  merge_eval (L := bitset_merge_34.l0) (g := lessI) (fun k x1 x7 x20 x21 => by simp only [bitset_merge_34.l0, bitset_Less_1.f, Option.bind_some]; rfl) (fun k l0 l1 => by simp only [bitset_merge_34.f]) a b ha hb
theorem less_eval {a b : List Int} (ha : a.length ≤ 1000000) (hb : b.length ≤ 1000000) : Ev (fun k => bitset_Less.f k a b) (opL lessI a b) := Ev.bind (merge30 ha hb) (Ev.now _)
def eqFrom (a b : List Int) (i : Nat) : Prop := ∀ j, i ≤ j → a.getD j 0 = b.getD j 0
noncomputable instance (a b : List Int) (i : Nat) : Decidable (eqFrom a b i) := Classical.propDecidable _
theorem equal_loop (a b : List Int) (he : a.length = b.length) (hs : a.length ≤ 1000000) : ∀ (d i : Nat), a.length - i = d → i ≤ a.length → Ev (fun k => slices_Equal_uint64_uint64.l0 k a b (a.length : Int) (i : Int)) (decide (eqFrom a b i)) := by
  intro d
  induction d with
  | zero =>
    intro i hd hi
    have ht : decide (eqFrom a b i) = true := decide_eq_true fun j hj => by
      rw [List.getD_eq_getElem?_getD, List.getD_eq_getElem?_getD, List.getElem?_eq_none (by omega), List.getElem?_eq_none (by omega)]
    rw [ht]
    refine Ev.step (f := fun _ => some true) (fun k => ?_) (Ev.now _)
    simp only [slices_Equal_uint64_uint64.l0]
    rw [if_neg (by omega)]
  | succ d ih =>
    intro i hd hi
    by_cases hx : a.getD i 0 = b.getD i 0
    · have next := ih (i + 1) (by omega) (by omega)
      have e : decide (eqFrom a b i) = decide (eqFrom a b (i + 1)) := by
        rw [decide_eq_decide]
        refine ⟨fun h j hj => h j (by omega), fun h j hj => ?_⟩
        rcases Nat.eq_or_lt_of_le hj with e | e
        · rw [← e]; exact hx
        · exact h j e
      rw [e]
      refine Ev.step (fun k => ?_) next
      simp only [slices_Equal_uint64_uint64.l0]
      rw [if_pos (by omega), if_pos (by omega), if_pos (by omega), if_pos (by omega), rd_nat, rd_nat, if_pos hx, wrap_succ (n := a.length) (by omega) hs]
    · have e : decide (eqFrom a b i) = false := decide_eq_false fun h => hx (h i (Nat.le_refl _))
      rw [e]
      refine Ev.step (f := fun _ => some false) (fun k => ?_) (Ev.now _)
      simp only [slices_Equal_uint64_uint64.l0]
      rw [if_pos (by omega), if_pos (by omega), if_pos (by omega), if_pos (by omega), rd_nat, rd_nat, if_neg hx]
theorem equal_eval {a b : List Int} (hs : a.length ≤ 1000000) : Ev (fun k => slices_Equal_uint64_uint64.f k a b) (decide (a = b)) := by
  unfold slices_Equal_uint64_uint64.f
  by_cases he : (a.length : Int) = (b.length : Int)
  · simp only [if_pos he]
    have h := equal_loop a b (by omega) hs a.length 0 rfl (Nat.zero_le _)
    have e : decide (a = b) = decide (eqFrom a b 0) := by
      rw [decide_eq_decide]
      exact ⟨fun h j _ => by rw [h], fun h => ext_getD (by omega) fun j => h j (Nat.zero_le _)⟩
    rw [e]; exact h
  · simp only [if_neg he]
    rw [decide_eq_false (fun h => he (by rw [h]))]
    exact Ev.now _
def sameB (a b : List Int) : Bool := decide (neatL a = neatL b)
theorem same_eval {a b : List Int} (ha : a.length ≤ 1000000) (hb : b.length ≤ 1000000) : Ev (fun k => bitset_Same.f k a b) (sameB a b) := by
  have h1 := neatL_length_le a
  exact Ev.bind (neat_eval a ha) (Ev.bind (neat_eval b hb) (Ev.bind (equal_eval (by omega)) (Ev.now _)))
theorem holds_eval {a b : List Int} (ha : a.length ≤ 1000000) (hb : b.length ≤ 1000000) : Ev (fun k => bitset_Holds.f k a b) (((opL lessI b a).length : Int) == 0) := Ev.bind (less_eval hb ha) (Ev.now _)
theorem pc_le : ∀ n x, pc n x ≤ n
  | 0, _ => Nat.le_refl _
  | n + 1, x => by
    have := pc_le n (x / 2)
    show x % 2 + pc n (x / 2) ≤ n + 1
    omega
def s1 (x : Int) : Int := IntKind.u64.wrap ((Go.bits .and .u64 (x / 2) 6148914691236517205) + (Go.bits .and .u64 x 6148914691236517205))
def s2 (x : Int) : Int := IntKind.u64.wrap ((Go.bits .and .u64 (x / 4) 3689348814741910323) + (Go.bits .and .u64 x 3689348814741910323))
def s3 (x : Int) : Int := Go.bits .and .u64 (IntKind.u64.wrap ((x / 16) + x)) 1085102592571150095
def s4 (x : Int) : Int := IntKind.u64.wrap (x + (x / 256))
def s5 (x : Int) : Int := IntKind.u64.wrap (x + (x / 65536))
def s6 (x : Int) : Int := IntKind.u64.wrap (x + (x / 4294967296))
theorem ones_form (x : Int) : bits_OnesCount64.f x = some (Go.bits .and .i64 (wrap64 (s6 (s5 (s4 (s3 (s2 (s1 x))))))) 127) := rfl
theorem and_nat {a b : Nat} (ha : a < 18446744073709551616) (hb : b < 18446744073709551616) : Go.bits .and .u64 (a : Int) (b : Int) = ((a &&& b : Nat) : Int) := by
  rw [bits_and ⟨by omega, by omega⟩ ⟨by omega, by omega⟩, Int.toNat_natCast, Int.toNat_natCast]
theorem s1_nat {x : Nat} (h : x < 18446744073709551616) : s1 (x : Int) = (g1 32 x : Int) := by
  have hs := step1 32 x h
  have hl := g1_lt 32 x
  rw [mk1_32] at hs
  have e : (x : Int) / 2 = ((x / 2 : Nat) : Int) := by omega
  unfold s1
  rw [e, show (6148914691236517205 : Int) = ((6148914691236517205 : Nat) : Int) from rfl, and_nat (by omega) (by omega), and_nat h (by omega), ← Int.natCast_add, hs]
  exact wrapU (Int.natCast_nonneg _) (lt_cast hl)
theorem s2_nat {x : Nat} (h : x < 18446744073709551616) (hm : small2 32 x) : s2 (x : Int) = (g2 16 x : Int) := by
  have hs := step2 16 x h
  have hl := g2_lt 16 x hm
  rw [mk2_16] at hs
  have e : (x : Int) / 4 = ((x / 4 : Nat) : Int) := by omega
  unfold s2
  rw [e, show (3689348814741910323 : Int) = ((3689348814741910323 : Nat) : Int) from rfl, and_nat (by omega) (by omega), and_nat h (by omega), ← Int.natCast_add, hs]
  exact wrapU (Int.natCast_nonneg _) (lt_cast hl)
theorem s3_nat {x : Nat} (h : x < 18446744073709551616) (hm : small4 16 x) : s3 (x : Int) = (g3 8 x : Int) := by
  have hs := step3 8 x hm h
  have hr := small4_room 16 x hm h
  have hr' : 3 * x < 18446744073709551616 := hr
  rw [mk3_8] at hs
  have e : (x : Int) / 16 + (x : Int) = ((x / 16 + x : Nat) : Int) := by omega
  unfold s3
  rw [e, wrapU (by omega) (by omega), show (1085102592571150095 : Int) = ((1085102592571150095 : Nat) : Int) from rfl, and_nat (by omega) (by omega), hs]
theorem and127 {x : Nat} (h : x < 9223372036854775808) : Go.bits .and .i64 (x : Int) 127 = ((x % 128 : Nat) : Int) := by
  have hw : ∀ n : Int, 0 ≤ n → n < 2 ^ 63 → IntKind.i64.wrap n = n := fun n h0 h1 => by
    rw [IntKind.wrap_i64]; omega
  have := Go.bits_mask .i64 63 (by decide) hw 7 (by decide) (x : Int) (by omega) (by omega)
  rw [show ((2 : Int) ^ 7 - 1) = 127 from rfl] at this
  rw [this]
  show (x : Int) % 128 = _
  omega
theorem g3_room : ∀ (k x : Nat), small4 (2 * k) x → 16 * g3 k x < 256 ^ k
  | 0, x, _ => by simp [g3]
  | k + 1, x, h => by
    have h' : x % 16 ≤ 4 ∧ x / 16 % 16 ≤ 4 ∧ small4 (2 * k) (x / 16 / 16) := h
    have := g3_room k (x / 256) (by have := h'.2.2; rwa [Nat.div_div_eq_div_mul] at this)
    show 16 * (256 * g3 k (x / 256) + (x % 16 + x / 16 % 16)) < 256 ^ (k + 1)
    rw [Nat.pow_succ]; omega
theorem v_room {y z u v : Nat} (h : y < 1152921504606846976) (hz : z = y + y / 256) (hu : u = z + z / 65536) (hv : v = u + u / 4294967296) : v < 9223372036854775808 := by
  have h1 : z < 2305843009213693952 := by omega
  have h2 : u < 4611686018427387904 := by omega
  omega
theorem ones_eval {x : Nat} (h : x < 18446744073709551616) : bits_OnesCount64.f (x : Int) = some (pc 64 x : Int) := by
  have m2 := small_g1 32 x
  have m4 := small_g2 16 (g1 32 x) m2
  obtain ⟨q1, q2, q3⟩ := t3_g3 8 (g2 16 (g1 32 x)) m4
  have hp : t3 8 (g3 8 (g2 16 (g1 32 x))) = pc 64 x := by rw [q1, t2_g2 16 (g1 32 x) m2, t1_g1 32 x]
  obtain ⟨r1, r2, r3, r4⟩ := step4 (g3 8 (g2 16 (g1 32 x))) q2 q3
  rw [ones_form, s1_nat h, s2_nat (g1_lt 32 x) m2, s3_nat (g2_lt 16 _ m2) m4]
  have hroom : 16 * g3 8 (g2 16 (g1 32 x)) < 18446744073709551616 := g3_room 8 _ m4
  generalize g3 8 (g2 16 (g1 32 x)) = y at *
  have hv := v_room (y := y) (by omega) rfl rfl rfl
  have e4 : s4 (y : Int) = ((y + y / 256 : Nat) : Int) := by
    unfold s4
    rw [show (y : Int) + (y : Int) / 256 = ((y + y / 256 : Nat) : Int) from by omega]
    exact wrapU (Int.natCast_nonneg _) (lt_cast r1)
  rw [e4]
  generalize y + y / 256 = z at *
  have e5 : s5 (z : Int) = ((z + z / 65536 : Nat) : Int) := by
    unfold s5
    rw [show (z : Int) + (z : Int) / 65536 = ((z + z / 65536 : Nat) : Int) from by omega]
    exact wrapU (Int.natCast_nonneg _) (lt_cast r2)
  rw [e5]
  generalize z + z / 65536 = u at *
  have e6 : s6 (u : Int) = ((u + u / 4294967296 : Nat) : Int) := by
    unfold s6
    rw [show (u : Int) + (u : Int) / 4294967296 = ((u + u / 4294967296 : Nat) : Int) from by omega]
    exact wrapU (Int.natCast_nonneg _) (lt_cast r3)
  rw [e6, ← hp, ← r4]
  generalize u + u / 4294967296 = v at *
  rw [wrap64_id (by omega) (by omega), and127 (by omega)]
def countL (l : List Int) : Nat := (l.map fun x => pc 64 x.toNat).sum
theorem countL_le (l : List Int) : countL l ≤ 64 * l.length := by
  unfold countL
  induction l with
  | nil => simp
  | cons x l ih => simp only [List.map_cons, List.sum_cons, List.length_cons]; have := pc_le 64 x.toNat; omega
theorem count_loop (l : List Int) (hw : Wd l) (hl : l.length ≤ 1000000) : ∀ (post pre : List Int), l = pre ++ post → Ev (fun k => bitset_Count.l0 k (countL pre : Int) l (l.length : Int) (pre.length : Int)) (countL l : Int) := by
  intro post
  induction post with
  | nil =>
    intro pre he
    have : pre = l := by rw [he]; simp
    subst this
    refine Ev.step (f := fun _ => some (countL pre : Int)) (fun k => ?_) (Ev.now _)
    simp only [bitset_Count.l0]
    rw [if_neg (by omega)]
  | cons x post ih =>
    intro pre he
    have hx := hw x (by rw [he]; simp)
    have hlt : (pre.length : Int) < (l.length : Int) := by rw [he]; simp; omega
    have hplus : wrap64 ((pre.length : Int) + 1) = ((pre ++ [x]).length : Int) := by rw [wrap64_id (by omega) (by omega)]; simp
    have hrd : rd l (pre.length : Int) = x := by rw [he]; exact rd_mid pre post x
    have hc := countL_le pre
    have hp := pc_le 64 x.toNat
    have hsum : countL (pre ++ [x]) = countL pre + pc 64 x.toNat := by simp [countL]
    refine Ev.step (fun k => ?_) (ih (pre ++ [x]) (by rw [he]; simp))
    simp only [bitset_Count.l0]
    have ho : bits_OnesCount64.f x = some (pc 64 x.toNat : Int) := by
      have := ones_eval (x := x.toNat) (by omega)
      rwa [Int.toNat_of_nonneg hx.1] at this
    rw [if_pos hlt, if_pos (by omega), if_pos hlt, hrd, ho, Option.bind_some, hplus, hsum, wrap64_id (by omega) (by omega), Int.natCast_add]
theorem count_eval {l : List Int} (hw : Wd l) (hl : l.length ≤ 1000000) : Ev (fun k => bitset_Count.f k l) (countL l : Int) := count_loop l hw hl l [] rfl
theorem less_word2 {x y : Int} (hx : 0 ≤ x ∧ x < 18446744073709551616) (hy : 0 ≤ y ∧ y < 18446744073709551616) : 0 ≤ lessI x y ∧ lessI x y < 18446744073709551616 := ⟨(bits_andNot hx hy).1, (bits_andNot hx hy).2.1⟩
theorem zip_Wd {g : Int → Int → Int} (hg : ∀ x y : Int, (0 ≤ x ∧ x < 18446744073709551616) → (0 ≤ y ∧ y < 18446744073709551616) → 0 ≤ g x y ∧ g x y < 18446744073709551616) {a b : List Int} (ha : Wd a) (hb : Wd b) : Wd (opL g a b) := by
  refine neatL_Wd fun x hx => ?_
  obtain ⟨i, _, rfl⟩ := List.mem_map.1 hx
  exact hg _ _ (ha.getD i) (hb.getD i)
theorem tb_less {a b : List Int} (ha : Wd a) (hb : Wd b) (n : Nat) : tb (opL lessI a b) n = (tb a n && !tb b n) := by
  unfold opL
  rw [tb_neatL]
  unfold tb
  rw [zipL_getD lessI (by decide)]
  exact (bits_andNot (ha.getD _) (hb.getD _)).2.2 _
theorem sameB_tb {a b : List Int} (ha : Wd a) (hb : Wd b) (h : ∀ n, tb a n = tb b n) : sameB a b = true := by
  unfold sameB
  exact decide_eq_true (neatL_eq (tb_ext ha hb h))
theorem empty_tb {a : List Int} (ha : Wd a) (h : ∀ n, tb a n = false) : neatL a = [] := by
  have : neatL a = neatL [] := neatL_eq (tb_ext ha Wd.nil (fun n => by rw [h, tb_nil]))
  rw [this]; rfl
theorem opL_neat (g : Int → Int → Int) (a b : List Int) : neatL (opL g a b) = opL g a b := neatL_neatL _
end Go.Proofs.YthbkemkjkpaoaaaDoor.Pure
