/- Joined, met, taken away, held against each other: the functions of layer 2, as the print tells them, come to the plain laws' words. -/
import Derived.Test.YthbkemkjkpaoaaaXPure
import Derived.Test.YthbkemkjkpaoaaaXx6
import Derived.Test.YthbkemkjkpaoaaaXx7
set_option linter.unusedVariables false
set_option linter.unusedSimpArgs false
namespace Go.Proofs.Ythbkemkjkpaoaaa.Pure
open Go.RowKit Go.Proofs.Ythbkemkjkpaoaaa.X Go.Proofs.Ythbkemkjkpaoaaa.Bit Go.Proofs.YthbkemkjkpaoaaaW.PrintWords Go.Proofs.YthbkemkjkpaoaaaW.PrintLast Go.Proofs.YthbkemkjkpaoaaaW.PrintMore

/-- Two sets, word by word, as long as the longer one. -/
def zipL (g : Int → Int → Int) (a b : List Int) : List Int := (List.range (max a.length b.length)).map fun i => g (a.getD i 0) (b.getD i 0)
theorem zipL_length (g : Int → Int → Int) (a b : List Int) : (zipL g a b).length = max a.length b.length := by simp [zipL]
theorem zipL_getD (g : Int → Int → Int) (h0 : g 0 0 = 0) (a b : List Int) (i : Nat) : (zipL g a b).getD i 0 = g (a.getD i 0) (b.getD i 0) := by
  rw [List.getD_eq_getElem?_getD]
  unfold zipL
  rw [List.getElem?_map]
  rcases Nat.lt_or_ge i (max a.length b.length) with h | h
  · rw [List.getElem?_range h]; rfl
  · rw [List.getElem?_eq_none (by simpa using h)]
    rw [List.getD_eq_getElem?_getD, List.getD_eq_getElem?_getD, List.getElem?_eq_none (by omega), List.getElem?_eq_none (by omega)]
    simp [h0]
def orI (x y : Int) : Int := Go.bits .or .u64 x y
def andI (x y : Int) : Int := Go.bits .and .u64 x y
def lessI (x y : Int) : Int := Go.bits .andNot .u64 x y
def opL (g : Int → Int → Int) (a b : List Int) : List Int := neatL (zipL g a b)
theorem opL_length (g : Int → Int → Int) (a b : List Int) : (opL g a b).length ≤ max a.length b.length := by
  have := neatL_length_le (zipL g a b)
  rw [zipL_length] at this
  exact this
theorem set_getD (l : List Int) (i j : Nat) (v : Int) (h : i < l.length) : (l.set i v).getD j 0 = if i = j then v else l.getD j 0 := getD_set i j v h
theorem wrap_succ {i n : Nat} (h : i < n) (hn : n ≤ 1000000) : wrap64 ((i : Int) + 1) = ((i + 1 : Nat) : Int) := by rw [wrap64_id (by omega) (by omega)]; omega
/-- merge's loop, whatever the operation. -/
theorem merge_loop (L : Nat → List Int → List Int → Int → Int → Option (List Int)) (g : Int → Int → Int)
    (hL : ∀ k x1 x7 x20 x21, L (k + 1) x1 x7 x20 x21 = if x21 < x20 then (if x21 < (x1.length : Int) then (if 0 ≤ x21 then (if x21 < (x7.length : Int) then L k x1 (x7.set (x21 : Int).toNat (g (rd x7 x21) (rd x1 x21))) x20 (wrap64 (x21 + 1)) else none) else none) else (if 0 ≤ x21 then (if x21 < (x7.length : Int) then L k x1 (x7.set (x21 : Int).toNat (g (rd x7 x21) 0)) x20 (wrap64 (x21 + 1)) else none) else none)) else ((bitset_neat.f k x7).bind fun t => some t))
    (a b : List Int) (n : Nat) (hn : n = max a.length b.length) (hs : n ≤ 1000000) : ∀ (d i : Nat) (x : List Int), n - i = d → i ≤ n → x.length = n → (∀ j, j < n → x.getD j 0 = if j < i then g (a.getD j 0) (b.getD j 0) else a.getD j 0) → Ev (fun k => L k b x (n : Int) (i : Int)) (opL g a b) := by
  intro d
  induction d with
  | zero =>
    intro i x hd hi hl hx
    have hz : x = zipL g a b := by
      refine List.ext_getElem (by rw [zipL_length, hl, hn]) fun j h1 h2 => ?_
      have := hx j (by omega)
      rw [if_pos (by omega), List.getD_eq_getElem?_getD, List.getElem?_eq_getElem h1] at this
      simp only [zipL, List.getElem_map, List.getElem_range]
      exact this
    refine Ev.step (f := fun k => (bitset_neat.f k x).bind fun t => some t) (fun k => ?_) ?_
    · rw [hL, if_neg (by omega)]
    · have := neat_eval x (by omega)
      rw [hz] at this ⊢
      exact Ev.bind this (Ev.now _)
  | succ d ih =>
    intro i x hd hi hl hx
    have hlt : i < n := by omega
    have hxi : rd x (i : Int) = a.getD i 0 := by rw [rd_nat, hx i hlt, if_neg (by omega)]
    have hb : (if (i : Int) < (b.length : Int) then rd b (i : Int) else 0) = b.getD i 0 := by
      by_cases h : (i : Int) < (b.length : Int)
      · rw [if_pos h, rd_nat]
      · rw [if_neg h, List.getD_eq_getElem?_getD, List.getElem?_eq_none (by omega)]; rfl
    have next := ih (i + 1) (x.set i (g (a.getD i 0) (b.getD i 0))) (by omega) (by omega) (by rw [List.length_set]; exact hl) (fun j hj => by
      rw [set_getD _ _ _ _ (by omega)]
      by_cases e : i = j
      · subst e; rw [if_pos rfl, if_pos (by omega)]
      · rw [if_neg e, hx j hj]
        by_cases h : j < i
        · rw [if_pos h, if_pos (by omega)]
        · rw [if_neg h, if_neg (by omega)])
    refine Ev.step (fun k => ?_) next
    rw [hL, if_pos (by omega), wrap_succ hlt hs, hxi, Int.toNat_natCast]
    have c0 : (0 : Int) ≤ (i : Int) := by omega
    have c1 : (i : Int) < (x.length : Int) := by omega
    by_cases h : (i : Int) < (b.length : Int)
    · rw [if_pos h] at hb
      rw [if_pos h, if_pos c0, if_pos c1, hb]
    · rw [if_neg h] at hb
      rw [if_neg h, if_pos c0, if_pos c1, ← hb]
theorem mx_nat (a b : Nat) : mx (a : Int) (b : Int) = ((max a b : Nat) : Int) := by unfold mx; split <;> omega
theorem merge_start (a : List Int) (n : Nat) (hn : a.length ≤ n) : (a.take n ++ (List.replicate n (0 : Int)).drop a.length).length = n ∧ ∀ j, j < n → (a.take n ++ (List.replicate n (0 : Int)).drop a.length).getD j 0 = if j < 0 then (0 : Int) else a.getD j 0 := by
  rw [List.take_of_length_le hn]
  refine ⟨by simp; omega, fun j hj => ?_⟩
  rw [if_neg (by omega), List.getD_eq_getElem?_getD, List.getD_eq_getElem?_getD]
  rcases Nat.lt_or_ge j a.length with h | h
  · rw [List.getElem?_append_left h]
  · rw [List.getElem?_append_right h, List.getElem?_eq_none h, List.drop_replicate, List.getElem?_replicate]
    split <;> rfl
theorem merge_eval {L : Nat → List Int → List Int → Int → Int → Option (List Int)} {F : Nat → List Int → List Int → Option (List Int)} {g : Int → Int → Int}
    (hL : ∀ k x1 x7 x20 x21, L (k + 1) x1 x7 x20 x21 = if x21 < x20 then (if x21 < (x1.length : Int) then (if 0 ≤ x21 then (if x21 < (x7.length : Int) then L k x1 (x7.set (x21 : Int).toNat (g (rd x7 x21) (rd x1 x21))) x20 (wrap64 (x21 + 1)) else none) else none) else (if 0 ≤ x21 then (if x21 < (x7.length : Int) then L k x1 (x7.set (x21 : Int).toNat (g (rd x7 x21) 0)) x20 (wrap64 (x21 + 1)) else none) else none)) else ((bitset_neat.f k x7).bind fun t => some t))
    (hF : ∀ k l0 l1, F k l0 l1 = if 0 ≤ (mx (l0.length : Int) (l1.length : Int)) then (if (mx (l0.length : Int) (l1.length : Int) : Int).toNat ≤ 35184372088832 then ((some (List.replicate (mx (l0.length : Int) (l1.length : Int) : Int).toNat 0 : List Int)).bind fun y180 => ((some (l0.take y180.length ++ y180.drop l0.length : List Int)).bind fun y183 => (L k l1 y183 (y183.length : Int) 0))) else (none)) else (none))
    (a b : List Int) (ha : a.length ≤ 1000000) (hb : b.length ≤ 1000000) : Ev (fun k => F k a b) (opL g a b) := by
  have hm := mx_nat a.length b.length
  have hs := merge_start a (max a.length b.length) (by omega)
  have := merge_loop L g hL a b (max a.length b.length) rfl (by omega) (max a.length b.length) 0 (a.take (max a.length b.length) ++ (List.replicate (max a.length b.length) (0 : Int)).drop a.length) (by omega) (by omega) hs.1 (fun j hj => by rw [hs.2 j hj, if_neg (by omega), if_neg (by omega)])
  refine Ev.congr (fun k => ?_) this
  rw [hF, hm, if_pos (by omega), Int.toNat_natCast, if_pos (by omega), Option.bind_some, Option.bind_some, List.length_replicate, hs.1]
  rfl
theorem merge27 {a b : List Int} (ha : a.length ≤ 1000000) (hb : b.length ≤ 1000000) : Ev (fun k => bitset_merge_27.f k a b) (opL orI a b) :=
  merge_eval (L := bitset_merge_27.l0) (g := orI) (fun k x1 x7 x20 x21 => by simp only [bitset_merge_27.l0, bitset_Join_1.f, Option.bind_some]; rfl) (fun k l0 l1 => by simp only [bitset_merge_27.f]) a b ha hb
theorem merge29 {a b : List Int} (ha : a.length ≤ 1000000) (hb : b.length ≤ 1000000) : Ev (fun k => bitset_merge_29.f k a b) (opL andI a b) :=
  merge_eval (L := bitset_merge_29.l0) (g := andI) (fun k x1 x7 x20 x21 => by simp only [bitset_merge_29.l0, bitset_Meet_1.f, Option.bind_some]; rfl) (fun k l0 l1 => by simp only [bitset_merge_29.f]) a b ha hb
theorem merge30 {a b : List Int} (ha : a.length ≤ 1000000) (hb : b.length ≤ 1000000) : Ev (fun k => bitset_merge_30.f k a b) (opL lessI a b) :=
  merge_eval (L := bitset_merge_30.l0) (g := lessI) (fun k x1 x7 x20 x21 => by simp only [bitset_merge_30.l0, bitset_Less_1.f, Option.bind_some]; rfl) (fun k l0 l1 => by simp only [bitset_merge_30.f]) a b ha hb
theorem meet_eval {a b : List Int} (ha : a.length ≤ 1000000) (hb : b.length ≤ 1000000) : Ev (fun k => bitset_Meet.f k a b) (opL andI a b) := Ev.bind (merge29 ha hb) (Ev.now _)
theorem less_eval {a b : List Int} (ha : a.length ≤ 1000000) (hb : b.length ≤ 1000000) : Ev (fun k => bitset_Less.f k a b) (opL lessI a b) := Ev.bind (merge30 ha hb) (Ev.now _)

/-! ### The reference's -/
theorem refat_eval (x : List Int) (i : Nat) : portolanref02_at.f x (i : Int) = some (x.getD i 0) := by
  unfold portolanref02_at.f
  by_cases h : (i : Int) < (x.length : Int)
  · rw [if_pos h, if_pos (by omega), rd_nat]
  · rw [if_neg h, List.getD_eq_getElem?_getD, List.getElem?_eq_none (by omega)]; rfl
theorem take_full (l t : List Int) : (l ++ t).take l.length = l := by simp
theorem refneat_loop (l : List Int) : ∀ (p t : List Int), p ++ t = l → l.length ≤ 1000000 → Ev (fun k => portolanref02_Neat.l0 k l (p.length : Int)) (neatL p) := by
  intro p
  induction p using snoc_ind with
  | h0 =>
    intro t he hl
    refine Ev.step (f := fun _ => some []) (fun k => ?_) (Ev.now _)
    simp only [portolanref02_Neat.l0]
    rw [if_neg (by simp), Option.bind_some, if_pos (by simp), if_pos (by simp), if_pos (by simp)]
    try simp
  | h1 p x ih =>
    intro t he hl
    have hlen : ((p ++ [x]).length : Int) = p.length + 1 := by simp
    have hl2 : p.length + 1 ≤ l.length := by rw [← he]; simp
    have e : wrap64 (((p ++ [x]).length : Int) - 1) = (p.length : Int) := by rw [hlen, wrap64_id (by omega) (by omega)]; omega
    have hr : rd l (p.length : Int) = x := by rw [← he, List.append_assoc]; exact rd_mid p t x
    by_cases hx : x = 0
    · subst hx
      rw [neatL_snoc_zero]
      refine Ev.step (fun k => ?_) (ih (0 :: t) (by rw [← he]; simp) hl)
      simp only [portolanref02_Neat.l0]
      rw [e, hr, if_pos (by omega), if_pos (by omega), if_pos (by omega), if_pos rfl]
    · rw [neatL_snoc_ne _ _ hx]
      have ht : l.take (((p ++ [x]).length : Int)).toNat = p ++ [x] := by rw [Int.toNat_natCast, ← he]; exact take_full _ _
      refine Ev.step (f := fun _ => some (p ++ [x])) (fun k => ?_) (Ev.now _)
      simp only [portolanref02_Neat.l0]
      rw [e, hr, if_pos (by omega), if_pos (by omega), if_pos (by omega), if_neg hx, Option.bind_some, if_pos (by omega), if_pos (by omega), ht, if_pos (by simp; omega), List.nil_append]
theorem refneat_eval {l : List Int} (hl : l.length ≤ 1000000) : Ev (fun k => portolanref02_Neat.f k l) (neatL l) := refneat_loop l l [] (by simp) hl
theorem each_loop (a b : List Int) (way : Int) (g : Int → Int → Int) (hg : g = if way = 0 then orI else if way = 1 then andI else lessI) (n : Nat) (hn : n = max a.length b.length) (hs : n ≤ 1000000) :
    ∀ (d i : Nat), n - i = d → i ≤ n → Ev (fun k => portolanref02_each.l0 k a b way ((List.range i).map fun j => g (a.getD j 0) (b.getD j 0)) (i : Int)) (opL g a b) := by
  intro d
  induction d with
  | zero =>
    intro i hd hi
    have e : i = max a.length b.length := by omega
    have hz : ((List.range i).map fun j => g (a.getD j 0) (b.getD j 0)) = zipL g a b := by rw [e]; rfl
    rw [hz]
    refine Ev.step (f := fun k => (portolanref02_Neat.f k (zipL g a b)).bind fun t => some t) (fun k => ?_) (Ev.bind (refneat_eval (by rw [zipL_length]; omega)) (Ev.now _))
    simp only [portolanref02_each.l0]
    rw [mx_nat, if_neg (by omega)]
  | succ d ih =>
    intro i hd hi
    have next := ih (i + 1) (by omega) (by omega)
    rw [List.range_succ, List.map_append, List.map_singleton] at next
    refine Ev.step (fun k => ?_) next
    simp only [portolanref02_each.l0]
    rw [mx_nat, if_pos (by omega), refat_eval, refat_eval, wrap_succ (n := n) (by omega) hs]
    have hlen : ((List.range i).map fun j => g (a.getD j 0) (b.getD j 0)).length < 17592186044416 := by simp; omega
    by_cases h0 : way = 0
    · rw [if_pos h0] at hg; subst hg
      rw [if_pos h0, Option.bind_some, Option.bind_some, if_pos hlen]; rfl
    · rw [if_neg h0] at hg ⊢
      by_cases h1 : way = 1
      · rw [if_pos h1] at hg; subst hg
        rw [if_pos h1, Option.bind_some, Option.bind_some, if_pos hlen]; rfl
      · rw [if_neg h1] at hg; subst hg
        rw [if_neg h1, Option.bind_some, Option.bind_some, if_pos hlen]; rfl
theorem each_eval (a b : List Int) (way : Int) (g : Int → Int → Int) (hg : g = if way = 0 then orI else if way = 1 then andI else lessI) (ha : a.length ≤ 1000000) (hb : b.length ≤ 1000000) : Ev (fun k => portolanref02_each.f k a b way) (opL g a b) :=
  each_loop a b way g hg _ rfl (by omega) _ 0 rfl (Nat.zero_le _)
theorem refmeet_eval {a b : List Int} (ha : a.length ≤ 1000000) (hb : b.length ≤ 1000000) : Ev (fun k => portolanref02_Meet.f k a b) (opL andI a b) := Ev.bind (each_eval a b 1 andI rfl ha hb) (Ev.now _)
theorem refless_eval {a b : List Int} (ha : a.length ≤ 1000000) (hb : b.length ≤ 1000000) : Ev (fun k => portolanref02_Less.f k a b) (opL lessI a b) := Ev.bind (each_eval a b 2 lessI rfl ha hb) (Ev.now _)

/-! ### Join -/
def joinL (ls : List (List Int)) (x : List Int) : List Int := ls.foldl (opL orI) x
theorem rd2_mid (pre post : List (List Int)) (x : List Int) : rd_L2 (pre ++ x :: post) (pre.length : Int) = x := by
  unfold rd_L2; simp [List.getD_eq_getElem?_getD]
theorem join_loop (ls : List (List Int)) (hl : ls.length ≤ 1000) (hs : ∀ l ∈ ls, l.length ≤ 1000) : ∀ (post pre : List (List Int)) (x : List Int), ls = pre ++ post → x.length ≤ 1000 → Ev (fun k => bitset_Join.l0 k x ls (ls.length : Int) (pre.length : Int)) (joinL post x) := by
  intro post
  induction post with
  | nil =>
    intro pre x he hx
    refine Ev.step (f := fun _ => some x) (fun k => ?_) (Ev.now _)
    simp only [bitset_Join.l0]
    rw [if_neg (by rw [he]; simp)]
  | cons l post ih =>
    intro pre x he hx
    have hlen : l.length ≤ 1000 := hs l (by rw [he]; simp)
    have hlt : (pre.length : Int) < (ls.length : Int) := by rw [he]; simp; omega
    have hop := opL_length orI x l
    have next := ih (pre ++ [l]) (opL orI x l) (by rw [he]; simp) (by omega)
    have hplus : wrap64 ((pre.length : Int) + 1) = ((pre ++ [l]).length : Int) := by rw [wrap64_id (by omega) (by omega)]; simp
    have hrd : rd_L2 ls (pre.length : Int) = l := by rw [he]; exact rd2_mid pre post l
    refine Ev.step (f := fun k => (bitset_merge_27.f k x l).bind fun t => bitset_Join.l0 k t ls (ls.length : Int) ((pre ++ [l]).length : Int)) (fun k => ?_) (Ev.bind (merge27 (by omega) (by omega)) next)
    simp only [bitset_Join.l0]
    rw [if_pos hlt, if_pos (by omega), if_pos hlt, hrd, hplus]
theorem join_eval (ls : List (List Int)) (hl : ls.length ≤ 1000) (hs : ∀ l ∈ ls, l.length ≤ 1000) : Ev (fun k => bitset_Join.f k ls) (joinL ls []) := join_loop ls hl hs ls [] [] rfl (by simp)
theorem refjoin_loop (ls : List (List Int)) (hl : ls.length ≤ 1000) (hs : ∀ l ∈ ls, l.length ≤ 1000) : ∀ (post pre : List (List Int)) (x : List Int), ls = pre ++ post → x.length ≤ 1000 → Ev (fun k => portolanref02_Join.l0 k ls x (pre.length : Int)) (joinL post x) := by
  intro post
  induction post with
  | nil =>
    intro pre x he hx
    refine Ev.step (f := fun _ => some x) (fun k => ?_) (Ev.now _)
    simp only [portolanref02_Join.l0]
    rw [if_neg (by rw [he]; simp)]
  | cons l post ih =>
    intro pre x he hx
    have hlen : l.length ≤ 1000 := hs l (by rw [he]; simp)
    have hlt : (pre.length : Int) < (ls.length : Int) := by rw [he]; simp; omega
    have hop := opL_length orI x l
    have next := ih (pre ++ [l]) (opL orI x l) (by rw [he]; simp) (by omega)
    have hplus : wrap64 ((pre.length : Int) + 1) = ((pre ++ [l]).length : Int) := by rw [wrap64_id (by omega) (by omega)]; simp
    have hrd : rd_L2 ls (pre.length : Int) = l := by rw [he]; exact rd2_mid pre post l
    refine Ev.step (f := fun k => (portolanref02_each.f k x l 0).bind fun t => portolanref02_Join.l0 k ls t ((pre ++ [l]).length : Int)) (fun k => ?_) (Ev.bind (each_eval x l 0 orI rfl (by omega) (by omega)) next)
    simp only [portolanref02_Join.l0]
    rw [if_pos hlt, if_pos (by omega), hrd, hplus]
theorem refjoin_eval (ls : List (List Int)) (hl : ls.length ≤ 1000) (hs : ∀ l ∈ ls, l.length ≤ 1000) : Ev (fun k => portolanref02_Join.f k ls) (joinL ls []) := refjoin_loop ls hl hs ls [] [] rfl (by simp)

/-! ### The same? -/
def eqFrom (a b : List Int) (i : Nat) : Prop := ∀ j, i ≤ j → a.getD j 0 = b.getD j 0
noncomputable instance (a b : List Int) (i : Nat) : Decidable (eqFrom a b i) := Classical.propDecidable _
theorem equal_loop (a b : List Int) (he : a.length = b.length) (hs : a.length ≤ 1000000) : ∀ (d i : Nat), a.length - i = d → i ≤ a.length → Ev (fun k => slices_Equal_uint64_uint64.l0 k a b (a.length : Int) (i : Int)) (decide (eqFrom a b i)) := by
  intro d
  induction d with
  | zero =>
    intro i hd hi
    have ht : decide (eqFrom a b i) = true := decide_eq_true fun j hj => by
      rw [List.getD_eq_getElem?_getD, List.getD_eq_getElem?_getD, List.getElem?_eq_none (by omega), List.getElem?_eq_none (by omega)]
    rw [ht]
    refine Ev.step (f := fun _ => some true) (fun k => ?_) (Ev.now _)
    simp only [slices_Equal_uint64_uint64.l0]
    rw [if_neg (by omega)]
  | succ d ih =>
    intro i hd hi
    by_cases hx : a.getD i 0 = b.getD i 0
    · have next := ih (i + 1) (by omega) (by omega)
      have e : decide (eqFrom a b i) = decide (eqFrom a b (i + 1)) := by
        rw [decide_eq_decide]
        refine ⟨fun h j hj => h j (by omega), fun h j hj => ?_⟩
        rcases Nat.eq_or_lt_of_le hj with e | e
        · rw [← e]; exact hx
        · exact h j e
      rw [e]
      refine Ev.step (fun k => ?_) next
      simp only [slices_Equal_uint64_uint64.l0]
      rw [if_pos (by omega), if_pos (by omega), if_pos (by omega), if_pos (by omega), rd_nat, rd_nat, if_pos hx, wrap_succ (n := a.length) (by omega) hs]
    · have e : decide (eqFrom a b i) = false := decide_eq_false fun h => hx (h i (Nat.le_refl _))
      rw [e]
      refine Ev.step (f := fun _ => some false) (fun k => ?_) (Ev.now _)
      simp only [slices_Equal_uint64_uint64.l0]
      rw [if_pos (by omega), if_pos (by omega), if_pos (by omega), if_pos (by omega), rd_nat, rd_nat, if_neg hx]
theorem equal_eval {a b : List Int} (hs : a.length ≤ 1000000) : Ev (fun k => slices_Equal_uint64_uint64.f k a b) (decide (a = b)) := by
  unfold slices_Equal_uint64_uint64.f
  by_cases he : (a.length : Int) = (b.length : Int)
  · simp only [if_pos he]
    have h := equal_loop a b (by omega) hs a.length 0 rfl (Nat.zero_le _)
    have e : decide (a = b) = decide (eqFrom a b 0) := by
      rw [decide_eq_decide]
      exact ⟨fun h j _ => by rw [h], fun h => ext_getD (by omega) fun j => h j (Nat.zero_le _)⟩
    rw [e]; exact h
  · simp only [if_neg he]
    rw [decide_eq_false (fun h => he (by rw [h]))]
    exact Ev.now _
def sameB (a b : List Int) : Bool := decide (neatL a = neatL b)
theorem same_eval {a b : List Int} (ha : a.length ≤ 1000000) (hb : b.length ≤ 1000000) : Ev (fun k => bitset_Same.f k a b) (sameB a b) := by
  have h1 := neatL_length_le a
  exact Ev.bind (neat_eval a ha) (Ev.bind (neat_eval b hb) (Ev.bind (equal_eval (by omega)) (Ev.now _)))
theorem refsame_loop (a b : List Int) (n : Nat) (hn : n = max a.length b.length) (hs : n ≤ 1000000) : ∀ (d i : Nat), n - i = d → i ≤ n → Ev (fun k => portolanref02_Same.l0 k a b (i : Int)) (decide (eqFrom a b i)) := by
  intro d
  induction d with
  | zero =>
    intro i hd hi
    have ht : decide (eqFrom a b i) = true := decide_eq_true fun j hj => by
      rw [List.getD_eq_getElem?_getD, List.getD_eq_getElem?_getD, List.getElem?_eq_none (by omega), List.getElem?_eq_none (by omega)]
    rw [ht]
    refine Ev.step (f := fun _ => some true) (fun k => ?_) (Ev.now _)
    simp only [portolanref02_Same.l0]
    rw [mx_nat, if_neg (by omega)]
  | succ d ih =>
    intro i hd hi
    by_cases hx : a.getD i 0 = b.getD i 0
    · have next := ih (i + 1) (by omega) (by omega)
      have e : decide (eqFrom a b i) = decide (eqFrom a b (i + 1)) := by
        rw [decide_eq_decide]
        refine ⟨fun h j hj => h j (by omega), fun h j hj => ?_⟩
        rcases Nat.eq_or_lt_of_le hj with e | e
        · rw [← e]; exact hx
        · exact h j e
      rw [e]
      refine Ev.step (fun k => ?_) next
      simp only [portolanref02_Same.l0]
      rw [mx_nat, if_pos (by omega), refat_eval, refat_eval, Option.bind_some, Option.bind_some, if_pos hx, wrap_succ (n := n) (by omega) hs]
    · have e : decide (eqFrom a b i) = false := decide_eq_false fun h => hx (h i (Nat.le_refl _))
      rw [e]
      refine Ev.step (f := fun _ => some false) (fun k => ?_) (Ev.now _)
      simp only [portolanref02_Same.l0]
      rw [mx_nat, if_pos (by omega), refat_eval, refat_eval, Option.bind_some, Option.bind_some, if_neg hx]
theorem refsame_eval {a b : List Int} (ha : a.length ≤ 1000000) (hb : b.length ≤ 1000000) : Ev (fun k => portolanref02_Same.f k a b) (sameB a b) := by
  have h := refsame_loop a b _ rfl (by omega) _ 0 rfl (Nat.zero_le _)
  have e : sameB a b = decide (eqFrom a b 0) := by
    unfold sameB
    rw [decide_eq_decide]
    exact ⟨fun h j _ => neatL_inj h j, fun h => neatL_eq fun j => h j (Nat.zero_le _)⟩
  rw [e]; exact h
theorem words_eval {a : List Int} (ha : a.length ≤ 1000000) : Ev (fun k => portolanref02_Words.f k a a) true := by
  unfold portolanref02_Words.f
  have h := refsame_eval ha ha
  have e : sameB a a = true := by unfold sameB; simp
  rw [e] at h
  simp only [if_true]
  exact Ev.bind h (Ev.now _)
theorem holds_eval {a b : List Int} (ha : a.length ≤ 1000000) (hb : b.length ≤ 1000000) : Ev (fun k => bitset_Holds.f k a b) (((opL lessI b a).length : Int) == 0) := Ev.bind (less_eval hb ha) (Ev.now _)
theorem refholds_eval {a b : List Int} (ha : a.length ≤ 1000000) (hb : b.length ≤ 1000000) : Ev (fun k => portolanref02_Holds.f k a b) (((opL lessI b a).length : Int) == 0) := Ev.bind (refless_eval hb ha) (Ev.now _)
theorem great_eval (a b : List Int) : portolanlaw02_great.f a b = some (decide (100 < a.length ∨ 100 < b.length)) := by
  unfold portolanlaw02_great.f
  by_cases h : (a.length : Int) > 100
  · rw [if_pos h, decide_eq_true (.inl (by omega))]
  · rw [if_neg h]
    have h1 : ¬ 100 < a.length := by omega
    simp only [h1, false_or, Option.some.injEq, decide_eq_decide]
    omega
theorem joinL_length (ls : List (List Int)) (x : List Int) (n : Nat) (hx : x.length ≤ n) (hs : ∀ l ∈ ls, l.length ≤ n) : (joinL ls x).length ≤ n := by
  unfold joinL
  induction ls generalizing x with
  | nil => exact hx
  | cons l ls ih =>
    rw [List.foldl_cons]
    refine ih _ ?_ (fun l hl => hs l (List.mem_cons_of_mem _ hl))
    have := opL_length orI x l
    have := hs l List.mem_cons_self
    omega
end Go.Proofs.Ythbkemkjkpaoaaa.Pure
