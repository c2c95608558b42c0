/- Common ground of the layers: searches, lists as rows, numbers. -/
import Derived.Test.YtabdcfcnngnnoaaDoorE23
set_option linter.unusedVariables false
set_option linter.unusedSimpArgs false
namespace Go.Proofs.YtabdcfcnngnnoaaDoor.E
open Go
def encI (n : Int) : List AV := [goI n]
def F0 : CallF := fun _ _ _ => none
def L0 : Nat → St → LT := fun id st => .no
def In64 (x : Int) : Prop := -9223372036854775808 ≤ x ∧ x ≤ 9223372036854775807
theorem lit64 {n : Int} (h : (Lit.int .i64 n).wf = true) : In64 n := by
  simp [Lit.wf, IntKind.min, IntKind.max, IntKind.signed, IntKind.bits] at h
  exact ⟨by omega, by omega⟩
namespace U
/-- The first one from i on. -/
def firstOf (p : Nat → Bool) : Nat → Nat → Int
  | 0, _ => -1
  | d + 1, i => if p i then i else firstOf p d (i + 1)
def nt (h : List Int) (i : Nat) : Int := h.getD i 0
end U
theorem firstOf_step (p : Nat → Bool) (d i : Nat) : U.firstOf p (d + 1) i = if p i then (i : Int) else U.firstOf p d (i + 1) := rfl
theorem firstOf_neg (p : Nat → Bool) : ∀ d i, 0 ≤ U.firstOf p d i ∨ U.firstOf p d i = -1 := by
  intro d
  induction d with
  | zero => intro i; right; rfl
  | succ d ih => intro i; simp only [U.firstOf]; split <;> first | (left; omega) | exact ih _
theorem firstOf_val (p : Nat → Bool) : ∀ d i, 0 ≤ U.firstOf p d i → ∃ w : Nat, U.firstOf p d i = w ∧ i ≤ w ∧ w < i + d ∧ p w = true := by
  intro d
  induction d with
  | zero => intro i h; simp [U.firstOf] at h
  | succ d ih =>
    intro i h
    rcases Bool.eq_false_or_eq_true (p i) with h1 | h1
    · exact ⟨i, by simp only [U.firstOf]; exact if_pos h1, Nat.le_refl _, by omega, h1⟩
    · have e : U.firstOf p (d + 1) i = U.firstOf p d (i + 1) := by simp only [U.firstOf]; exact if_neg (by rw [h1]; simp)
      rw [e] at h ⊢
      obtain ⟨w, a, b, c, e2⟩ := ih (i + 1) h
      exact ⟨w, a, by omega, by omega, e2⟩
/-- And none ahead of it. -/
theorem firstOf_least (p : Nat → Bool) : ∀ d i (w : Nat), U.firstOf p d i = w → ∀ j, i ≤ j → j < w → p j = false := by
  intro d
  induction d with
  | zero => intro i w h j h1 h2; exfalso; unfold U.firstOf at h; omega
  | succ d ih =>
    intro i w h j h1 h2
    rw [firstOf_step] at h
    rcases Bool.eq_false_or_eq_true (p i) with h3 | h3
    · rw [if_pos h3] at h; omega
    · rw [if_neg (by rw [h3]; simp)] at h
      by_cases e : j = i
      · subst e; exact h3
      · exact ih (i + 1) w h j (by omega) h2
theorem firstOf_ge (p : Nat → Bool) : ∀ d i (j : Nat), i ≤ j → j < i + d → p j = true → 0 ≤ U.firstOf p d i := by
  intro d
  induction d with
  | zero => intro i j h1 h2; omega
  | succ d ih =>
    intro i j h1 h2 h3
    rw [firstOf_step]
    split
    · omega
    · rename_i h
      exact ih (i + 1) j (by
        by_cases e : j = i
        · subst e; exact absurd h3 h
        · omega) (by omega) h3
theorem firstOf_congr {p q : Nat → Bool} : ∀ d i, (∀ j, i ≤ j → j < i + d → p j = q j) → U.firstOf p d i = U.firstOf q d i := by
  intro d
  induction d with
  | zero => intro i _; rfl
  | succ d ih =>
    intro i h
    simp only [U.firstOf]
    rw [h i (Nat.le_refl _) (by omega), ih (i + 1) (fun j h1 h2 => h j (by omega) (by omega))]
theorem firstOf_last (p : Nat → Bool) : ∀ d i, U.firstOf p (d + 1) i = if 0 ≤ U.firstOf p d i then U.firstOf p d i else if p (i + d) then ((i + d : Nat) : Int) else -1 := by
  intro d
  induction d with
  | zero => intro i; simp [U.firstOf]
  | succ d ih =>
    intro i
    have e1 : U.firstOf p (d + 1 + 1) i = if p i then (i : Int) else U.firstOf p (d + 1) (i + 1) := rfl
    have e2 : U.firstOf p (d + 1) i = if p i then (i : Int) else U.firstOf p d (i + 1) := rfl
    rw [e1, e2, ih (i + 1)]
    by_cases h : p i = true
    · rw [if_pos h, if_pos h, if_pos (by omega)]
    · rw [if_neg h, if_neg h, show i + 1 + d = i + (d + 1) from by omega]
theorem wrapS {i n : Nat} (hi : i < n) (hn : n < 1000000) : IntKind.i64.wrap ((i : Int) + 1) = ((i + 1 : Nat) : Int) := by rw [wrap64] <;> omega
theorem drop_cons' {α : Type} [Inhabited α] (K : List α) {i : Nat} (hi : i < K.length) : K.drop i = K.getD i default :: K.drop (i + 1) := by
  rw [List.drop_eq_getElem_cons hi, List.getD_eq_getElem?_getD, List.getElem?_eq_getElem hi]; rfl
theorem getD_mem {α : Type} [Inhabited α] {K : List α} {i : Nat} (hi : i < K.length) : K.getD i default ∈ K := by
  rw [List.getD_eq_getElem?_getD, List.getElem?_eq_getElem hi]; exact List.getElem_mem hi
theorem mem_getD {α : Type} [Inhabited α] {K : List α} {x : α} (h : x ∈ K) : ∃ i, i < K.length ∧ K.getD i default = x := by
  obtain ⟨i, hi⟩ := List.getElem?_of_mem h
  exact ⟨i, (List.getElem?_eq_some_iff.1 hi).1, by rw [List.getD_eq_getElem?_getD, hi]; rfl⟩
theorem getD_set {α : Type} [Inhabited α] (K : List α) (i j : Nat) (v : α) (hi : i < K.length) : (K.set i v).getD j default = if j = i then v else K.getD j default := by
  rw [List.getD_eq_getElem?_getD, List.getElem?_set, List.getD_eq_getElem?_getD]
  by_cases h : i = j
  · subst h; simp [hi]
  · rw [if_neg h, if_neg (fun q => h q.symm)]
theorem take_all (xs : List (List AV)) : List.take (List.length xs) (List.drop 0 xs) = xs := by rw [List.drop_zero, List.take_length]
theorem take_map {α : Type} (enc : α → List AV) (l : List α) : List.take l.length (List.drop 0 (l.map enc)) = l.map enc := by rw [List.drop_zero]; exact List.take_of_length_le (by simp)
theorem rowsOk_of {α : Type} {enc : α → List AV} {s : Nat} (h : ∀ a, (enc a).length = s) (l : List α) : rowsOk s (l.map enc) = true := by
  simp [rowsOk, h]
theorem rowI {l : List Int} {i : Nat} (h : i < l.length) : rowAt (l.map encI) i = [goI (U.nt l i)] := rowAt_map h
theorem getI {l : List Int} {i : Nat} (h : i < l.length) : (l.map encI)[i]? = some [goI (U.nt l i)] := rows_map h
theorem set_map {α : Type} (enc : α → List AV) (W : List α) (i : Nat) (v : α) : (W.map enc).set i (enc v) = (W.set i v).map enc := (List.map_set).symm
theorem set_mapI (W : List Int) (i : Nat) (v : Int) : (W.map encI).set i [goI v] = (W.set i v).map encI := set_map encI W i v
/-! What covers. -/
theorem nodup_of_cover {α : Type} [DecidableEq α] : ∀ (a b : List α), a.Nodup → (∀ x ∈ a, x ∈ b) → b.length ≤ a.length → b.Nodup ∧ ∀ x ∈ b, x ∈ a
  | [], b, _, _, hl => by
    have : b = [] := List.eq_nil_of_length_eq_zero (by simpa using hl)
    subst this
    exact ⟨List.nodup_nil, fun x h => h⟩
  | x :: a, b, hn, hs, hl => by
    rw [List.nodup_cons] at hn
    have hx := hs x (by simp)
    have hlen : (b.erase x).length = b.length - 1 := List.length_erase_of_mem hx
    have hpos : 0 < b.length := List.length_pos_of_mem hx
    obtain ⟨h1, h2⟩ := nodup_of_cover a (b.erase x) hn.2 (fun y hy => by
      have hne : y ≠ x := fun e => hn.1 (e ▸ hy)
      exact (List.mem_erase_of_ne hne).2 (hs y (by simp [hy]))) (by rw [hlen]; simp at hl; omega)
    have hnx : x ∉ b.erase x := fun h => hn.1 (h2 x h)
    have hperm := List.perm_cons_erase hx
    refine ⟨hperm.nodup_iff.2 (List.nodup_cons.2 ⟨hnx, h1⟩), fun y hy => ?_⟩
    rcases List.mem_cons.1 (hperm.mem_iff.1 hy) with rfl | h
    · simp
    · simp [h2 y h]
theorem len_of_cover {α : Type} [DecidableEq α] {a b : List α} (hn : a.Nodup) (hs : ∀ x ∈ a, x ∈ b) : a.length ≤ b.length := by
  by_cases h : b.length ≤ a.length
  · by_cases h2 : b.length = a.length
    · omega
    · exfalso
      cases a with
      | nil => simp at h; subst h; simp at h2
      | cons x a =>
        rw [List.nodup_cons] at hn
        have hbl : b.length ≤ a.length := by simp at h h2; omega
        exact hn.1 ((nodup_of_cover a b hn.2 (fun y hy => hs y (by simp [hy])) hbl).2 x (hs x (by simp)))
  · omega
/-! A map from integers. -/
def kd1 : Bool × List IntKind := (false, [.i64])
def MapI (L : List (List Int × Value)) (z : Value) (S : Int → Value) : Prop := ∀ x : Int, atKeyV [x] z L = S x
theorem MapI.upd {L : List (List Int × Value)} {z : Value} {S : Int → Value} (h : MapI L z S) (y : Int) (v : Value) : MapI (updL [y] v L) z (fun x => if x = y then v else S x) := fun x => by
  rw [atKeyV_updL, h x]
  by_cases e : x = y
  · subst e; simp
  · rw [if_neg (fun h => e (by simp only [List.cons.injEq, and_true] at h; exact h.symm))]
    show _ = if x = y then v else S x
    rw [if_neg e]
theorem MapI.congr {L : List (List Int × Value)} {z : Value} {S S' : Int → Value} (h : MapI L z S) (e : ∀ x, S x = S' x) : MapI L z S' := fun x => by rw [h x, e x]
end Go.Proofs.YtabdcfcnngnnoaaDoor.E
