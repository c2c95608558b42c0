/- What the laws about functions and loops go by. -/
import Derived.Test.YtabdcfcnngnnoaaDoorE22
set_option linter.unusedVariables false
set_option linter.unusedSimpArgs false
namespace Go.Proofs.YtabdcfcnngnnoaaDoor.E
open Go
theorem wrap_ok {k : IntKind} {n : Int} (h1 : k.min ≤ n) (h2 : n ≤ k.max) : k.wrap n = n := by
  cases k <;> simp [IntKind.wrap, IntKind.min, IntKind.max, IntKind.bits, IntKind.signed] at * <;> omega
theorem wrap64 {n : Int} (h1 : -9223372036854775808 ≤ n) (h2 : n ≤ 9223372036854775807) : IntKind.i64.wrap n = n := wrap_ok (by exact h1) (by exact h2)
/-- What slices.Clone comes to, of elements of s cells. -/
def cloneP (s : Nat) (args : List AV) (sto : List Row) : Option (AV × List Row × List Nat) :=
  match args, sto with
  | [.sl xs], [] => if rowsOk s xs = true ∧ xs.length ≤ LIM then some (.os 0 0 xs.length, [.arr s xs], []) else none
  | _, _ => none
/-- For all from i on, below n. -/
def allFrom (p : Nat → Bool) (i n : Nat) : Bool := (List.range' i (n - i)).all p
theorem allFrom_end (p : Nat → Bool) {i n : Nat} (h : n ≤ i) : allFrom p i n = true := by simp [allFrom, Nat.sub_eq_zero_of_le h]
theorem allFrom_step (p : Nat → Bool) {i n : Nat} (h : i < n) : allFrom p i n = (p i && allFrom p (i + 1) n) := by
  obtain ⟨d, rfl⟩ : ∃ d, n = i + 1 + d := ⟨n - (i + 1), by omega⟩
  simp [allFrom, show i + 1 + d - i = d + 1 from by omega, show i + 1 + d - (i + 1) = d from by omega, List.range'_succ]
theorem allFrom_iff {p : Nat → Bool} {i n : Nat} : allFrom p i n = true ↔ ∀ j, i ≤ j → j < n → p j = true := by
  simp only [allFrom, List.all_eq_true, List.mem_range'_1]
  exact ⟨fun h j h1 h2 => h j ⟨h1, by omega⟩, fun h j h1 => h j h1.1 (by omega)⟩
theorem allFrom_last (p : Nat → Bool) {k i : Nat} (h : k ≤ i) : allFrom p k (i + 1) = (allFrom p k i && p i) := by
  rw [Bool.eq_iff_iff]
  simp only [allFrom_iff, Bool.and_eq_true]
  exact ⟨fun h1 => ⟨fun j h2 h3 => h1 j h2 (by omega), h1 i h (by omega)⟩, fun h1 j h2 h3 => by
    by_cases e : j = i
    · subst e; exact h1.2
    · exact h1.1 j h2 (by omega)⟩
/-! Maps. -/
theorem valL_updL (key key' : List Int) (v : Value) : ∀ L : List (List Int × Value), valL key' (updL key v L) = if key = key' then some v else valL key' L
  | [] => by simp [updL, valL]
  | p :: r => by
    simp only [updL]
    split
    · rename_i h
      simp only [valL]
      split
      · rfl
      · rename_i h2
        rw [if_neg (by rw [h]; exact h2)]
    · rename_i h
      simp only [valL, valL_updL key key' v r]
      split
      · rename_i h2
        rw [if_neg (fun e => h (h2.trans e.symm))]
      · rfl
theorem atKeyV_updL (key key' : List Int) (z v : Value) (L : List (List Int × Value)) : atKeyV key' z (updL key v L) = if key = key' then v else atKeyV key' z L := by
  unfold atKeyV
  rw [valL_updL]
  split <;> rfl
theorem posL_lt {key : List Int} : ∀ {L : List (List Int × Value)} {z : Value}, (posL key L).getD L.length < (entL key z L).length
  | [], z => by simp [posL, entL]
  | p :: r, z => by
    have ih := posL_lt (key := key) (L := r) (z := z)
    simp only [posL, entL]
    split
    · simp
    · cases h : posL key r with
      | none => simp [h] at ih ⊢; omega
      | some j => simp [h] at ih ⊢; omega
theorem setL_entL {key : List Int} {z v : Value} : ∀ {L : List (List Int × Value)}, setL ((posL key L).getD L.length) v (entL key z L) = updL key v L
  | [] => by simp [posL, entL, setL, updL]
  | p :: r => by
    have ih := setL_entL (key := key) (z := z) (v := v) (L := r)
    simp only [posL, entL, updL]
    split
    · rename_i h; simp [setL, h]
    · cases h : posL key r with
      | none => simp [h, setL] at ih ⊢; exact ih
      | some j => simp [h, setL] at ih ⊢; exact ih
theorem good2 {a b : Int} (ha : -9223372036854775808 ≤ a ∧ a ≤ 9223372036854775807) (hb : -9223372036854775808 ≤ b ∧ b ≤ 9223372036854775807) : goodKey [.i64, .i64] [a, b] = true := by
  simp [goodKey, IntKind.min, IntKind.max, IntKind.signed, IntKind.bits]
  omega
theorem good1 {a : Int} (ha : -9223372036854775808 ≤ a ∧ a ≤ 9223372036854775807) : goodKey [.i64] [a] = true := by
  simp [goodKey, IntKind.min, IntKind.max, IntKind.signed, IntKind.bits]
  omega
section
variable {α : Type} [Inhabited α] {enc : α → List AV} {l : List α}
theorem get_ok {i : Nat} (h : i < l.length) : l[i]? = some (l.getD i default) := by simp [List.getD_eq_getElem?_getD, List.getElem?_eq_getElem h]
theorem rowAt_map {i : Nat} (h : i < l.length) : rowAt (l.map enc) i = enc (l.getD i default) := by
  simp [rowAt, List.getD_eq_getElem?_getD, List.getElem?_eq_getElem h]
theorem rows_map {i : Nat} (h : i < l.length) : (l.map enc)[i]? = some (enc (l.getD i default)) := by
  simp [List.getD_eq_getElem?_getD, List.getElem?_eq_getElem h]
end
attribute [simp] rdI rdB rdS rdL
@[simp] theorem goB_inj {a b : Bool} : (goB a = goB b) ↔ a = b := by simp [goB]
@[simp] theorem goI_inj {a b : Int} : (goI a = goI b) ↔ a = b := by simp [goI]
@[simp] theorem int_goI (x : Int) : intOf (goI x) = x := rfl
@[simp] theorem bool_goB (x : Bool) : boolOf (goB x) = x := rfl
@[simp] theorem int_v (k : IntKind) (x : Int) : intOf (.v (.int k x)) = x := rfl
@[simp] theorem bool_v (x : Bool) : boolOf (.v (.bool x)) = x := rfl
@[simp] theorem str_v (x : ByteArray) : strOf (.v (.string x)) = x := rfl
@[simp] theorem sl_v (x : List (List AV)) : slOf (.sl x) = x := rfl
end Go.Proofs.YtabdcfcnngnnoaaDoor.E
