/- slices.Sort of integers, as a known function: definitions, and what is sorted. -/
import Derived.Test.YtabdcfcnngnnoaaDoorC0
set_option linter.unusedVariables false
set_option linter.unusedSimpArgs false
namespace Go.Proofs.YtabdcfcnngnnoaaDoor.E
open Go
namespace U
def ins1 (x : Int) : List Int → List Int
  | [] => [x]
  | y :: r => if x ≤ y then x :: y :: r else y :: ins1 x r
/-- In order. -/
def isort : List Int → List Int
  | [] => []
  | x :: r => ins1 x (isort r)
end U
/-- Rows of one integer. -/
def intL : List (List AV) → Option (List Int)
  | [] => some []
  | [.v (.int .i64 n)] :: r => (intL r).map (n :: ·)
  | _ => none
/-- What slices.Sort comes to, of all of a row of one's own. -/
def sortP (args : List AV) (sto : List Row) : Option (AV × List Row × List Nat) :=
  match args with
  | [.sl []] => some (.tup [], sto, [])
  | [.os t 0 len] => match sto[t]? with
    | some (.arr 1 xs) => if len = xs.length ∧ xs.length < 1000000 then (intL xs).map fun l => (.tup [], sto.set t (.arr 1 ((U.isort l).map encI)), []) else none
    | _ => none
  | _ => none
theorem intL_map : ∀ l : List Int, intL (l.map encI) = some l
  | [] => rfl
  | x :: l => by
    show (intL (l.map encI)).map (x :: ·) = _
    rw [intL_map l]; rfl
theorem intL_eq : ∀ (xs : List (List AV)) (l : List Int), intL xs = some l → xs = l.map encI
  | [], l, h => by cases h; rfl
  | r :: xs, l, h => by
    unfold intL at h
    split at h
    · rename_i e; cases e
    · rename_i n r' e
      cases e
      obtain ⟨l', h1, rfl⟩ := Option.map_eq_some_iff.1 h
      rw [intL_eq _ l' h1]; rfl
    · cases h
theorem ins1_perm (x : Int) : ∀ l : List Int, (U.ins1 x l).Perm (x :: l)
  | [] => List.Perm.refl _
  | y :: r => by
    unfold U.ins1
    split
    · exact List.Perm.refl _
    · exact ((ins1_perm x r).cons y).trans (List.Perm.swap x y r)
theorem isort_perm : ∀ l : List Int, (U.isort l).Perm l
  | [] => List.Perm.refl _
  | x :: r => (ins1_perm x _).trans ((isort_perm r).cons x)
theorem ins1_sorted (x : Int) : ∀ l : List Int, l.Pairwise (· ≤ ·) → (U.ins1 x l).Pairwise (· ≤ ·)
  | [], _ => by simp [U.ins1]
  | y :: r, h => by
    rw [List.pairwise_cons] at h
    unfold U.ins1
    split
    · rename_i hxy
      rw [List.pairwise_cons]
      refine ⟨fun z hz => ?_, List.pairwise_cons.2 h⟩
      rcases List.mem_cons.1 hz with rfl | hz
      · exact hxy
      · exact Int.le_trans hxy (h.1 z hz)
    · rename_i hxy
      rw [List.pairwise_cons]
      refine ⟨fun z hz => ?_, ins1_sorted x r h.2⟩
      have := (ins1_perm x r).mem_iff.1 hz
      rcases List.mem_cons.1 this with rfl | hz
      · omega
      · exact h.1 z hz
theorem isort_sorted : ∀ l : List Int, (U.isort l).Pairwise (· ≤ ·)
  | [] => List.Pairwise.nil
  | x :: r => ins1_sorted x _ (isort_sorted r)
theorem isort_len (l : List Int) : (U.isort l).length = l.length := (isort_perm l).length_eq
/-- What rises, and has the same numbers, is the same. -/
theorem sorted_unique : ∀ {a b : List Int}, a.Perm b → a.Pairwise (· ≤ ·) → b.Pairwise (· ≤ ·) → a = b := by
  intro a b hp ha hb
  exact hp.eq_of_pairwise (fun x y _ _ h1 h2 => Int.le_antisymm h1 h2) ha hb
end Go.Proofs.YtabdcfcnngnnoaaDoor.E
