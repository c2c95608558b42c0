/- Dominators: the places in an order. No program here. -/
import Derived.Test.YtabdcfcnngnnoaaD5
set_option linter.unusedVariables false
set_option linter.unusedSectionVars false
set_option linter.unusedSimpArgs false
namespace Go.Proofs.Ytabdcfcnngnnoaa.E
open Go
namespace U
def placeS : List Int → Nat → List Int → List Int
  | [], _, l => l
  | b :: r, i, l => placeS r (i + 1) (l.set b.toNat (i : Int))
end U
theorem placeS_len : ∀ (r : List Int) (i : Nat) (l : List Int), (U.placeS r i l).length = l.length
  | [], i, l => rfl
  | b :: r, i, l => by unfold U.placeS; rw [placeS_len r, List.length_set]
theorem placeS_non : ∀ (r : List Int) (i : Nat) (l : List Int) (x : Nat), (∀ b ∈ r, 0 ≤ b ∧ b < l.length) → (x : Int) ∉ r → U.nt (U.placeS r i l) x = U.nt l x
  | [], i, l, x, hr, hx => rfl
  | b :: r, i, l, x, hr, hx => by
    unfold U.placeS
    obtain ⟨b0, b1⟩ := hr b (by simp)
    rw [placeS_non r (i + 1) _ x (fun c hc => by rw [List.length_set]; exact hr c (List.mem_cons_of_mem _ hc)) (fun q => hx (List.mem_cons_of_mem _ q)), nt_set _ _ (by omega), if_neg (fun e => hx (by rw [List.mem_cons]; left; omega))]
theorem placeS_pos : ∀ (l1 : List Int) (x : Int) (l2 : List Int) (i : Nat) (l : List Int), (∀ b ∈ l1 ++ x :: l2, 0 ≤ b ∧ b < l.length) → (l1 ++ x :: l2).Nodup → U.nt (U.placeS (l1 ++ x :: l2) i l) x.toNat = ((i + l1.length : Nat) : Int)
  | [], x, l2, i, l, hr, hn => by
    obtain ⟨b0, b1⟩ := hr x (by simp)
    show U.nt (U.placeS l2 (i + 1) (l.set x.toNat (i : Int))) x.toNat = _
    rw [placeS_non l2 (i + 1) _ x.toNat (fun c hc => by rw [List.length_set]; exact hr c (by simp [hc])) (fun q => by
      rw [show ((x.toNat : Nat) : Int) = x by omega] at q
      rw [List.nil_append, List.nodup_cons] at hn
      exact hn.1 q), nt_set _ _ (by omega), if_pos rfl]
    simp
  | b :: l1, x, l2, i, l, hr, hn => by
    show U.nt (U.placeS (l1 ++ x :: l2) (i + 1) (l.set b.toNat (i : Int))) x.toNat = _
    rw [placeS_pos l1 x l2 (i + 1) _ (fun c hc => by rw [List.length_set]; exact hr c (List.mem_cons_of_mem _ hc)) (by
      rw [List.cons_append, List.nodup_cons] at hn
      exact hn.2), List.length_cons]
    omega
theorem base_of {nx : Int → List Int} {n : Nat} (hnx : ∀ x : Int, 0 ≤ x → x < n → ∀ y ∈ nx x, 0 ≤ y ∧ y < n) (hn : 0 < n) : Base nx n (U.left nx n).reverse (U.placeS (U.left nx n).reverse 0 (List.replicate n (-1))) := by
  have O := ord_of hnx hn
  have hr : ∀ b ∈ (U.left nx n).reverse, 0 ≤ b ∧ b < (List.replicate n (-1 : Int)).length := fun b hb => by rw [List.length_replicate]; exact O.ran b hb
  refine ⟨hn, hnx, O, by rw [placeS_len, List.length_replicate], fun l1 x l2 h => ?_, fun x hx hm => ?_⟩
  · have := placeS_pos l1 x l2 0 (List.replicate n (-1)) (by rw [← h]; exact hr) (by rw [← h]; exact O.nd)
    rw [← h, Nat.zero_add] at this
    exact this
  · rw [placeS_non _ _ _ _ hr hm, nt_rep n x (-1) hx]
theorem lv_zero {nx : Int → List Int} {n : Nat} {od pl : List Int} (B : Base nx n od pl) : Lv nx n pl 0 (List.replicate n (-1)) :=
  ⟨⟨by simp, nt_rep n 0 (-1) B.hn, fun x hx _ => nt_rep n x (-1) hx, fun x hx _ _ => .inl (nt_rep n x (-1) hx)⟩, fun x hx _ h => by rw [nt_rep n x (-1) hx] at h; omega, fun j hj => by omega⟩
end Go.Proofs.Ytabdcfcnngnnoaa.E
