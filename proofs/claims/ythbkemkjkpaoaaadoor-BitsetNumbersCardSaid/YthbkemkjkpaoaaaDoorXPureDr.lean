/- The reference's: the door seat's share of Pure02b.txt. -/
import Derived.Test.YthbkemkjkpaoaaaDoorXPureDm
import Derived.Test.YthbkemkjkpaoaaaDoorXx5
set_option linter.unusedVariables false
set_option linter.unusedSimpArgs false
namespace Go.Proofs.YthbkemkjkpaoaaaDoor.Pure
open Go.RowKit Go.Proofs.YthbkemkjkpaoaaaDoor.X Go.Proofs.YthbkemkjkpaoaaaDoor.Bit Go.Proofs.YthbkemkjkpaoaaaDoorW.PrintWords Go.Proofs.YthbkemkjkpaoaaaDoorW.PrintLast Go.Proofs.YthbkemkjkpaoaaaDoorW.PrintMore
theorem refat_eval (x : List Int) (i : Nat) : portolanref02_at.f x (i : Int) = some (x.getD i 0) := by
  unfold portolanref02_at.f
  by_cases h : (i : Int) < (x.length : Int)
  · rw [if_pos h, if_pos (by omega), rd_nat]
  · rw [if_neg h, List.getD_eq_getElem?_getD, List.getElem?_eq_none (by omega)]; rfl
theorem take_full (l t : List Int) : (l ++ t).take l.length = l := by simp
theorem refneat_loop (l : List Int) : ∀ (p t : List Int), p ++ t = l → l.length ≤ 1000000 → Ev (fun k => portolanref02_Neat.l0 k l (p.length : Int)) (neatL p) := by
  intro p
  induction p using snoc_ind with
  | h0 =>
    intro t he hl
    refine Ev.step (f := fun _ => some []) (fun k => ?_) (Ev.now _)
    simp only [portolanref02_Neat.l0]
    rw [if_neg (by simp), Option.bind_some, if_pos (by simp), if_pos (by simp), if_pos (by simp)]
    try simp
  | h1 p x ih =>
    intro t he hl
    have hlen : ((p ++ [x]).length : Int) = p.length + 1 := by simp
    have hl2 : p.length + 1 ≤ l.length := by rw [← he]; simp
    have e : wrap64 (((p ++ [x]).length : Int) - 1) = (p.length : Int) := by rw [hlen, wrap64_id (by omega) (by omega)]; omega
    have hr : rd l (p.length : Int) = x := by rw [← he, List.append_assoc]; exact rd_mid p t x
    by_cases hx : x = 0
    · subst hx
      rw [neatL_snoc_zero]
      refine Ev.step (fun k => ?_) (ih (0 :: t) (by rw [← he]; simp) hl)
      simp only [portolanref02_Neat.l0]
      rw [e, hr, if_pos (by omega), if_pos (by omega), if_pos (by omega), if_pos rfl]
    · rw [neatL_snoc_ne _ _ hx]
      have ht : l.take (((p ++ [x]).length : Int)).toNat = p ++ [x] := by rw [Int.toNat_natCast, ← he]; exact take_full _ _
      refine Ev.step (f := fun _ => some (p ++ [x])) (fun k => ?_) (Ev.now _)
      simp only [portolanref02_Neat.l0]
      rw [e, hr, if_pos (by omega), if_pos (by omega), if_pos (by omega), if_neg hx, Option.bind_some, if_pos (by omega), if_pos (by omega), ht, if_pos (by simp; omega), List.nil_append]
theorem refneat_eval {l : List Int} (hl : l.length ≤ 1000000) : Ev (fun k => portolanref02_Neat.f k l) (neatL l) := refneat_loop l l [] (by simp) hl
theorem refsame_loop (a b : List Int) (n : Nat) (hn : n = max a.length b.length) (hs : n ≤ 1000000) : ∀ (d i : Nat), n - i = d → i ≤ n → Ev (fun k => portolanref02_Same.l0 k a b (i : Int)) (decide (eqFrom a b i)) := by
  intro d
  induction d with
  | zero =>
    intro i hd hi
    have ht : decide (eqFrom a b i) = true := decide_eq_true fun j hj => by
      rw [List.getD_eq_getElem?_getD, List.getD_eq_getElem?_getD, List.getElem?_eq_none (by omega), List.getElem?_eq_none (by omega)]
    rw [ht]
    refine Ev.step (f := fun _ => some true) (fun k => ?_) (Ev.now _)
    simp only [portolanref02_Same.l0]
    rw [mx_nat, if_neg (by omega)]
  | succ d ih =>
    intro i hd hi
    by_cases hx : a.getD i 0 = b.getD i 0
    · have next := ih (i + 1) (by omega) (by omega)
      have e : decide (eqFrom a b i) = decide (eqFrom a b (i + 1)) := by
        rw [decide_eq_decide]
        refine ⟨fun h j hj => h j (by omega), fun h j hj => ?_⟩
        rcases Nat.eq_or_lt_of_le hj with e | e
        · rw [← e]; exact hx
        · exact h j e
      rw [e]
      refine Ev.step (fun k => ?_) next
      simp only [portolanref02_Same.l0]
      rw [mx_nat, if_pos (by omega), refat_eval, refat_eval, Option.bind_some, Option.bind_some, if_pos hx, wrap_succ (n := n) (by omega) hs]
    · have e : decide (eqFrom a b i) = false := decide_eq_false fun h => hx (h i (Nat.le_refl _))
      rw [e]
      refine Ev.step (f := fun _ => some false) (fun k => ?_) (Ev.now _)
      simp only [portolanref02_Same.l0]
      rw [mx_nat, if_pos (by omega), refat_eval, refat_eval, Option.bind_some, Option.bind_some, if_neg hx]
theorem refsame_eval {a b : List Int} (ha : a.length ≤ 1000000) (hb : b.length ≤ 1000000) : Ev (fun k => portolanref02_Same.f k a b) (sameB a b) := by
  have h := refsame_loop a b _ rfl (by omega) _ 0 rfl (Nat.zero_le _)
  have e : sameB a b = decide (eqFrom a b 0) := by
    unfold sameB
    rw [decide_eq_decide]
    exact ⟨fun h j _ => neatL_inj h j, fun h => neatL_eq fun j => h j (Nat.zero_le _)⟩
  rw [e]; exact h
theorem words_eval {a : List Int} (ha : a.length ≤ 1000000) : Ev (fun k => portolanref02_Words.f k a a) true := by
  unfold portolanref02_Words.f
  have h := refsame_eval ha ha
  have e : sameB a a = true := by unfold sameB; simp
  rw [e] at h
  simp only [if_true]
  exact Ev.bind h (Ev.now _)
theorem great_eval (a b : List Int) : portolanlaw02_great.f a b = some (decide (100 < a.length ∨ 100 < b.length)) := by
  unfold portolanlaw02_great.f
  by_cases h : (a.length : Int) > 100
  · rw [if_pos h, decide_eq_true (.inl (by omega))]
  · rw [if_neg h]
    have h1 : ¬ 100 < a.length := by omega
    simp only [h1, false_or, Option.some.injEq, decide_eq_decide]
    omega
end Go.Proofs.YthbkemkjkpaoaaaDoor.Pure
