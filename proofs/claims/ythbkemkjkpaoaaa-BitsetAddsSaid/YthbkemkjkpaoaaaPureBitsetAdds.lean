/- What is put into a set is in it, and what is taken out of it is not in it, and all else stays, of any set of words. No condition beside the statement's own. -/
import Derived.Test.YthbkemkjkpaoaaaXPure
set_option linter.unusedVariables false
set_option linter.unusedSimpArgs false
namespace Go.Proofs.Ythbkemkjkpaoaaa.Pure
open Go.RowKit Go.Proofs.Ythbkemkjkpaoaaa.X Go.Proofs.Ythbkemkjkpaoaaa.Bit Go.Proofs.YthbkemkjkpaoaaaW.PrintWords Go.Proofs.YthbkemkjkpaoaaaW.PrintLast Go.Proofs.YthbkemkjkpaoaaaW.PrintMore

theorem wf_word {x : Int} (h : (Lit.int .u64 x).wf = true) : 0 ≤ x ∧ x < 18446744073709551616 := by
  simp [Lit.wf, IntKind.min, IntKind.max, IntKind.bits, IntKind.signed] at h
  omega
theorem wf_int {x : Int} (h : (Lit.int .i64 x).wf = true) : -9223372036854775808 ≤ x ∧ x < 9223372036854775808 := by
  simp [Lit.wf, IntKind.min, IntKind.max, IntKind.bits, IntKind.signed] at h
  omega
theorem adds_loop (s l : List Int) (n : Int) (r : Bool) (hl : l.length ≤ 50)
    (hfin : Ev (fun k => (bitset_With.f k s l).bind fun t161 => ((bitset_Without.f k s l).bind fun t164 => (if decide (n ∈ l) = true then (portolanlaw02_BitsetAdds.j2 k s n (decide (n ∈ l)) t161 t164 (decide (n < 4096))) else (portolanlaw02_BitsetAdds.j2 k s n (decide (n ∈ l)) t161 t164 false)))) r) :
    ∀ (post pre : List Int), l = pre ++ post → Ev (fun k => portolanlaw02_BitsetAdds.l0 k s l n (decide (n ∈ pre)) (pre.length : Int)) r := by
  intro post
  induction post with
  | nil =>
    intro pre he
    have hp : pre = l := by rw [he]; simp
    subst hp
    refine Ev.step (fun k => ?_) hfin
    simp only [portolanlaw02_BitsetAdds.l0]
    rw [if_neg (by omega)]
  | cons m post ih =>
    intro pre he
    have hlt : (pre.length : Int) < (l.length : Int) := by rw [he]; simp; omega
    have hplus : wrap64 ((pre.length : Int) + 1) = ((pre ++ [m]).length : Int) := by
      rw [wrap64_id (by omega) (by omega)]; simp
    have hrd : rd l (pre.length : Int) = m := by rw [he]; exact rd_mid pre post m
    refine Ev.step (fun k => ?_) (ih (pre ++ [m]) (by rw [he]; simp))
    simp only [portolanlaw02_BitsetAdds.l0]
    rw [if_pos hlt, hplus, hrd]
    by_cases h1 : n ∈ pre
    · rw [decide_eq_true h1, if_pos rfl, decide_eq_true (by simp [h1])]
    · rw [decide_eq_false h1, if_neg (by decide), if_pos (by omega)]
      congr 1
      rw [Bool.eq_iff_iff]
      simp only [beq_iff_eq, decide_eq_true_iff, List.mem_append, List.mem_singleton]
      constructor
      · intro h; exact .inr h.symm
      · rintro (h | h)
        · exact absurd h h1
        · exact h.symm
theorem BitsetAdds : portolanlaw02_BitsetAdds.Pure := by
  intro s l n _ _ hs _ _ hl hn
  have hw : Wd s := fun x hx => wf_word (hs x hx)
  have hr : ∀ x ∈ l, -9223372036854775808 ≤ x ∧ x < 9223372036854775808 := fun x hx => wf_int (hl x hx)
  have hn' := wf_int hn
  refine Ev.rounds ?_
  unfold portolanlaw02_BitsetAdds.f
  refine Ev.bind alive_eval ?_
  have hj : ∀ b : Bool, Ev (fun k => portolanlaw02_BitsetAdds.l0 k s l n false 0) true ∨ b = true → Ev (fun k => portolanlaw02_BitsetAdds.j0 k s l n b) true := by
    intro b hb
    cases b with
    | true => exact Ev.step (f := fun _ => some true) (fun k => by simp only [portolanlaw02_BitsetAdds.j0]; rw [if_pos trivial]) (Ev.now _)
    | false =>
      refine Ev.step (fun k => ?_) (hb.resolve_right (by decide))
      simp only [portolanlaw02_BitsetAdds.j0]
      rw [if_neg (by decide)]
  have hg : portolanlaw02_great.f s [] = some (decide (100 < s.length)) := by
    unfold portolanlaw02_great.f
    by_cases h : (s.length : Int) > 100
    · rw [if_pos h, decide_eq_true (by omega)]
    · rw [if_neg h]
      have : ¬ 100 < s.length := by omega
      simp [this]
  simp only [if_true, hg, Option.bind_some]
  by_cases h1 : 100 < s.length
  · simp only [decide_eq_true h1, if_true]
    exact hj true (.inr rfl)
  simp only [decide_eq_false h1, if_false, Bool.false_eq_true]
  by_cases h2 : (l.length : Int) > 50
  · simp only [if_pos h2]
    exact hj true (.inr rfl)
  simp only [if_neg h2]
  by_cases h3 : n < 0
  · simp only [if_pos h3]
    exact hj true (.inr rfl)
  simp only [if_neg h3]
  refine hj _ ?_
  by_cases h4 : n > 5000
  · exact .inr (decide_eq_true h4)
  refine .inl ?_
  have key := adds_loop s l n true (by omega) ?_ l [] rfl
  · simpa using key
  refine Ev.bind (with_eval hw (by omega) (by omega) hr) (Ev.bind (without_eval hw (by omega) (by omega) hr) ?_)
  have hw1 : Wd (neatL (l.foldl putL s)) := neatL_Wd (puts_Wd l s hw)
  have hw2 : Wd (neatL (l.foldl dropL s)) := neatL_Wd (drops_Wd l s hw)
  have hhas : ∀ x : List Int, Wd x → bitset_Has.f x n = some (tb x n.toNat) := fun x hx => by
    rw [has_eval hx n hn'.2]; unfold hasB; rw [decide_eq_true (by omega), Bool.true_and]
  have e1 : tb (neatL (l.foldl putL s)) n.toNat = (tb s n.toNat || (decide (n ∈ l) && decide (n < 4096))) := by
    rw [tb_neatL, tb_puts, Int.toNat_of_nonneg (by omega)]
  have e2 : tb (neatL (l.foldl dropL s)) n.toNat = (tb s n.toNat && !decide (n ∈ l)) := by
    rw [tb_neatL, tb_drops _ _ _ hw, Int.toNat_of_nonneg (by omega)]
  by_cases hm : n ∈ l
  · have hd : decide (n ∈ l) = true := decide_eq_true hm
    rw [hd] at e1 e2
    simp only [hd, if_true]
    by_cases hsm : n < 4096
    · refine Ev.step (f := fun _ => some true) (fun k => ?_) (Ev.now _)
      simp only [portolanlaw02_BitsetAdds.j2]
      rw [decide_eq_true hsm] at e1 ⊢
      rw [if_pos rfl, hhas _ hw1, hhas _ hw2, e1, e2]
      simp
    · refine Ev.step (f := fun _ => some true) (fun k => ?_) (Ev.now _)
      simp only [portolanlaw02_BitsetAdds.j2]
      rw [decide_eq_false hsm] at e1 ⊢
      rw [if_neg (by decide), if_pos trivial, hhas _ hw1, hhas _ hw2, hhas _ hw, e1, e2]
      simp
  · have hd : decide (n ∈ l) = false := decide_eq_false hm
    rw [hd] at e1 e2
    simp only [hd, if_false, Bool.false_eq_true]
    refine Ev.step (f := fun _ => some true) (fun k => ?_) (Ev.now _)
    simp only [portolanlaw02_BitsetAdds.j2]
    rw [if_neg (by decide), if_neg (by decide), hhas _ hw1, hhas _ hw2, hhas _ hw, e1, e2]
    simp
end Go.Proofs.Ythbkemkjkpaoaaa.Pure
