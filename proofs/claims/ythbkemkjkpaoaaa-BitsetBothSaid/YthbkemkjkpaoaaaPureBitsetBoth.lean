/- Any two sets are joined, met, taken away and held against each other as the document says. No condition beside the statement's own. -/
import Derived.Test.YthbkemkjkpaoaaaXPureb
import Derived.Test.YthbkemkjkpaoaaaXStBitsetBoth
set_option linter.unusedVariables false
set_option linter.unusedSimpArgs false
namespace Go.Proofs.Ythbkemkjkpaoaaa.Pure
open Go.RowKit Go.Proofs.Ythbkemkjkpaoaaa.X Go.Proofs.Ythbkemkjkpaoaaa.Bit Go.Proofs.YthbkemkjkpaoaaaW.PrintWords Go.Proofs.YthbkemkjkpaoaaaW.PrintLast Go.Proofs.YthbkemkjkpaoaaaW.PrintMore
theorem BitsetBoth : portolanlaw02_BitsetBoth.Pure := by
  intro a b _ _
  refine Ev.rounds ?_
  unfold portolanlaw02_BitsetBoth.f
  refine Ev.bind alive_eval ?_
  simp only [if_true, great_eval, Option.bind_some]
  by_cases hg : 100 < a.length ∨ 100 < b.length
  · simp only [decide_eq_true hg, if_true]
    exact Ev.now _
  simp only [decide_eq_false hg, Bool.false_eq_true, if_false]
  have ha : a.length ≤ 1000 := by omega
  have hb : b.length ≤ 1000 := by omega
  have hls : ∀ l ∈ [a, b], l.length ≤ 1000 := fun l hl => by
    simp only [List.mem_cons, List.not_mem_nil, or_false] at hl
    rcases hl with rfl | rfl <;> assumption
  have hj := joinL_length [a, b] [] 1000 (by simp) hls
  have ho := fun g => opL_length g a b
  refine Ev.bind (join_eval [a, b] (by simp) hls) (Ev.bind (refjoin_eval [a, b] (by simp) hls) (Ev.bind (words_eval (by omega)) ?_))
  simp only [if_true]
  have h1 := ho andI
  have h2 := ho lessI
  refine Ev.bind (meet_eval (by omega) (by omega)) (Ev.bind (refmeet_eval (by omega) (by omega)) (Ev.bind (words_eval (by omega)) ?_))
  simp only [if_true]
  refine Ev.bind (less_eval (by omega) (by omega)) (Ev.bind (refless_eval (by omega) (by omega)) (Ev.bind (words_eval (by omega)) ?_))
  simp only [if_true]
  refine Ev.bind (same_eval (by omega) (by omega)) (Ev.bind (refsame_eval (by omega) (by omega)) ?_)
  simp only [beq_self_eq_true, if_true]
  refine Ev.bind (holds_eval (a := a) (b := b) (by omega) (by omega)) (Ev.bind (refholds_eval (a := a) (b := b) (by omega) (by omega)) ?_)
  simp only [beq_self_eq_true]
  exact Ev.now _
end Go.Proofs.Ythbkemkjkpaoaaa.Pure
