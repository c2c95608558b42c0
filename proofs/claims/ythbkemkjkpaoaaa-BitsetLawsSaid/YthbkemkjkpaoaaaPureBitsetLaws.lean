/- Sets are reckoned with as sets are, any three of them. No condition beside the statement's own. -/
import Derived.Test.YthbkemkjkpaoaaaXPurec
import Derived.Test.YthbkemkjkpaoaaaXStBitsetLaws
set_option linter.unusedVariables false
set_option linter.unusedSimpArgs false
namespace Go.Proofs.Ythbkemkjkpaoaaa.Pure
open Go.RowKit Go.Proofs.Ythbkemkjkpaoaaa.X Go.Proofs.Ythbkemkjkpaoaaa.Bit Go.Proofs.YthbkemkjkpaoaaaW.PrintWords Go.Proofs.YthbkemkjkpaoaaaW.PrintLast Go.Proofs.YthbkemkjkpaoaaaW.PrintMore
theorem wf_word' {x : Int} (h : (Lit.int .u64 x).wf = true) : 0 ≤ x ∧ x < 18446744073709551616 := by
  simp [Lit.wf, IntKind.min, IntKind.max, IntKind.bits, IntKind.signed] at h
  omega
theorem andL_Wd {a b : List Int} (ha : Wd a) (hb : Wd b) : Wd (opL andI a b) := zip_Wd (fun _ _ => and_word2) ha hb
theorem lessL_Wd {a b : List Int} (ha : Wd a) (hb : Wd b) : Wd (opL lessI a b) := zip_Wd (fun _ _ => less_word2) ha hb
theorem orL_Wd' {a b : List Int} (ha : Wd a) (hb : Wd b) : Wd (opL orI a b) := zip_Wd (fun _ _ => or_word2) ha hb
theorem holds_true {a b : List Int} (ha : Wd a) (hb : Wd b) (la : a.length ≤ 1000000) (lb : b.length ≤ 1000000) (h : ∀ n, tb b n = true → tb a n = true) : Ev (fun k => bitset_Holds.f k a b) true := by
  have e : opL lessI b a = [] := by
    have := empty_tb (lessL_Wd hb ha) (fun n => by
      rw [tb_less hb ha]
      cases hbn : tb b n
      · rfl
      · rw [h n hbn]; rfl)
    rwa [opL_neat] at this
  have := holds_eval (a := a) (b := b) la lb
  rw [e] at this
  exact this
theorem same_true {a b : List Int} (ha : Wd a) (hb : Wd b) (la : a.length ≤ 1000000) (lb : b.length ≤ 1000000) (h : ∀ n, tb a n = tb b n) : Ev (fun k => bitset_Same.f k a b) true := by
  have := same_eval (a := a) (b := b) la lb
  rwa [sameB_tb ha hb h] at this
theorem pair_le {a b : List Int} {n : Nat} (ha : a.length ≤ n) (hb : b.length ≤ n) : ∀ l ∈ [a, b], l.length ≤ n := fun l hl => by
  simp only [List.mem_cons, List.not_mem_nil, or_false] at hl
  rcases hl with rfl | rfl <;> assumption
theorem pair_Wd {a b : List Int} (ha : Wd a) (hb : Wd b) : ∀ l ∈ [a, b], Wd l := fun l hl => by
  simp only [List.mem_cons, List.not_mem_nil, or_false] at hl
  rcases hl with rfl | rfl <;> assumption
theorem join_neat2 (a b : List Int) : neatL (joinL [a, b] []) = joinL [a, b] [] := by
  unfold joinL
  rw [List.foldl_cons, List.foldl_cons, List.foldl_nil, opL_neat]
theorem BitsetLaws : portolanlaw02_BitsetLaws.Pure := by
  intro a b c hwa hwb hwc
  have wa : Wd a := fun x hx => wf_word' (hwa.2 x hx)
  have wb : Wd b := fun x hx => wf_word' (hwb.2 x hx)
  have wc : Wd c := fun x hx => wf_word' (hwc.2 x hx)
  clear hwa hwb hwc
  refine Ev.rounds ?_
  unfold portolanlaw02_BitsetLaws.f
  refine Ev.bind alive_eval ?_
  simp only [if_true, great_eval, Option.bind_some]
  have out : Ev (fun k => portolanlaw02_BitsetLaws.j0 k a b c true) true := Ev.step (f := fun _ => some true) (fun k => by simp only [portolanlaw02_BitsetLaws.j0]; rw [if_pos trivial]) (Ev.now _)
  by_cases hg : 100 < a.length ∨ 100 < b.length
  · simp only [decide_eq_true hg, if_true]
    exact out
  simp only [decide_eq_false hg, Bool.false_eq_true, if_false]
  by_cases hgc : (c.length : Int) > 100
  · rw [decide_eq_true hgc]; exact out
  rw [decide_eq_false hgc]
  have la : a.length ≤ 1000 := by omega
  have lb : b.length ≤ 1000 := by omega
  have lc : c.length ≤ 1000 := by omega
  clear out hg hgc
  have wj : Wd (joinL [a, b] []) := join_Wd _ _ Wd.nil (pair_Wd wa wb)
  have wj' : Wd (joinL [b, a] []) := join_Wd _ _ Wd.nil (pair_Wd wb wa)
  have lj : (joinL [a, b] []).length ≤ 1000 := joinL_length _ _ _ (by simp) (pair_le la lb)
  have lj' : (joinL [b, a] []).length ≤ 1000 := joinL_length _ _ _ (by simp) (pair_le lb la)
  have tj : ∀ n, tb (joinL [a, b] []) n = (tb a n || tb b n) := fun n => by
    rw [tb_join _ _ Wd.nil (pair_Wd wa wb)]; simp [tb_nil]
  have tj' : ∀ n, tb (joinL [b, a] []) n = (tb b n || tb a n) := fun n => by
    rw [tb_join _ _ Wd.nil (pair_Wd wb wa)]; simp [tb_nil]
  have wm : Wd (opL andI a b) := andL_Wd wa wb
  have wm' : Wd (opL andI b a) := andL_Wd wb wa
  have lm : (opL andI a b).length ≤ 1000 := by have := opL_length andI a b; omega
  have lm' : (opL andI b a).length ≤ 1000 := by have := opL_length andI b a; omega
  have wl : Wd (opL lessI a b) := lessL_Wd wa wb
  have ll : (opL lessI a b).length ≤ 1000 := by have := opL_length lessI a b; omega
  have l3 : ∀ l ∈ [a, b, c], l.length ≤ 1000 := fun l hl => by
    simp only [List.mem_cons, List.not_mem_nil, or_false] at hl
    rcases hl with rfl | rfl | rfl <;> assumption
  have w3 : ∀ l ∈ [a, b, c], Wd l := fun l hl => by
    simp only [List.mem_cons, List.not_mem_nil, or_false] at hl
    rcases hl with rfl | rfl | rfl <;> assumption
  have big : ∀ {l : List Int}, l.length ≤ 1000 → l.length ≤ 1000000 := fun h => Nat.le_trans h (by decide)
  have hcount : countL a + countL b = countL (joinL [a, b] []) + countL (opL andI a b) := by
    have e : joinL [a, b] [] = opL orI a b := by
      have h1 := neatL_eq (tb_ext wj (orL_Wd' wa wb) (fun n => by rw [tj, tb_or wa wb]))
      rwa [join_neat2, opL_neat] at h1
    rw [e]; exact count_add wa wb
  have j1 : Ev (fun k => portolanlaw02_BitsetLaws.j1 k a b (joinL [a, b] []) (opL andI a b) false) true := by
    refine Ev.step (f := fun k => (bitset_Less.f k a b).bind fun t350 => ((bitset_Join.f k (([t350, opL andI a b] : List (List Int)))).bind fun t356 => ((bitset_Same.f k t356 a).bind fun t359 => (if t359 = true then ((bitset_Count.f k a).bind fun t360 => ((bitset_Count.f k b).bind fun t361 => ((bitset_Count.f k (joinL [a, b] [])).bind fun t362 => ((bitset_Count.f k (opL andI a b)).bind fun t363 => (some ((wrap64 (t360 + t361)) == (wrap64 (t362 + t363)))))))) else (some false))))) (fun k => by simp only [portolanlaw02_BitsetLaws.j1]; rw [if_neg (by decide)]) ?_
    refine Ev.bind (less_eval (big la) (big lb)) (Ev.bind (join_eval _ (by simp) (pair_le ll lm)) ?_)
    have ljj : (joinL [opL lessI a b, opL andI a b] []).length ≤ 1000 := joinL_length _ _ _ (by simp) (pair_le ll lm)
    refine Ev.bind (same_true (join_Wd _ _ Wd.nil (pair_Wd wl wm)) wa (big ljj) (big la) (fun n => by
      rw [tb_join _ _ Wd.nil (pair_Wd wl wm)]
      simp only [tb_nil, List.any_cons, List.any_nil, tb_less wa wb, tb_and wa wb]
      cases tb a n <;> cases tb b n <;> rfl)) ?_
    simp only [if_true]
    refine Ev.bind (count_eval wa (big la)) (Ev.bind (count_eval wb (big lb)) (Ev.bind (count_eval wj (big lj)) (Ev.bind (count_eval wm (big lm)) ?_)))
    have e : (countL a : Int) + (countL b : Int) = (countL (joinL [a, b] []) : Int) + (countL (opL andI a b) : Int) := by rw [← Int.natCast_add, ← Int.natCast_add, hcount]
    exact Ev.congr (f := fun _ => some true) (fun k => by rw [e, beq_self_eq_true]) (Ev.now _)
  refine Ev.step (f := fun k => (bitset_Join.f k (([a, b] : List (List Int)))).bind fun t318 => ((bitset_Meet.f k a b).bind fun t321 => ((bitset_Join.f k (([b, a] : List (List Int)))).bind fun t327 => ((bitset_Same.f k t318 t327).bind fun t330 => (if t330 = true then ((bitset_Meet.f k b a).bind fun t331 => ((bitset_Same.f k t321 t331).bind fun t334 => (if t334 = true then ((bitset_Holds.f k t318 a).bind fun t335 => (if t335 = true then ((bitset_Holds.f k a t321).bind fun t336 => (if t336 = true then ((bitset_Join.f k (([a, b, c] : List (List Int)))).bind fun t340 => ((bitset_Join.f k (([t318, c] : List (List Int)))).bind fun t346 => ((bitset_Same.f k t340 t346).bind fun t349 => (portolanlaw02_BitsetLaws.j1 k a b t318 t321 (!t349))))) else (portolanlaw02_BitsetLaws.j1 k a b t318 t321 true))) else (portolanlaw02_BitsetLaws.j1 k a b t318 t321 true))) else (portolanlaw02_BitsetLaws.j1 k a b t318 t321 true)))) else (portolanlaw02_BitsetLaws.j1 k a b t318 t321 true)))))) (fun k => by simp only [portolanlaw02_BitsetLaws.j0]; rw [if_neg (by decide)]) ?_
  refine Ev.bind (join_eval _ (by simp) (pair_le la lb)) (Ev.bind (meet_eval (big la) (big lb)) (Ev.bind (join_eval _ (by simp) (pair_le lb la)) ?_))
  refine Ev.bind (same_true wj wj' (big lj) (big lj') (fun n => by rw [tj, tj', Bool.or_comm])) ?_
  simp only [if_true]
  refine Ev.bind (meet_eval (big lb) (big la)) (Ev.bind (same_true wm wm' (big lm) (big lm') (fun n => by rw [tb_and wa wb, tb_and wb wa, Bool.and_comm])) ?_)
  simp only [if_true]
  refine Ev.bind (holds_true wj wa (big lj) (big la) (fun n hn => by rw [tj, hn]; rfl)) ?_
  simp only [if_true]
  refine Ev.bind (holds_true wa wm (big la) (big lm) (fun n hn => by rw [tb_and wa wb, Bool.and_eq_true] at hn; exact hn.1)) ?_
  simp only [if_true]
  have lj3 : (joinL [a, b, c] []).length ≤ 1000 := joinL_length _ _ _ (by simp) l3
  have ljc : (joinL [joinL [a, b] [], c] []).length ≤ 1000 := joinL_length _ _ _ (by simp) (pair_le lj lc)
  refine Ev.bind (join_eval _ (by simp) l3) (Ev.bind (join_eval _ (by simp) (pair_le lj lc)) ?_)
  refine Ev.bind (same_true (join_Wd _ _ Wd.nil w3) (join_Wd _ _ Wd.nil (pair_Wd wj wc)) (big lj3) (big ljc) (fun n => by
    rw [tb_join _ _ Wd.nil w3, tb_join _ _ Wd.nil (pair_Wd wj wc)]
    simp only [tb_nil, List.any_cons, List.any_nil, tj]
    cases tb a n <;> cases tb b n <;> cases tb c n <;> rfl)) ?_
  exact j1
end Go.Proofs.Ythbkemkjkpaoaaa.Pure
