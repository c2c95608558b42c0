/- Any numbers are in any set, come and go, and are told, as the document says. No condition beside the statement's own. -/
import Derived.Test.YthbkemkjkpaoaaaDoorXPureDn
import Derived.Test.YthbkemkjkpaoaaaDoorXStBitsetNumbers
set_option linter.unusedVariables false
set_option linter.unusedSimpArgs false
namespace Go.Proofs.YthbkemkjkpaoaaaDoor.Pure
open Go.RowKit Go.Proofs.YthbkemkjkpaoaaaDoor.X Go.Proofs.YthbkemkjkpaoaaaDoor.Bit Go.Proofs.YthbkemkjkpaoaaaDoorW.PrintWords Go.Proofs.YthbkemkjkpaoaaaDoorW.PrintLast Go.Proofs.YthbkemkjkpaoaaaDoorW.PrintMore
theorem wf_word {x : Int} (h : (Lit.int .u64 x).wf = true) : 0 ≤ x ∧ x < 18446744073709551616 := by
  simp [Lit.wf, IntKind.min, IntKind.max, IntKind.bits, IntKind.signed] at h
  omega
theorem wf_int {x : Int} (h : (Lit.int .i64 x).wf = true) : -9223372036854775808 ≤ x ∧ x < 9223372036854775808 := by
  simp [Lit.wf, IntKind.min, IntKind.max, IntKind.bits, IntKind.signed] at h
  omega
theorem numbers_loop (s l : List Int) (hw : Wd s) (hl : l.length ≤ 50) (hr : ∀ n ∈ l, -9223372036854775808 ≤ n ∧ n < 9223372036854775808)
    (hfin : Ev (fun k => portolanlaw02_BitsetNumbers.l0 k s l s (l.length : Int)) true) :
    ∀ (post pre : List Int), l = pre ++ post → Ev (fun k => portolanlaw02_BitsetNumbers.l0 k s l s (pre.length : Int)) true := by
  intro post
  induction post with
  | nil =>
    intro pre he
    have hp : pre = l := by rw [he]; simp
    rw [hp]; exact hfin
  | cons m post ih =>
    intro pre he
    have hlt : (pre.length : Int) < (l.length : Int) := by rw [he]; simp; omega
    have hplus : wrap64 ((pre.length : Int) + 1) = ((pre ++ [m]).length : Int) := by
      rw [wrap64_id (by omega) (by omega)]; simp
    have hrd : rd l (pre.length : Int) = m := by rw [he]; exact rd_mid pre post m
    have hm := hr m (by rw [he]; simp)
    refine Ev.step (fun k => ?_) (ih (pre ++ [m]) (by rw [he]; simp))
    simp only [portolanlaw02_BitsetNumbers.l0]
    rw [if_pos hlt, if_pos (by omega), hrd, has_eval hw m hm.2, refhas_eval hw m hm.2, Option.bind_some, Option.bind_some, if_neg (by simp), hplus]
theorem BitsetNumbers : portolanlaw02_BitsetNumbers.Pure := by
  intro s l hws hwl
  have hw : Wd s := fun x hx => wf_word (hws.2 x hx)
  have hr : ∀ x ∈ l, -9223372036854775808 ≤ x ∧ x < 9223372036854775808 := fun x hx => wf_int (hwl.2 x hx)
  clear hws hwl
  refine Ev.rounds ?_
  unfold portolanlaw02_BitsetNumbers.f
  refine Ev.bind alive_eval ?_
  simp only [if_true, great_eval, Option.bind_some]
  have out : Ev (fun k => portolanlaw02_BitsetNumbers.j0 k s l true) true := Ev.step (f := fun _ => some true) (fun k => by simp only [portolanlaw02_BitsetNumbers.j0]; rw [if_pos trivial]) (Ev.now _)
  by_cases hg : 100 < s.length ∨ 100 < ([] : List Int).length
  · simp only [decide_eq_true hg, if_true]
    exact out
  simp only [decide_eq_false hg, Bool.false_eq_true, if_false]
  by_cases hg2 : (l.length : Int) > 50
  · rw [decide_eq_true hg2]; exact out
  rw [decide_eq_false hg2]
  have ls : s.length ≤ 100 := by omega
  have ll : l.length ≤ 50 := by omega
  clear out hg hg2
  have hfin : Ev (fun k => portolanlaw02_BitsetNumbers.l0 k s l s (l.length : Int)) true := by
    refine Ev.step (f := fun k => ((portolanref02_List.f k s).bind fun t286 => ((bitset_Of.f k l).bind fun t289 => ((portolanref02_Of.f k l).bind fun t292 => ((portolanref02_Words.f k t289 t292).bind fun t295 => (if t295 = true then ((bitset_With.f k s l).bind fun t296 => ((portolanref02_With.f k s l).bind fun t299 => ((portolanref02_Words.f k t296 t299).bind fun t302 => (if t302 = true then ((bitset_Without.f k s l).bind fun t303 => ((portolanref02_Without.f k s l).bind fun t306 => ((portolanref02_Words.f k t303 t306).bind fun t309 => (if t309 = true then ((bitset_List.f k s).bind fun t310 => ((portolanref01_Ints.f k t310 t286).bind fun t313 => (if t313 = true then ((bitset_Count.f k s).bind fun t314 => (if t314 = (t286.length : Int) then ((portolanref02_Words.f k s s).bind fun t315 => (some t315)) else (some false))) else (some false)))) else (some false))))) else (some false))))) else (some false))))))) (fun k => by simp only [portolanlaw02_BitsetNumbers.l0]; rw [if_neg (by omega)]) ?_
    have lput : ∀ x : List Int, x.length ≤ 100 → (neatL (l.foldl putL x)).length ≤ 1000000 := fun x hx => by
      have h1 := neatL_length_le (l.foldl putL x)
      have h2 : ∀ (l x : List Int), x.length ≤ 100 → (l.foldl putL x).length ≤ 100 := by
        intro l
        induction l with
        | nil => intro x hx; exact hx
        | cons a l ih => intro x hx; refine ih _ ?_; have := putL_length x a; omega
      have := h2 l x hx
      omega
    have ldrop : (neatL (l.foldl dropL s)).length ≤ 1000000 := by
      have h1 := neatL_length_le (l.foldl dropL s)
      have h2 : ∀ (l x : List Int), (l.foldl dropL x).length = x.length := by
        intro l
        induction l with
        | nil => intro x; rfl
        | cons a l ih => intro x; rw [List.foldl_cons, ih, dropL_length]
      have := h2 l s
      omega
    have hof : Ev (fun k => bitset_Of.f k l) (neatL (l.foldl putL [])) := Ev.bind (with_eval Wd.nil (by simp) (by omega) hr) (Ev.now _)
    have lns := numsL_length s s.length
    have hlen : (toI (numsL s s.length)).length = (numsL s s.length).length := by simp [toI]
    refine Ev.bind (reflist_eval hw (by omega)) (Ev.bind hof (Ev.bind (refof_eval (by omega)) (Ev.bind (words_eval (lput [] (by simp))) ?_)))
    simp only [if_true]
    refine Ev.bind (with_eval hw (by omega) (by omega) hr) (Ev.bind (refwith_eval hw (by omega) (by omega)) (Ev.bind (words_eval (lput s ls)) ?_))
    simp only [if_true]
    refine Ev.bind (without_eval hw (by omega) (by omega) hr) (Ev.bind (refwithout_eval hw (by omega) (by omega) hr) (Ev.bind (words_eval ldrop) ?_))
    simp only [if_true]
    refine Ev.bind (list_eval hw (by omega)) (Ev.bind (ints_eval (by omega)) ?_)
    simp only [if_true]
    refine Ev.bind (count_eval hw (by omega)) ?_
    have hc : (countL s : Int) = ((toI (numsL s s.length)).length : Int) := by rw [hlen, countL_nums hw]
    exact Ev.congr (fun k => by rw [if_pos hc]) (Ev.bind (words_eval (by omega)) (Ev.now _))
  refine Ev.step (f := fun k => portolanlaw02_BitsetNumbers.l0 k s l s 0) (fun k => ?_) ?_
  · simp only [portolanlaw02_BitsetNumbers.j0]
    rw [if_neg (by decide), Option.bind_some, List.nil_append, if_pos (by simp; omega)]
  · exact numbers_loop s l hw ll hr hfin l [] rfl
end Go.Proofs.YthbkemkjkpaoaaaDoor.Pure
