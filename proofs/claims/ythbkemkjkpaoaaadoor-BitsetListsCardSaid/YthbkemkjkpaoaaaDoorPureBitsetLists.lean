/- A set is the set of its numbers, which rise. No condition beside the statement's own. -/
import Derived.Test.YthbkemkjkpaoaaaDoorXPureDl
import Derived.Test.YthbkemkjkpaoaaaDoorXStBitsetLists
set_option linter.unusedVariables false
set_option linter.unusedSimpArgs false
namespace Go.Proofs.YthbkemkjkpaoaaaDoor.Pure
open Go.RowKit Go.Proofs.YthbkemkjkpaoaaaDoor.X Go.Proofs.YthbkemkjkpaoaaaDoor.Bit Go.Proofs.YthbkemkjkpaoaaaDoorW.PrintWords Go.Proofs.YthbkemkjkpaoaaaDoorW.PrintLast Go.Proofs.YthbkemkjkpaoaaaDoorW.PrintMore
theorem wf_word' {x : Int} (h : (Lit.int .u64 x).wf = true) : 0 ≤ x ∧ x < 18446744073709551616 := by
  simp [Lit.wf, IntKind.min, IntKind.max, IntKind.bits, IntKind.signed] at h
  omega
theorem rd_toI (ns : List Nat) (i : Nat) (h : i < ns.length) : rd (toI ns) (i : Int) = (ns[i] : Int) := by
  rw [rd_nat, List.getD_eq_getElem?_getD]
  unfold toI
  rw [List.getElem?_map, List.getElem?_eq_getElem h]
  rfl
theorem toI_length (ns : List Nat) : (toI ns).length = ns.length := by simp [toI]
theorem lists_loop (s : List Int) (ns : List Nat) (hw : Wd s) (hmem : ∀ n ∈ ns, tb s n = true ∧ n < 4000) (hsort : ns.Pairwise (· < ·)) (hlen : ns.length ≤ 1000000)
    (hfin : Ev (fun k => (bitset_Of.f k (toI ns)).bind fun t202 => ((bitset_Same.f k t202 s).bind fun t205 => (if t205 = true then ((bitset_Count.f k s).bind fun t206 => (if ((toI ns).length : Int) = t206 then ((bitset_Holds.f k s s).bind fun t207 => (if t207 = true then ((bitset_Same.f k s s).bind fun t208 => (some t208)) else (some false))) else (some false))) else (some false)))) true) :
    ∀ (d i : Nat), ns.length - i = d → i ≤ ns.length → Ev (fun k => portolanlaw02_BitsetLists.l0 k s (toI ns) (i : Int)) true := by
  intro d
  induction d with
  | zero =>
    intro i hd hi
    refine Ev.step (fun k => ?_) hfin
    simp only [portolanlaw02_BitsetLists.l0]
    rw [if_neg (by rw [toI_length]; omega)]
  | succ d ih =>
    intro i hd hi
    have hlt : i < ns.length := by omega
    have next := ih (i + 1) (by omega) (by omega)
    obtain ⟨ht, hn⟩ := hmem _ (List.getElem_mem hlt)
    have hhas : bitset_Has.f s (ns[i] : Int) = some true := by
      rw [has_eval hw _ (by omega)]
      unfold hasB
      rw [decide_eq_true (Int.natCast_nonneg _), Int.toNat_natCast, ht]
      rfl
    refine Ev.step (fun k => ?_) next
    simp only [portolanlaw02_BitsetLists.l0]
    rw [if_pos (by rw [toI_length]; omega), if_pos (by omega), rd_toI ns i hlt, hhas, Option.bind_some, if_pos rfl, wrap_succ hlt hlen]
    by_cases h0 : (i : Int) > 0
    · have hw1 : wrap64 ((i : Int) - 1) = ((i - 1 : Nat) : Int) := by rw [wrap64_id (by omega) (by omega)]; omega
      have hlt1 : i - 1 < ns.length := by omega
      have hs : ns[i - 1] < ns[i] := List.pairwise_iff_getElem.1 hsort (i - 1) i hlt1 hlt (by omega)
      rw [if_pos h0, hw1, if_pos (by omega), if_pos (by rw [toI_length]; omega), rd_toI ns (i - 1) hlt1, if_neg (by omega)]
    · rw [if_neg h0]
theorem BitsetLists : portolanlaw02_BitsetLists.Pure := by
  intro s hws
  have hw : Wd s := fun x hx => wf_word' (hws.2 x hx)
  clear hws
  refine Ev.rounds ?_
  unfold portolanlaw02_BitsetLists.f
  refine Ev.bind alive_eval ?_
  simp only [if_true]
  by_cases hg : (s.length : Int) > 60
  · simp only [if_pos hg]
    exact Ev.now _
  simp only [if_neg hg]
  have ls : s.length ≤ 60 := by omega
  have big : s.length ≤ 1000000 := by omega
  have lns := numsL_length s s.length
  have hmem : ∀ n ∈ numsL s s.length, tb s n = true ∧ n < 4000 := fun n hn => by
    refine ⟨mem_nums.1 hn, ?_⟩
    have := List.mem_range.1 (List.mem_filter.1 hn).1
    omega
  have hsort := nums_sorted s s.length
  have hcount := countL_nums hw
  have hin : ∀ n : Nat, ((n : Int) ∈ toI (numsL s s.length)) ↔ tb s n = true := fun n => by
    rw [← mem_nums]
    unfold toI
    rw [List.mem_map]
    constructor
    · rintro ⟨m, hm, e⟩
      have : m = n := by omega
      rwa [← this]
    · intro h; exact ⟨n, h, rfl⟩
  have hrange : ∀ x ∈ toI (numsL s s.length), 0 ≤ x ∧ x < 4000 := fun x hx => by
    obtain ⟨m, hm, rfl⟩ := List.mem_map.1 hx
    have := (hmem m hm).2
    omega
  refine Ev.bind (list_eval hw big) ?_
  have key := lists_loop s (numsL s s.length) hw hmem hsort (by omega) ?_ _ 0 rfl (Nat.zero_le _)
  · exact key
  have hlen := toI_length (numsL s s.length)
  generalize toI (numsL s s.length) = L at *
  have hof : Ev (fun k => bitset_Of.f k L) (neatL (L.foldl putL [])) := Ev.bind (with_eval Wd.nil (by simp) (by omega) (fun n hn => by have := hrange n hn; omega)) (Ev.now _)
  have hlt : ∀ n, tb s n = true → n < 4000 := fun n hn => (hmem n (mem_nums.2 hn)).2
  have hput : ∀ n, tb (neatL (L.foldl putL [])) n = tb s n := fun n => by
    rw [tb_neatL, tb_puts, tb_nil, Bool.false_or]
    rw [Bool.eq_iff_iff, Bool.and_eq_true, decide_eq_true_iff, decide_eq_true_iff, hin]
    exact ⟨fun h => h.1, fun h => ⟨h, by have := hlt n h; omega⟩⟩
  have wof : Wd (neatL (L.foldl putL [])) := neatL_Wd (puts_Wd L [] Wd.nil)
  have lof : (neatL (L.foldl putL [])).length ≤ 1000000 := by
    have h1 := neatL_length_le (L.foldl putL [])
    have h2 : ∀ (l x : List Int), x.length ≤ 64 → (l.foldl putL x).length ≤ 64 := by
      intro l
      induction l with
      | nil => intro x hx; exact hx
      | cons a l ih => intro x hx; refine ih _ ?_; have := putL_length x a; omega
    have := h2 L [] (by simp)
    omega
  refine Ev.bind hof ?_
  have hsame := same_eval (a := neatL (L.foldl putL [])) (b := s) lof big
  rw [sameB_tb wof hw hput] at hsame
  refine Ev.bind hsame ?_
  simp only [if_true]
  refine Ev.bind (count_eval hw big) ?_
  have hc : (L.length : Int) = (countL s : Int) := by rw [hlen, hcount]
  simp only [if_pos hc]
  have e : opL lessI s s = [] := by
    have wl : Wd (opL lessI s s) := zip_Wd (fun _ _ => less_word2) hw hw
    have := empty_tb wl (fun n => by rw [tb_less hw hw]; cases tb s n <;> rfl)
    rwa [opL_neat] at this
  have hh := holds_eval (a := s) (b := s) big big
  rw [e] at hh
  refine Ev.bind hh ?_
  simp only [List.length_nil]
  have hs2 := same_eval (a := s) (b := s) big big
  rw [sameB_tb hw hw (fun _ => rfl)] at hs2
  exact Ev.congr (fun k => by rw [if_pos (by decide)]) (Ev.bind hs2 (Ev.now _))
end Go.Proofs.YthbkemkjkpaoaaaDoor.Pure
