/- Functions, by what the evaluator asks; the theorems t.. were printed by show.txt, a program of this session. -/
import Derived.Test.Ythbkemkjkpaoaac16k
set_option linter.unusedVariables false
set_option linter.unusedSimpArgs false
set_option maxRecDepth 100000
namespace Go.Proofs.Ythbkemkjkpaoaac.E
open Go
def F4 : CallT := fun f args sto => match f, args with
 | 8, _ => .is (goB true, [], [])
 | 9, [.sl l, .v (.int _ k)] => .by (U.goodR l k) (.is (.tup [.os 0 0 l.length, goI 0], [.arr 2 (U.scanR l k)], [])) (.is (.tup [.sl [], goI 1], [], []))
 | 15, [.sl l] => .is (goI (U.slotsR l), [], [])
 | _, _ => .no

theorem t4 (l : List Span) (n : Nat) (r : AV × List Row × List Nat) : (runT Try.prog H F4
  (fun id st =>
    LT.is (Ex.exit 0)
      (mkS 75
        [(0, AV.sl (List.map encS l)), (3, AV.sl (List.map encL (U.scan l 0))),
          (5, AV.sl (List.map encL (U.scan l 32))), (7, goI (↑n : Int))]))
  false 4 [AV.sl (List.map encS l)] [] fun q => q = r) = (Wf Try.prog H 8 [] [] = some (goB true, [], []) ∧
  TB (U.goodR (List.map encS l) 0)
    (Wf Try.prog H 9 [AV.sl (List.map encS l), goI 0] [] =
        some
          (AV.tup [AV.os 0 0 (List.length (List.map encS l)), goI 0], [Row.arr 2 (U.scanR (List.map encS l) 0)], []) ∧
      TB (U.goodR (List.map encS l) 32)
        (Wf Try.prog H 9 [AV.sl (List.map encS l), goI 32] [] =
            some
              (AV.tup [AV.os 0 0 (List.length (List.map encS l)), goI 0], [Row.arr 2 (U.scanR (List.map encS l) 32)],
                []) ∧
          LoopTo Try.prog H (H 4) 0 (loopOf Try.prog 4 9)
              (mkS 75
                [(0, AV.sl (List.map encS l)),
                  (3, AV.sl (List.take (List.length (List.map encS l)) (List.drop 0 (U.scanR (List.map encS l) 0)))),
                  (5, AV.sl (List.take (List.length (List.map encS l)) (List.drop 0 (U.scanR (List.map encS l) 32)))),
                  (7, goI 0), (8, goI 0)])
              (Ex.exit 0,
                mkS 75
                  [(0, AV.sl (List.map encS l)), (3, AV.sl (List.map encL (U.scan l 0))),
                    (5, AV.sl (List.map encL (U.scan l 32))), (7, goI (↑n : Int))]) ∧
            Wf Try.prog H 15 [AV.sl (List.map encL (U.scan l 0))] [] =
                some (goI (U.slotsR (List.map encL (U.scan l 0))), [], []) ∧
              TB (decide (U.slotsR (List.map encL (U.scan l 0)) ≤ (↑(List.length (List.map encS l)) : Int)))
                (TB (decide ((↑(List.length (List.map encS l)) : Int) > 32)) ((goB true, [], []) = r)
                  (Wf Try.prog H 15 [AV.sl (List.map encL (U.scan l 32))] [] =
                      some (goI (U.slotsR (List.map encL (U.scan l 32))), [], []) ∧
                    (goB (decide (U.slotsR (List.map encL (U.scan l 32)) ≤ (↑n : Int))), [], []) = r))
                ((goB false, [], []) = r))
        (Wf Try.prog H 9 [AV.sl (List.map encS l), goI 32] [] = some (AV.tup [AV.sl [], goI 1], [], []) ∧
          (goB false, [], []) = r))
    (Wf Try.prog H 9 [AV.sl (List.map encS l), goI 0] [] = some (AV.tup [AV.sl [], goI 1], [], []) ∧
      TB (U.goodR (List.map encS l) 32)
        (Wf Try.prog H 9 [AV.sl (List.map encS l), goI 32] [] =
            some
              (AV.tup [AV.os 0 0 (List.length (List.map encS l)), goI 0], [Row.arr 2 (U.scanR (List.map encS l) 32)],
                []) ∧
          (goB false, [], []) = r)
        (Wf Try.prog H 9 [AV.sl (List.map encS l), goI 32] [] = some (AV.tup [AV.sl [], goI 1], [], []) ∧
          (goB true, [], []) = r))) := by kernel_rfl
theorem t4_9 (l : List Span) (a : List Loc) (b : List Loc) (n : Nat) (i : Nat) (r : Ex × St) : (turnT Try.prog H F4 L0 false (H 4) 0 (loopOf Try.prog 4 9)
  (mkS 75
    [(0, AV.sl (List.map encS l)), (3, AV.sl (List.map encL a)), (5, AV.sl (List.map encL b)), (7, goI (↑n : Int)),
      (8, goI (↑i : Int))])
  r) = (TB (decide ((↑i : Int) < (↑(List.length (List.map encS l)) : Int)))
  ((0 ≤ (↑i : Int) ∧
      (List.map encL a)[i]? = some [goI (rdI (rowAt (List.map encL a) i) 0), goI (rdI (rowAt (List.map encL a) i) 1)]) ∧
    TB (!rdI (rowAt (List.map encL a) i) 0 == 2) ((Ex.ret, mkS 75 [(2, goB false)]) = r)
      ((0 ≤ (↑i : Int) ∧
          (List.map encS l)[i]? =
            some
              [goI (rdI (rowAt (List.map encS l) i) 0), goI (rdI (rowAt (List.map encS l) i) 1),
                goI (rdI (rowAt (List.map encS l) i) 2), goB (rdB (rowAt (List.map encS l) i) 3)]) ∧
        TB (rdB (rowAt (List.map encS l) i) 3)
          (LoopTo Try.prog H (H 4) 0 (loopOf Try.prog 4 9)
            (mkS 75
              [(0, AV.sl (List.map encS l)), (3, AV.sl (List.map encL a)), (5, AV.sl (List.map encL b)),
                (7, goI (IntKind.wrap IntKind.i64 ((↑n : Int) + 1))),
                (8, goI (IntKind.wrap IntKind.i64 ((↑i : Int) + 1)))])
            r)
          (LoopTo Try.prog H (H 4) 0 (loopOf Try.prog 4 9)
            (mkS 75
              [(0, AV.sl (List.map encS l)), (3, AV.sl (List.map encL a)), (5, AV.sl (List.map encL b)),
                (7, goI (↑n : Int)), (8, goI (IntKind.wrap IntKind.i64 ((↑i : Int) + 1)))])
            r)))
  ((Ex.exit 0,
      mkS 75
        [(0, AV.sl (List.map encS l)), (3, AV.sl (List.map encL a)), (5, AV.sl (List.map encL b)),
          (7, goI (↑n : Int))]) =
    r)) := by kernel_rfl
namespace U
/-- How many of the first ones are kept across a call. -/
def cnt (l : List Span) (i : Nat) : Nat := ((l.take i).filter fun s => s.call).length
end U
theorem cnt_step (l : List Span) {i : Nat} (h : i < l.length) : U.cnt l (i + 1) = U.cnt l i + if (U.sp l i).call then 1 else 0 := by
  unfold U.cnt
  rw [take_sp h, List.filter_append, List.length_append]
  congr 1
  cases hc : (U.sp l i).call <;> simp [hc]
theorem cnt_le (l : List Span) (i : Nat) : U.cnt l i ≤ i := Nat.le_trans (List.length_filter_le _ _) (by simp; omega)
theorem cnt_mono (l : List Span) : ∀ (d i : Nat), i + d ≤ l.length → U.cnt l i ≤ U.cnt l (i + d)
  | 0, i, _ => Nat.le_refl _
  | d + 1, i, h => by
    have h1 := cnt_mono l d i (by omega)
    have h2 := cnt_step l (show i + d < l.length by omega)
    rw [show i + (d + 1) = i + d + 1 from by omega]
    omega
theorem nSlots_set : ∀ (hs : List Loc) (i : Nat) (x : Loc), nSlots (hs.set i x) ≤ nSlots hs + if x.k = 2 then 1 else 0
  | [], i, x => by simp [nSlots]
  | y :: ys, 0, x => by
    simp only [nSlots, List.set_cons_zero, List.filter_cons, beq_iff_eq]
    split <;> split <;> simp
  | y :: ys, i + 1, x => by
    have ih := nSlots_set ys i x
    simp only [nSlots, List.set_cons_succ, List.filter_cons, beq_iff_eq] at ih ⊢
    split
    · simp only [List.length_cons]; omega
    · exact ih
theorem slots_le {B : Int} (hB : 0 ≤ B) : ∀ (l : List Loc) (n : Int), n ≤ B → (∀ x ∈ l, x.k = 2 → x.n + 1 ≤ B) → l.foldl U.slots1 n ≤ B
  | [], n, hn, _ => hn
  | x :: l, n, hn, h => by
    rw [List.foldl_cons]
    refine slots_le hB l _ ?_ (fun y hy => h y (by simp [hy]))
    unfold U.slots1
    have := h x (by simp)
    split
    · rename_i h1
      have := this h1.1
      split <;> omega
    · exact hn
/-- Registers are free where there are fewer spans than registers. -/
theorem some_free {l : List Span} {n i : Nat} {hs : List Loc} {rs : List Int} (hi : i < l.length) (hin : i < n) (h : Mid l n i hs rs) : ¬ ∀ r : Nat, r < n → U.nt rs r ≠ -1 := fun hne => by
  have hcov := len_of_cover (a := (List.range n).map fun r : Nat => (⟨1, r⟩ : Loc)) (b := hs.take i) (by
    unfold List.Nodup
    rw [List.pairwise_map]
    refine List.Pairwise.imp ?_ (List.nodup_range (n := n))
    intro a b hab e
    apply hab
    have := congrArg Loc.n e
    simp at this
    omega) (fun x hx => by
    obtain ⟨r, hrm, rfl⟩ := List.mem_map.1 hx
    have hr := List.mem_range.1 hrm
    rcases h.has r hr with h1 | ⟨k, _, hk, h2, _⟩
    · exact absurd h1 (hne r hr)
    · rw [← h2]
      have hkt : k < (hs.take i).length := by rw [List.length_take, h.len]; omega
      have := getD_mem (K := hs.take i) hkt
      rw [show (hs.take i).getD k default = U.lc (hs.take i) k from rfl, lc_take hs i k hk] at this
      exact this)
  rw [List.length_map, List.length_range, List.length_take] at hcov
  omega
/-- With registers enough, only what is kept across a call has a slot. -/
structure Few (l : List Span) (i : Nat) (hs : List Loc) : Prop where
  n : nSlots hs ≤ U.cnt l i
  at_ : ∀ k : Nat, k < i → (U.lc hs k).k = 2 → (U.lc hs k).n < U.cnt l i
theorem few_of {l : List Span} {n : Nat} (hR : U.right l = true) (hn : l.length ≤ n) : ∀ i, i ≤ l.length → Few l i (U.upTo l n i).1
  | 0, _ => by
    refine ⟨?_, fun k hk => absurd hk (Nat.not_lt_zero _)⟩
    have e : (U.upTo l n 0).1 = List.replicate l.length ⟨0, 0⟩ := rfl
    rw [e]
    unfold nSlots
    rw [List.filter_eq_nil_iff.2 (fun x hx => by rw [List.eq_of_mem_replicate hx]; decide)]
    exact Nat.zero_le _
  | i + 1, hi => by
    have hil : i < l.length := by omega
    obtain ⟨f1, f2⟩ := few_of hR hn i (by omega)
    have hv := inv_of n hR i (by omega)
    have hm := mid_of hR hil hv
    have e : U.upTo l n (i + 1) = U.place l i (U.upTo l n i).1 (U.upTo l n i).2 := rfl
    have hih : i < (U.upTo l n i).1.length := by rw [hv.len]; exact hil
    rw [e]
    rcases place_how hil hm with ⟨hc, h1⟩ | ⟨hc, w, hw, hf, h1⟩ | ⟨hc, hne, w, f, hw, hf, h1⟩
    · have hcall : (U.sp l i).call = true := by
        rcases hc with hc | ⟨_, hc⟩
        · exact hc
        · exact absurd hc (some_free hil (by omega) hm)
      have hcs := cnt_step l hil
      rw [hcall, if_pos rfl] at hcs
      have hs := slotOf_le l (U.upTo l n i).1 i
      rw [h1]
      refine ⟨?_, fun k hk hk2 => ?_⟩
      · have := nSlots_set (U.upTo l n i).1 i ⟨2, U.slotOf l (U.upTo l n i).1 i⟩
        rw [if_pos rfl] at this
        simp only
        omega
      · simp only at hk2 ⊢
        rw [lc_set _ _ _ hih] at hk2 ⊢
        by_cases ek : k = i
        · rw [if_pos ek]; simp only; omega
        · rw [if_neg ek] at hk2 ⊢
          have := f2 k (by omega) hk2
          omega
    · have hcs := cnt_step l hil
      rw [hc, if_neg (by simp)] at hcs
      rw [h1]
      refine ⟨?_, fun k hk hk2 => ?_⟩
      · have := nSlots_set (U.upTo l n i).1 i ⟨1, w⟩
        rw [if_neg (show ¬ (1 : Int) = 2 by decide)] at this
        simp only
        omega
      · simp only at hk2 ⊢
        rw [lc_set _ _ _ hih] at hk2 ⊢
        by_cases ek : k = i
        · rw [if_pos ek] at hk2; exact absurd hk2 (show ¬ (1 : Int) = 2 by decide)
        · rw [if_neg ek] at hk2 ⊢
          have := f2 k (by omega) hk2
          omega
    · exact absurd hne (some_free hil (by omega) hm)
theorem mem_scan {l : List Span} {n : Nat} {x : Loc} (h : x ∈ U.scan l n) : ∃ k, k < l.length ∧ U.lc (U.scan l n) k = x := by
  obtain ⟨k, hk, e⟩ := mem_getD h
  exact ⟨k, by rw [← scan_len l n]; exact hk, e⟩
theorem none_slots {l : List Span} (hR : U.right l = true) {k : Nat} (hk : k < l.length) : ∃ m : Nat, U.lc (U.scan l 0) k = ⟨2, m⟩ ∧ m < l.length := by
  have hv := inv_of 0 hR l.length (Nat.le_refl _)
  rcases hv.kind k hk with h | h
  · obtain ⟨_, r, hr, _⟩ := hv.reg k hk h
    omega
  · exact h
theorem slots_none {l : List Span} (hR : U.right l = true) : U.slots (U.scan l 0) ≤ l.length := by
  refine slots_le (by omega) _ _ (by omega) (fun x hx hx2 => ?_)
  obtain ⟨k, hk, rfl⟩ := mem_scan hx
  obtain ⟨m, hm, hm2⟩ := none_slots hR hk
  rw [hm]; simp only; omega
theorem slots_few {l : List Span} {n : Nat} (hR : U.right l = true) (hn : l.length ≤ n) : U.slots (U.scan l n) ≤ U.cnt l l.length := by
  refine slots_le (by omega) _ _ (by omega) (fun x hx hx2 => ?_)
  obtain ⟨k, hk, rfl⟩ := mem_scan hx
  have := (few_of hR hn l.length (Nat.le_refl _)).at_ k hk hx2
  unfold U.scan
  omega
theorem loop4_9 (l : List Span) (b : List Loc) (hR : U.right l = true) : ∀ (d i : Nat), i + d = l.length →
    LoopTo Try.prog H (H 4) 0 (loopOf Try.prog 4 9) (mkS 75 [(0, .sl (l.map encS)), (3, .sl ((U.scan l 0).map encL)), (5, .sl (b.map encL)), (7, goI (U.cnt l i)), (8, goI i)])
      (.exit 0, mkS 75 [(0, .sl (l.map encS)), (3, .sl ((U.scan l 0).map encL)), (5, .sl (b.map encL)), (7, goI (U.cnt l l.length))])
  | 0, i, hd => by
    refine turnK (t4_9 l _ b _ i _) ?_
    have hi : i = l.length := by omega
    subst hi
    rw [List.length_map, decide_eq_false (by omega)]
    exact rfl
  | d + 1, i, hd => by
    have hi : i < l.length := by omega
    have his : i < (U.scan l 0).length := by rw [scan_len]; exact hi
    have hl := right_len hR
    have ih := loop4_9 l b hR d (i + 1) (by omega)
    rw [cnt_step l hi] at ih
    have hc := cnt_le l i
    obtain ⟨m, hm, _⟩ := none_slots hR hi
    refine turnK (t4_9 l _ b _ i _) ?_
    have hwr : IntKind.i64.wrap ((U.cnt l i : Int) + 1) = ((U.cnt l i + 1 : Nat) : Int) := by rw [wrap64] <;> omega
    rw [List.length_map, decide_eq_true (by omega), wrapS hi (by omega), rowL his, getL his, rowS hi, getS hi, hm, hwr]
    simp only [rdI, rdB, List.getD_cons_zero, List.getD_cons_succ, int_goI, bool_goB]
    refine ⟨⟨by omega, by trivial⟩, ⟨by omega, by trivial⟩, ?_⟩
    cases hcc : (U.sp l i).call with
    | true => rw [hcc, if_pos rfl] at ih; exact ih
    | false => rw [hcc, if_neg (by simp)] at ih; exact ih
theorem wf4 (l : List Span) (hw : ∀ s ∈ l, In64 s.v) : Wf Try.prog H 4 [.sl (l.map encS)] [] = some (goB true, [], []) := by
  refine runK (t4 l (U.cnt l l.length) _) ⟨wf8, ?_⟩
  have g0 : U.goodR (l.map encS) 0 = U.right l := by rw [goodR_map]; unfold U.good; simp
  have g32 : U.goodR (l.map encS) 32 = U.right l := by rw [goodR_map]; unfold U.good; simp
  rw [g0, g32]
  cases hR : U.right l with
  | false =>
    exact ⟨wf9_no l 0 hw (by rw [hR]; simp), wf9_no l 32 hw (by rw [hR]; simp), rfl⟩
  | true =>
    have hl := right_len hR
    have h0 := wf9 l 0 hw (by omega) hR
    have h32 := wf9 l 32 hw (by omega) hR
    have s0 : U.scanR (l.map encS) 0 = (U.scan l 0).map encL := scanR_map l 0
    have s32 : U.scanR (l.map encS) 32 = (U.scan l 32).map encL := scanR_map l 32
    have e0 : U.slotsR ((U.scan l 0).map encL) = U.slots (U.scan l 0) := by unfold U.slotsR; rw [decL_map]
    have e32 : U.slotsR ((U.scan l 32).map encL) = U.slots (U.scan l 32) := by unfold U.slotsR; rw [decL_map]
    have lc64 : ∀ n : Nat, n ≤ 32 → ∀ x ∈ U.scan l n, In64 x.n := fun n hn x hx => by
      obtain ⟨k, hk, rfl⟩ := mem_scan hx
      have hv := inv_of n hR l.length (Nat.le_refl _)
      unfold In64
      rcases hv.kind k hk with h | ⟨m, h, hm⟩
      · obtain ⟨_, r, hr, h2, _⟩ := hv.reg k hk h
        have e : U.lc (U.scan l n) k = ⟨1, r⟩ := h2
        rw [e]; simp only; omega
      · have e : U.lc (U.scan l n) k = ⟨2, m⟩ := h
        rw [e]; simp only; omega
    have h15a := wf15 (U.scan l 0) (lc64 0 (by omega)) (by rw [scan_len]; omega)
    have h15b := wf15 (U.scan l 32) (lc64 32 (by omega)) (by rw [scan_len]; omega)
    have h4 := loop4_9 l (U.scan l 32) hR l.length 0 (by omega)
    have hc0 : U.cnt l 0 = 0 := by simp [U.cnt]
    rw [hc0] at h4
    rw [s0, s32, List.length_map, take_scan, take_scan, e0, e32]
    have hs0 := slots_none hR
    rw [decide_eq_true hs0]
    refine ⟨h0, h32, h4, h15a, ?_⟩
    by_cases hb : 32 < l.length
    · rw [decide_eq_true (show (l.length : Int) > 32 by omega)]; exact rfl
    · have hs32 := slots_few (n := 32) hR (by omega)
      rw [decide_eq_false (show ¬ (l.length : Int) > 32 by omega), decide_eq_true hs32]
      exact ⟨h15b, rfl⟩
end Go.Proofs.Ythbkemkjkpaoaac.E
