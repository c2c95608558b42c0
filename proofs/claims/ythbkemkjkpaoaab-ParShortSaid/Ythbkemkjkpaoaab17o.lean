/- Functions, by what the evaluator asks; the theorems t.. were printed by show.txt, a program of this session. -/
import Derived.Test.Ythbkemkjkpaoaab17n
set_option linter.unusedVariables false
set_option linter.unusedSimpArgs false
set_option maxRecDepth 100000
namespace Go.Proofs.Ythbkemkjkpaoaab.E
open Go

def touchedFrom (l : List Mv) (x : Loc) (i : Nat) : Bool := !(allFrom (fun j => !(touchP x (l.getD j default))) i l.length)
theorem touch_step (l : List Mv) (x : Loc) {i : Nat} (hi : i < l.length) : touchedFrom l x i = (touchP x (l.getD i default) || touchedFrom l x (i + 1)) := by
  unfold touchedFrom; rw [allFrom_step _ hi]; simp [Bool.not_and]
theorem loop10_5 (l : List Mv) (x : Loc) (hl : l.length < 1000000) : ∀ (d i : Nat) (A : List Mv), i + d = l.length → A.length ≤ i →
    LoopTo Try.prog H (H 10) 0 (loopOf Try.prog 10 5) (mkS 142 [(0, .sl (l.map encM)), (3, .pt 0 0 0), (6, .os 2 0 (A.map encM).length), (7, .os 3 0 0), (8, goI i)] [.box (encL x), .dead, .arr 4 (A.map encM), .arr 4 []])
      (if touchedFrom l x i then (.ret, mkS 142 [(4, .nil), (5, goI 1)] [.dead, .dead, .dead, .dead]) else (.exit 0, mkS 142 [(3, .pt 0 0 0), (6, .os 2 0 (A ++ moved (l.drop i)).length), (7, .os 3 0 0)] [.box (encL x), .dead, .arr 4 ((A ++ moved (l.drop i)).map encM), .arr 4 []]))
  | 0, i, A, hd, hA => by
    refine turnK (t10_5 l x i 0 _ _) ?_
    have hi : i = l.length := by omega
    subst hi
    simp [TB_iff, touchedFrom, allFrom_end, moved, encL]
  | d + 1, i, A, hd, hA => by
    refine turnK (t10_5 l x i 0 _ _) ?_
    have hi : i < l.length := by omega
    have hwr : IntKind.i64.wrap ((i : Int) + 1) = ((i + 1 : Nat) : Int) := by rw [wrap64] <;> omega
    rw [hwr, row13 hi, map13 hi, touch_step l x hi]
    have e1 : touchP x (l.getD i default) = (decide (U.to l i = x) || decide (U.fr l i = x)) := by unfold touchP U.to U.fr; simp [Bool.decide_or]
    simp only [rdI, List.getD_cons_zero, List.getD_cons_succ, int_goI, Bool.and_true, Loc.beq]
    rw [e1]
    have ih0 := loop10_5 l x hl d (i + 1) A (by omega) (by omega)
    have ih1 := loop10_5 l x hl d (i + 1) (A ++ [l.getD i default]) (by omega) (by simp; omega)
    have ed : l.drop i = l.getD i default :: l.drop (i + 1) := drop_cons l hi
    have em : (A ++ [l.getD i default]).map encM = A.map encM ++ [[goI (U.to l i).k, goI (U.to l i).n, goI (U.fr l i).k, goI (U.fr l i).n]] := by rw [List.map_append]; rfl
    have ef : moved (l.drop i) = if U.to l i = U.fr l i then moved (l.drop (i + 1)) else l.getD i default :: moved (l.drop (i + 1)) := by
      rw [ed]; unfold moved sameP U.to U.fr; simp only [List.filter_cons]
      by_cases h : (l.getD i default).to = (l.getD i default).fr <;> simp [h]
    simp only [TB_iff, decide_eq_true_eq, decide_eq_false_iff_not]
    refine ⟨fun _ => ⟨⟨by omega, trivial⟩, fun h1 => ?_, fun h1 => ⟨⟨by omega, trivial⟩, fun h2 => ?_, fun h2 => ⟨⟨by omega, trivial⟩, ⟨by omega, trivial⟩, fun h3 => ?_, fun h3 => ?_⟩⟩⟩, fun h => absurd h (by simp; omega)⟩
    · rw [if_pos (by simp [h1])]
    · rw [if_pos (by simp [h2])]
    · have h4 : U.to l i ≠ U.fr l i := by simpa using h3
      refine ⟨⟨by omega, trivial⟩, trivial, ⟨trivial, by simp; omega⟩, ?_⟩
      rw [ef, if_neg h4]
      simp only [h1, h2, decide_false, Bool.false_or, em, List.append_assoc, List.singleton_append, List.length_append, List.length_cons, List.length_nil] at ih1 ⊢
      exact ih1
    · have h4 : U.to l i = U.fr l i := by simpa using h3
      rw [ef, if_pos h4]
      simp only [h1, h2, decide_false, Bool.false_or]
      exact ih0
theorem open_free (K : List Mv) (hne : ∀ m ∈ K, m.to ≠ m.fr) : U.firstOf (U.open_ K) K.length 0 = U.freeIdx K := by
  refine firstOf_congr _ _ (fun j _ hj => ?_)
  have hj : j < K.length := by omega
  unfold U.open_ U.asked U.free U.cnt
  rw [Bool.not_not, Bool.eq_iff_iff, allFrom_iff, decide_eq_true_eq, List.take_length, List.count_eq_zero]
  have hmem : K.getD j default ∈ K := by rw [List.getD_eq_getElem?_getD, List.getElem?_eq_getElem hj]; exact List.getElem_mem hj
  constructor
  · intro h hm
    obtain ⟨m, hm1, hm2⟩ := List.mem_map.1 hm
    obtain ⟨k, hk⟩ := List.getElem?_of_mem hm1
    have hkl := (List.getElem?_eq_some_iff.1 hk).1
    have e : K.getD k default = m := by rw [List.getD_eq_getElem?_getD, hk]; rfl
    have h2 := h k (Nat.zero_le _) hkl
    by_cases hkj : k = j
    · subst hkj
      refine hne m hm1 ?_
      rw [hm2]; unfold U.to; rw [e]
    · have h3 : U.fr K k = U.to K j := by unfold U.fr; rw [e]; exact hm2
      simp [hkj, h3] at h2
  · intro h k _ hk
    simp only [Bool.not_eq_true', Bool.and_eq_false_iff, decide_eq_false_iff_not]
    right
    intro h3
    apply h
    rw [← h3]
    refine List.mem_map.2 ⟨K.getD k default, ?_, rfl⟩
    rw [List.getD_eq_getElem?_getD, List.getElem?_eq_getElem hk]; exact List.getElem_mem hk
theorem scal (K : List Mv) : (List.all (K.map encM) fun r => List.all r scalarA) = true := by
  simp [List.all_eq_true, encM, scalarA, goI]
theorem loop10_11 (x : Loc) : ∀ (f : Nat) (K o : List Mv), mu K ≤ f → (∀ m ∈ K, m.to ≠ m.fr) → (∀ m ∈ K, m.to ≠ x) → o.length + f ≤ 1000 →
    LoopTo Try.prog H (H 10) 0 (loopOf Try.prog 10 11) (mkS 142 [(3, .pt 0 0 0), (6, .os 2 0 K.length), (7, .os 3 0 (o.map encM).length)] [.box (encL x), .dead, .arr 4 (K.map encM), .arr 4 (o.map encM)])
      (.exit 2, mkS 142 [(7, .os 3 0 ((ord x f K o).map encM).length)] [.dead, .dead, .dead, .arr 4 ((ord x f K o).map encM)]) := by
  intro f
  induction f with
  | zero =>
    intro K o hmu hok hne hlen
    have hK : K = [] := by
      cases K with
      | nil => rfl
      | cons m K => simp [mu] at hmu
    subst hK
    refine turnK (t10_11 x x 0 0 0 _ (o.map encM) [] [] _) ?_
    simp [TB_iff, ord]
  | succ f ih =>
    intro K o hmu hok hne hlen
    by_cases hK : K = []
    · subst hK
      refine turnK (t10_11 x x 0 0 0 _ (o.map encM) [] [] _) ?_
      simp [TB_iff, ord]
    have hpos : 0 < K.length := List.length_pos_iff.2 hK
    have hKl : K.length < 1000000 := by unfold mu at hmu; omega
    have h14 := loop10_14 x K hKl (o.map encM) K.length (-1) (Nat.le_refl _)
    rw [open_free K hok] at h14
    have hT : List.take K.length (List.drop 0 (K.map encM)) = K.map encM := by
      rw [List.drop_zero]; exact List.take_of_length_le (by simp)
    have hwr0 : IntKind.i64.wrap ((K.length : Int) - 1) = (K.length : Int) - 1 := by rw [wrap64] <;> omega
    by_cases hfr : 0 ≤ U.freeIdx K
    · obtain ⟨w, hw1, _, hw3, _⟩ := firstOf_val _ _ _ hfr
      have hw1' : U.freeIdx K = w := hw1
      have hw : w < K.length := by omega
      have h29 := wf29 K w hw hKl
      have eo : ord x (f + 1) K o = ord x f (K.eraseIdx w) (o ++ [K.getD w default]) := by
        simp only [ord, if_neg hK, hw1', Int.toNat_natCast]; exact if_pos (by omega)
      rw [eo]
      have hel : (K.eraseIdx w).length = K.length - 1 := by rw [List.length_eraseIdx, if_pos hw]
      have hmu2 : mu (K.eraseIdx w) ≤ f := by
        unfold mu at hmu ⊢
        rw [if_pos hfr] at hmu
        rw [hel]
        split <;> omega
      have ih2 := ih (K.eraseIdx w) (o ++ [K.getD w default]) hmu2 (fun m hm => hok m (List.mem_of_mem_eraseIdx hm)) (fun m hm => hne m (List.mem_of_mem_eraseIdx hm)) (by simp; omega)
      refine turnK (t10_11 x x K.length (K.eraseIdx w).length w (K.map encM) (o.map encM) ((K.eraseIdx w).map encM) [] _) ?_
      have eor : orElse (U.freeIdx K) (-1) = (w : Int) := by rw [hw1']; exact if_pos (by omega)
      rw [eor] at h14
      rw [hT, Int.toNat_natCast, rowM hw, getM hw, hwr0]
      simp only [TB_iff, decide_eq_true_eq]
      refine ⟨fun _ => ⟨h14, fun _ => ⟨⟨by omega, by omega, by simp; omega⟩, rfl, trivial, ⟨trivial, by simp; omega⟩, h29, scal _, ?_⟩, fun h => absurd h (by simp)⟩, fun h => absurd h (by simp; exact hK)⟩
      have el : (o.map encM).length + 1 = ((o ++ [K.getD w default]).map encM).length := by simp
      have er : o.map encM ++ [[goI (U.to K w).k, goI (U.to K w).n, goI (U.fr K w).k, goI (U.fr K w).n]] = (o ++ [K.getD w default]).map encM := by rw [List.map_append]; rfl
      simp only [rdI, List.getD_cons_zero, List.getD_cons_succ, int_goI]
      rw [el, er]
      exact ih2
    · have hneg : U.freeIdx K = -1 := (firstOf_neg _ _ _).resolve_left hfr
      have eo : ord x (f + 1) K o = ord x f (K.map (sub x (U.to K 0))) (o ++ [Mv.mk x (U.to K 0)]) := by
        simp only [ord, if_neg hK, if_neg hfr]
      rw [eo]
      have hop := opened x K hK hne
      have eor : orElse (U.freeIdx K) (-1) = -1 := by rw [hneg]; rfl
      rw [eor] at h14
      have hr := rowM hpos
      have hg := getM hpos
      rw [Nat.zero_add] at hr hg
      have hne0 : U.to K 0 ≠ x := hne _ (by rw [List.getD_eq_getElem?_getD, List.getElem?_eq_getElem hpos]; exact List.getElem_mem hpos)
      generalize hy : U.to K 0 = y at hop hr hg hne0
      have hmu2 : mu (K.map (sub x y)) ≤ f := by
        unfold mu at hmu ⊢
        rw [if_neg hfr] at hmu
        rw [if_pos hop, List.length_map]
        omega
      have ih2 := ih (K.map (sub x y)) (o ++ [Mv.mk x y]) hmu2 (fun m hm => by
        obtain ⟨m0, h0, rfl⟩ := List.mem_map.1 hm
        rw [sub_to]
        unfold sub; split
        · exact hne m0 h0
        · exact hok m0 h0) (fun m hm => by
        obtain ⟨m0, h0, rfl⟩ := List.mem_map.1 hm
        rw [sub_to]; exact hne m0 h0) (by simp; omega)
      have h29 := loop10_29 x y K hKl ((o ++ [Mv.mk x y]).map encM) K.length 0 (by omega)
      refine turnK (t10_11 x y K.length 0 (-1) (K.map encM) (o.map encM) [] ((K.map (sub x y)).map encM) _) ?_
      rw [hT, hr, hg, hwr0]
      rw [show (K.map (sub x y)).length = K.length from List.length_map _] at ih2
      have el : (o.map encM).length + 1 = ((o ++ [Mv.mk x y]).map encM).length := by simp
      have er : o.map encM ++ [[goI x.1, goI x.2, goI y.1, goI y.2]] = (o ++ [Mv.mk x y]).map encM := by simp [encM]
      have ec : (cur x y K 0).map encM ++ [] = K.map encM := by simp [cur]
      rw [ec] at h29
      simp only [TB_iff, decide_eq_true_eq, rdI, List.getD_cons_zero, List.getD_cons_succ, int_goI]
      refine ⟨fun _ => ⟨h14, fun h => absurd h (by omega), fun _ => ⟨⟨by simp, by omega, by simp; omega⟩, rfl, trivial, ⟨trivial, by simp; omega⟩, ?_, ?_⟩⟩, fun h => absurd h (by simp; exact hK)⟩
      · rw [er, el]; exact h29
      · rw [er]; exact ih2
theorem moved_ne (l : List Mv) : ∀ m ∈ moved l, m.to ≠ m.fr := fun m hm => by
  have h := (List.mem_filter.1 hm).2
  simpa [sameP] using h
theorem moved_to {l : List Mv} {x : Loc} (ht : touched l x = false) : ∀ m ∈ moved l, m.to ≠ x := fun m hm e => by
  have hm1 : m ∈ l := (List.mem_filter.1 hm).1
  obtain ⟨j, hj⟩ := List.getElem?_of_mem hm1
  have hjl := (List.getElem?_eq_some_iff.1 hj).1
  have h2 : allFrom (fun j => !(touchP x (l.getD j default))) 0 l.length = true := by
    unfold touched at ht
    simpa using ht
  have h3 := allFrom_iff.1 h2 j (Nat.zero_le _) hjl
  rw [List.getD_eq_getElem?_getD, hj] at h3
  simp [touchP, e] at h3
theorem wf10_no (l : List Mv) (x : Loc) (hl : l.length ≤ 400) (h : refused l x = true) : Wf Try.prog H 10 [.sl (l.map encM), .agg (encL x)] [] = some (.tup [.sl [], goI 1], [], []) := by
  have h13 := wf13 l (by omega)
  have h17 := wf17 x.k x.n
  have h5 := loop10_5 l x (by omega) l.length 0 [] (by omega) (Nat.le_refl _)
  refine runK (t10 l x (U.right l 0) (touched l x) (moved l).length ((moved l).map encM) [] _) ?_
  simp only [TB_iff]
  refine ⟨h13, fun _ => trivial, fun h1 => ⟨h17, fun _ => trivial, fun h2 => ⟨fun h3 => ?_, fun h3 => ?_⟩⟩⟩
  · rw [if_pos (show touchedFrom l x 0 = true from h3)] at h5; exact ⟨h5, trivial⟩
  · exfalso
    unfold refused U.mayL at h
    rw [h1, h2, h3] at h
    cases h
theorem wf10_ok (l : List Mv) (x : Loc) (hl : l.length ≤ 400) (h : refused l x = false) : Wf Try.prog H 10 [.sl (l.map encM), .agg (encL x)] [] = some (.tup [.os 0 0 ((ordered l x).map encM).length, goI 0], [.arr 4 ((ordered l x).map encM)], []) := by
  have h13 := wf13 l (by omega)
  have h17 := wf17 x.k x.n
  have h5 := loop10_5 l x (by omega) l.length 0 [] (by omega) (Nat.le_refl _)
  unfold refused at h
  simp only [Bool.or_eq_false_iff] at h
  have ht : touchedFrom l x 0 = false := h.2.2
  rw [if_neg (by rw [ht]; simp)] at h5
  have hml : (moved l).length ≤ l.length := List.length_filter_le _ _
  have hmu : mu (moved l) ≤ 801 := by unfold mu; split <;> omega
  have h11 := loop10_11 x (mu (moved l)) (moved l) [] (Nat.le_refl _) (moved_ne l) (moved_to h.2.2) (by simp; omega)
  refine runK (t10 l x (U.right l 0) (touched l x) (moved l).length ((moved l).map encM) ((ordered l x).map encM) _) ?_
  simp only [TB_iff]
  refine ⟨h13, fun h1 => absurd (h.1.symm.trans h1) (by simp), fun h1 => ⟨h17, fun h2 => absurd (h.2.1.symm.trans h2) (by simp), fun h2 => ⟨fun h3 => absurd (h.2.2.symm.trans h3) (by simp), fun h3 => ⟨h5, h11, trivial⟩⟩⟩⟩
end Go.Proofs.Ythbkemkjkpaoaab.E
