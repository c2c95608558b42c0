/- Functions, by what the evaluator asks; the theorems t.. were printed by show.txt, a program of this session. -/
import Derived.Test.Ythbkemkjkpaoaab17i
set_option linter.unusedVariables false
set_option linter.unusedSimpArgs false
set_option maxRecDepth 100000
namespace Go.Proofs.Ythbkemkjkpaoaab.E
open Go

theorem firstOf_ge (p : Nat → Bool) (d i j : Nat) (h1 : i ≤ j) (h2 : j < i + d) (h3 : p j = true) : 0 ≤ U.firstOf p d i := by
  have h := firstOf_any p d i
  false_or_by_contra
  rename_i hn
  rw [decide_eq_false (by omega)] at h
  have h4 : allFrom (fun j => !(p j)) i (i + d) = true := by simpa using h.symm
  have h5 := allFrom_iff.1 h4 j h1 h2
  rw [h3] at h5
  cases h5
theorem firstOf_val (p : Nat → Bool) : ∀ d i, 0 ≤ U.firstOf p d i → ∃ w : Nat, U.firstOf p d i = w ∧ i ≤ w ∧ w < i + d ∧ p w = true := by
  intro d
  induction d with
  | zero => intro i h; simp [U.firstOf] at h
  | succ d ih =>
    intro i h
    rcases Bool.eq_false_or_eq_true (p i) with h1 | h1
    · exact ⟨i, by simp only [U.firstOf]; exact if_pos h1, Nat.le_refl _, by omega, h1⟩
    · have e : U.firstOf p (d + 1) i = U.firstOf p d (i + 1) := by simp only [U.firstOf]; exact if_neg (by rw [h1]; simp)
      rw [e] at h ⊢
      obtain ⟨w, a, b, c, e2⟩ := ih (i + 1) h
      exact ⟨w, a, by omega, by omega, e2⟩
/-- Moves, one behind the other. -/
def ord (x : Loc) : Nat → List Mv → List Mv → List Mv
  | 0, _, o => o
  | f + 1, K, o =>
    if K = [] then o
    else if 0 ≤ U.freeIdx K then ord x f (K.eraseIdx (U.freeIdx K).toNat) (o ++ [K.getD (U.freeIdx K).toNat default])
    else ord x f (K.map (sub x (U.to K 0))) (o ++ [⟨x, U.to K 0⟩])
def mu (K : List Mv) : Nat := 2 * K.length + (if 0 ≤ U.freeIdx K then 0 else 1)
theorem sub_to (x y : Loc) (m : Mv) : (sub x y m).to = m.to := by unfold sub; split <;> rfl
theorem opened (x : Loc) (K : List Mv) (hK : K ≠ []) (hx : ∀ m ∈ K, m.to ≠ x) : 0 ≤ U.freeIdx (K.map (sub x (U.to K 0))) := by
  have hpos : 0 < K.length := List.length_pos_iff.2 hK
  refine firstOf_ge _ _ 0 0 (Nat.le_refl _) (by simp; exact hpos) ?_
  unfold U.free
  rw [decide_eq_true_eq]
  have ht : U.to (K.map (sub x (U.to K 0))) 0 = U.to K 0 := by
    cases K with
    | nil => exact absurd rfl hK
    | cons m K => simp [U.to, sub_to]
  rw [ht]
  unfold U.cnt
  rw [List.count_eq_zero]
  intro hmem
  obtain ⟨m, hm, he⟩ := List.mem_map.1 hmem
  have hm2 := List.mem_of_mem_take hm
  obtain ⟨m0, hm0, rfl⟩ := List.mem_map.1 hm2
  have hne : U.to K 0 ≠ x := by
    cases K with
    | nil => exact absurd rfl hK
    | cons m K => exact hx m (by simp)
  unfold sub at he
  split at he
  · exact hne he.symm
  · rename_i h; exact h he
theorem loop9_7 (x : Loc) (hxo : x.ok) : ∀ (f : Nat) (K o : List Mv) (G : List (List AV)), mu K ≤ f → (∀ m ∈ K, m.ok) → (∀ m ∈ K, m.to ≠ x) → o.length + f ≤ 1000 → rowsOk 4 G = true →
    LoopTo Try.prog H (H 9) 0 (loopOf Try.prog 9 7) (mkS 79 [(3, .pt 0 0 0), (8, .os 3 0 (o.map encM).length), (9, .os 2 0 K.length)] [.box (encL x), .dead, .arr 4 (K.map encM ++ G), .arr 4 (o.map encM)])
      (.exit 0, mkS 79 [(8, .os 3 0 ((ord x f K o).map encM).length)] [.dead, .dead, .dead, .arr 4 ((ord x f K o).map encM)]) := by
  intro f
  induction f with
  | zero =>
    intro K o G hmu hok hne hlen hG
    have hK : K = [] := by
      cases K with
      | nil => rfl
      | cons m K => simp [mu] at hmu
    subst hK
    refine turnT_ok (viaK (t9_7 x x 0 0 0 _ [] [] (o.map encM) _) ?_)
    simp [TB_iff, ord]
  | succ f ih =>
    intro K o G hmu hok hne hlen hG
    by_cases hK : K = []
    · subst hK
      refine turnT_ok (viaK (t9_7 x x 0 0 0 _ [] [] (o.map encM) _) ?_)
      simp [TB_iff, ord]
    have hpos : 0 < K.length := List.length_pos_iff.2 hK
    have hKl : K.length < 1000000 := by unfold mu at hmu; omega
    have h27 := wf27 K hKl hok
    have hT : List.take K.length (List.drop 0 (K.map encM ++ G)) = K.map encM := by
      rw [List.drop_zero, List.take_append_of_le_length (by simp)]; exact List.take_of_length_le (by simp)
    by_cases hfr : 0 ≤ U.freeIdx K
    · obtain ⟨w, hw1, _, hw3, _⟩ := firstOf_val _ _ _ hfr
      have hw1' : U.freeIdx K = w := hw1
      have hw : w < K.length := by omega
      obtain ⟨ys', g1, g2⟩ := wf28 K G w hw hG
      have eo : ord x (f + 1) K o = ord x f (K.eraseIdx w) (o ++ [K.getD w default]) := by
        simp only [ord, if_neg hK, hw1', Int.toNat_natCast]; exact if_pos (by omega)
      rw [eo]
      have hel : (K.eraseIdx w).length = K.length - 1 := by rw [List.length_eraseIdx, if_pos hw]
      have hmu2 : mu (K.eraseIdx w) ≤ f := by
        unfold mu at hmu ⊢
        rw [if_pos hfr] at hmu
        rw [hel]
        split <;> omega
      have ih2 := ih (K.eraseIdx w) (o ++ [K.getD w default]) ys' hmu2 (fun m hm => hok m (List.mem_of_mem_eraseIdx hm)) (fun m hm => hne m (List.mem_of_mem_eraseIdx hm)) (by simp; omega) g1
      refine turnT_ok (viaK (t9_7 x x K.length (K.length - 1) w (K.map encM ++ G) ((K.eraseIdx w).map encM ++ ys') [] (o.map encM) _) ?_)
      have hwr : IntKind.i64.wrap ((w : Int) + 1) = (w : Int) + 1 := by rw [wrap64] <;> omega
      have hget : (K.map encM ++ G)[0 + w]? = some (encM (K.getD w default)) := by
        rw [Nat.zero_add, List.getElem?_append_left (by simp; exact hw)]; exact rows_map hw
      have hrow : rowAt (K.map encM ++ G) (0 + w) = encM (K.getD w default) := by
        unfold rowAt; rw [List.getD_eq_getElem?_getD, hget]; rfl
      generalize hm : K.getD w default = m at hget hrow ih2
      have e1 : encM m = [goI m.to.k, goI m.to.n, goI m.fr.k, goI m.fr.n] := rfl
      rw [hT, Int.toNat_natCast, hget, hrow, hwr]
      rw [hw1'] at h27
      simp only [TB_iff, decide_eq_true_eq]
      refine ⟨fun _ => ⟨h27, fun _ => ⟨⟨by omega, by omega, by simp; omega⟩, by rw [e1]; rfl, trivial, ⟨by trivial, by simp; omega⟩, g2, ?_⟩, fun h => absurd h (by simp)⟩, fun h => absurd h (by simp; exact hK)⟩
      have el : (o.map encM).length + 1 = ((o ++ [m]).map encM).length := by simp
      have er : o.map encM ++ [[goI (rdI (encM m) 0), goI (rdI (encM m) 1), goI (rdI (encM m) 2), goI (rdI (encM m) 3)]] = (o ++ [m]).map encM := by
        rw [e1]; simp [encM]
      rw [el, er, ← hel]
      exact ih2
    · have hneg : U.freeIdx K = -1 := (firstOf_neg _ _ _).resolve_left hfr
      have eo : ord x (f + 1) K o = ord x f (K.map (sub x (U.to K 0))) (o ++ [Mv.mk x (U.to K 0)]) := by
        simp only [ord, if_neg hK, if_neg hfr]
      rw [eo]
      have hop := opened x K hK hne
      generalize hy : U.to K 0 = y at hop
      have hK0 := to_ok hok hpos
      rw [hy] at hK0
      have hmu2 : mu (K.map (sub x y)) ≤ f := by
        unfold mu at hmu ⊢
        rw [if_neg hfr] at hmu
        rw [if_pos hop, List.length_map]
        omega
      have ih2 := ih (K.map (sub x y)) (o ++ [Mv.mk x y]) G hmu2 (fun m hm => by
        obtain ⟨m0, h0, rfl⟩ := List.mem_map.1 hm
        have := hok m0 h0
        refine ⟨by rw [sub_to]; exact this.1, ?_⟩
        unfold sub; split
        · exact hxo
        · exact this.2) (fun m hm => by
        obtain ⟨m0, h0, rfl⟩ := List.mem_map.1 hm
        rw [sub_to]; exact hne m0 h0) (by simp; omega) hG
      have h15 := loop9_15 x y K hKl G ((o ++ [Mv.mk x y]).map encM) K.length 0 (by omega)
      refine turnT_ok (viaK (t9_7 x y K.length 0 (-1) (K.map encM ++ G) [] ((K.map (sub x y)).map encM ++ G) (o.map encM) _) ?_)
      have hget : (K.map encM ++ G)[0]? = some (encM (K.getD 0 default)) := by
        rw [List.getElem?_append_left (by simp; exact hpos)]; exact rows_map hpos
      have hrow : rowAt (K.map encM ++ G) 0 = encM (K.getD 0 default) := by
        unfold rowAt; rw [List.getD_eq_getElem?_getD, hget]; rfl
      have hy2 : (K.getD 0 default).to = y := hy
      generalize K.getD 0 default = m at hget hrow hy2
      have e1 : encM m = [goI m.to.k, goI m.to.n, goI m.fr.k, goI m.fr.n] := rfl
      rw [hT, hget, hrow]
      rw [hneg] at h27
      rw [show (K.map (sub x y)).length = K.length from List.length_map _] at ih2
      have el : (o.map encM).length + 1 = ((o ++ [Mv.mk x y]).map encM).length := by simp
      have es : o.map encM ++ [[goI (Mv.to (Mv.mk x y)).1, goI (Mv.to (Mv.mk x y)).2, goI (Mv.fr (Mv.mk x y)).1, goI (Mv.fr (Mv.mk x y)).2]] = (o ++ [Mv.mk x y]).map encM := by simp [encM]
      have er : o.map encM ++ [[goI x.1, goI x.2, goI (rdI (encM m) 0), goI (rdI (encM m) 1)]] = (o ++ [Mv.mk x y]).map encM := by
        rw [e1, ← hy2]; simp [encM]
      have eb : Row.box [goI (rdI (encM m) 0), goI (rdI (encM m) 1)] = Row.box (encL y) := by rw [← hy2, e1]; rfl
      have ec : cur x y K 0 = K := by simp [cur]
      rw [ec] at h15
      simp only [TB_iff, decide_eq_true_eq]
      refine ⟨fun _ => ⟨h27, fun h => absurd h (by omega), fun _ => ⟨⟨by simp, by omega, by simp; omega⟩, by rw [e1]; rfl, trivial, ⟨by trivial, by simp; omega⟩, ?_, ?_⟩⟩, fun h => absurd h (by simp; exact hK)⟩
      · rw [es, er, eb, el]; exact h15
      · rw [es]; exact ih2
end Go.Proofs.Ythbkemkjkpaoaab.E
