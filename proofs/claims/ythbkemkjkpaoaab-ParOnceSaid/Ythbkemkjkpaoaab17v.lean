/- Functions, by what the evaluator asks; the theorems t.. were printed by show.txt, a program of this session. -/
import Derived.Test.Ythbkemkjkpaoaab17u
set_option linter.unusedVariables false
set_option linter.unusedSimpArgs false
set_option maxRecDepth 100000
namespace Go.Proofs.Ythbkemkjkpaoaab.E
open Go


/-! What is ordered does, one by one, what the moves do all at once; and how long it is. -/
theorem nodup_of_cover {α : Type} [DecidableEq α] : ∀ (a b : List α), a.Nodup → (∀ x ∈ a, x ∈ b) → b.length ≤ a.length → b.Nodup ∧ ∀ x ∈ b, x ∈ a
  | [], b, _, _, hl => by
    have : b = [] := List.eq_nil_of_length_eq_zero (by simpa using hl)
    subst this
    exact ⟨List.nodup_nil, fun x h => h⟩
  | x :: a, b, hn, hs, hl => by
    rw [List.nodup_cons] at hn
    have hx := hs x (by simp)
    have hlen : (b.erase x).length = b.length - 1 := List.length_erase_of_mem hx
    have hpos : 0 < b.length := List.length_pos_of_mem hx
    obtain ⟨h1, h2⟩ := nodup_of_cover a (b.erase x) hn.2 (fun y hy => by
      have hne : y ≠ x := fun e => hn.1 (e ▸ hy)
      exact (List.mem_erase_of_ne hne).2 (hs y (by simp [hy]))) (by rw [hlen]; simp at hl; omega)
    have hnx : x ∉ b.erase x := fun h => hn.1 (h2 x h)
    have hperm := List.perm_cons_erase hx
    refine ⟨hperm.nodup_iff.2 (List.nodup_cons.2 ⟨hnx, h1⟩), fun y hy => ?_⟩
    rcases List.mem_cons.1 (hperm.mem_iff.1 hy) with rfl | h
    · simp
    · simp [h2 y h]
theorem eraseIdx_map' {α β : Type} (f : α → β) : ∀ (K : List α) (i : Nat), (K.map f).eraseIdx i = (K.eraseIdx i).map f
  | [], _ => rfl
  | a :: K, 0 => rfl
  | a :: K, i + 1 => by simp only [List.map_cons, List.eraseIdx_cons_succ, eraseIdx_map' f K i]
theorem perm_erase {α : Type} : ∀ (K : List α) (w : Nat) (h : w < K.length), K.Perm (K[w] :: K.eraseIdx w)
  | [], _, h => by simp at h
  | a :: K, 0, _ => List.Perm.refl _
  | a :: K, w + 1, h => by
    have ih := perm_erase K w (by simpa using h)
    simp only [List.getElem_cons_succ, List.eraseIdx_cons_succ]
    exact (ih.cons a).trans (List.Perm.swap _ _ _)
def tos (K : List Mv) : List Loc := K.map (·.to)
def frs (K : List Mv) : List Loc := K.map (·.fr)
theorem free_iff {K : List Mv} {i : Nat} : U.free K i = true ↔ U.to K i ∉ frs K := by
  unfold U.free U.cnt
  rw [decide_eq_true_eq, List.take_length, List.count_eq_zero]
  rfl
theorem to_mem {K : List Mv} {i : Nat} (h : i < K.length) : U.to K i ∈ tos K := by
  unfold U.to tos
  rw [List.getD_eq_getElem?_getD, List.getElem?_eq_getElem h]
  exact List.mem_map.2 ⟨_, List.getElem_mem h, rfl⟩
/-- Where none is free, those that are asked for are just those that something goes to, each once. -/
theorem ring {K : List Mv} (hn : (tos K).Nodup) (hf : ¬ 0 ≤ U.freeIdx K) : (frs K).Nodup ∧ ∀ x ∈ frs K, x ∈ tos K := by
  refine nodup_of_cover (tos K) (frs K) hn (fun x hx => ?_) (by simp [tos, frs])
  false_or_by_contra
  rename_i hne
  obtain ⟨m, hm, rfl⟩ := List.mem_map.1 hx
  obtain ⟨i, hi⟩ := List.getElem?_of_mem hm
  have hil := (List.getElem?_eq_some_iff.1 hi).1
  refine hf (firstOf_ge _ _ 0 i (Nat.zero_le _) (by omega) (free_iff.2 ?_))
  have : U.to K i = m.to := by unfold U.to; rw [List.getD_eq_getElem?_getD, hi]; rfl
  rw [this]
  exact hne
/-- What is moved: each place at most once, none into itself; x isn't gone to. -/
structure Good (x : Loc) (K : List Mv) : Prop where
  nd : (tos K).Nodup
  ne : ∀ m ∈ K, m.to ≠ m.fr
  nx : ∀ m ∈ K, m.to ≠ x
theorem Good.erase {x : Loc} {K : List Mv} (h : Good x K) (i : Nat) : Good x (K.eraseIdx i) where
  nd := by unfold tos; rw [← eraseIdx_map']; exact h.nd.sublist (List.eraseIdx_sublist _ _)
  ne := fun m hm => h.ne m (List.mem_of_mem_eraseIdx hm)
  nx := fun m hm => h.nx m (List.mem_of_mem_eraseIdx hm)
theorem tos_sub (x y : Loc) (K : List Mv) : tos (K.map (sub x y)) = tos K := by
  unfold tos
  rw [List.map_map]
  exact List.map_congr_left (fun m _ => sub_to x y m)
theorem Good.opened {x : Loc} {K : List Mv} (h : Good x K) (y : Loc) : Good x (K.map (sub x y)) where
  nd := by rw [tos_sub]; exact h.nd
  ne := fun m hm => by
    obtain ⟨m0, h0, rfl⟩ := List.mem_map.1 hm
    rw [sub_to]
    unfold sub; split
    · exact h.nx m0 h0
    · exact h.ne m0 h0
  nx := fun m hm => by
    obtain ⟨m0, h0, rfl⟩ := List.mem_map.1 hm
    rw [sub_to]; exact h.nx m0 h0
/-- What a place holds in the end. -/
def endS (S : Loc → Int) (K : List Mv) (p : Loc) : Int := match K.find? (fun m => decide (m.to = p)) with | some m => S m.fr | none => S p
theorem endS_mem {S : Loc → Int} {K : List Mv} (hn : (tos K).Nodup) {m : Mv} (hm : m ∈ K) : endS S K m.to = S m.fr := by
  unfold endS
  have : K.find? (fun m' => decide (m'.to = m.to)) = some m := by
    induction K with
    | nil => cases hm
    | cons a K ih =>
      unfold tos at hn
      rw [List.map_cons, List.nodup_cons] at hn
      rcases List.mem_cons.1 hm with rfl | hm
      · simp
      · have hne : ¬ a.to = m.to := fun e => hn.1 (by rw [e]; exact List.mem_map.2 ⟨m, hm, rfl⟩)
        rw [List.find?_cons_of_neg (by simpa using hne)]
        exact ih hn.2 hm
  rw [this]
theorem endS_not {S : Loc → Int} {K : List Mv} {p : Loc} (h : p ∉ tos K) : endS S K p = S p := by
  unfold endS
  have : K.find? (fun m => decide (m.to = p)) = none := by
    rw [List.find?_eq_none]
    intro m hm
    simp only [decide_eq_true_eq]
    exact fun e => h (List.mem_map.2 ⟨m, hm, e⟩)
  rw [this]
theorem ord_end (x : Loc) : ∀ (f : Nat) (K o : List Mv) (S : Loc → Int), mu K ≤ f → Good x K → ∀ p, p ≠ x → ((ord x f K o).foldl U.mv1 S) p = endS (o.foldl U.mv1 S) K p := by
  intro f
  induction f with
  | zero =>
    intro K o S hmu hG p hp
    have hK : K = [] := by
      cases K with
      | nil => rfl
      | cons m K => simp [mu] at hmu
    subst hK
    rfl
  | succ f ih =>
    intro K o S hmu hG p hp
    by_cases hK : K = []
    · subst hK
      rw [ord_nil]
      rfl
    have hpos : 0 < K.length := List.length_pos_iff.2 hK
    by_cases hfr : 0 ≤ U.freeIdx K
    · obtain ⟨w, hw1, _, hw3, hw4⟩ := firstOf_val _ _ _ hfr
      have hw1' : U.freeIdx K = w := hw1
      have hw : w < K.length := by omega
      have eo : ord x (f + 1) K o = ord x f (K.eraseIdx w) (o ++ [K.getD w default]) := by
        simp only [ord, if_neg hK, hw1', Int.toNat_natCast]; exact if_pos (by omega)
      have hel : (K.eraseIdx w).length = K.length - 1 := by rw [List.length_eraseIdx, if_pos hw]
      have hmu2 : mu (K.eraseIdx w) ≤ f := by
        unfold mu at hmu ⊢
        rw [if_pos hfr] at hmu
        rw [hel]
        split <;> omega
      rw [eo, ih _ _ _ hmu2 (hG.erase w) p hp, List.foldl_append]
      have hwf := free_iff.1 hw4
      have hto : U.to K w = (K.getD w default).to := rfl
      rw [hto] at hwf
      have hmem : K.getD w default ∈ K := by rw [List.getD_eq_getElem?_getD, List.getElem?_eq_getElem hw]; exact List.getElem_mem hw
      have hcons : K.Perm (K.getD w default :: K.eraseIdx w) := by
        have : K.getD w default = K[w] := by rw [List.getD_eq_getElem?_getD, List.getElem?_eq_getElem hw]; rfl
        rw [this]
        exact perm_erase K w hw
      have hnd2 : (tos (K.getD w default :: K.eraseIdx w)).Nodup := (hcons.map _).nodup_iff.1 hG.nd
      generalize K.getD w default = m at hwf hmem hcons hnd2
      unfold tos at hnd2
      rw [List.map_cons, List.nodup_cons] at hnd2
      generalize o.foldl U.mv1 S = T
      show endS (U.mv1 T m) (K.eraseIdx w) p = endS T K p
      by_cases hpm : p = m.to
      · subst hpm
        rw [endS_not hnd2.1, endS_mem hG.nd hmem]
        unfold U.mv1
        rw [if_pos rfl]
      · by_cases hpt : p ∈ tos K
        · obtain ⟨m2, hm2, rfl⟩ := List.mem_map.1 hpt
          have hm3 : m2 ∈ K.eraseIdx w := by
            rcases List.mem_cons.1 (hcons.mem_iff.1 hm2) with rfl | h
            · exact absurd rfl hpm
            · exact h
          rw [endS_mem hnd2.2 hm3, endS_mem hG.nd hm2]
          unfold U.mv1
          rw [if_neg (fun e => hwf (by rw [← e]; exact List.mem_map.2 ⟨m2, hm2, rfl⟩))]
        · rw [endS_not hpt, endS_not (fun h => hpt (by
            obtain ⟨m2, hm2, rfl⟩ := List.mem_map.1 h
            exact List.mem_map.2 ⟨m2, List.mem_of_mem_eraseIdx hm2, rfl⟩))]
          unfold U.mv1
          rw [if_neg hpm]
    · have eo : ord x (f + 1) K o = ord x f (K.map (sub x (U.to K 0))) (o ++ [Mv.mk x (U.to K 0)]) := by
        simp only [ord, if_neg hK, if_neg hfr]
      have hop := opened x K hK hG.nx
      obtain ⟨hr1, hr2⟩ := ring hG.nd hfr
      have hxf : x ∉ frs K := fun h => by
        obtain ⟨m, hm, e⟩ := List.mem_map.1 (hr2 x h)
        exact hG.nx m hm e
      generalize U.to K 0 = y at eo hop
      have hmu2 : mu (K.map (sub x y)) ≤ f := by
        unfold mu at hmu ⊢
        rw [if_neg hfr] at hmu
        rw [if_pos hop, List.length_map]
        omega
      rw [eo, ih _ _ _ hmu2 (hG.opened y) p hp, List.foldl_append]
      generalize o.foldl U.mv1 S = T
      show endS (U.mv1 T (Mv.mk x y)) (K.map (sub x y)) p = endS T K p
      by_cases hpt : p ∈ tos K
      · obtain ⟨m2, hm2, rfl⟩ := List.mem_map.1 hpt
        have hm3 : sub x y m2 ∈ K.map (sub x y) := List.mem_map.2 ⟨m2, hm2, rfl⟩
        have h1 := endS_mem (S := U.mv1 T (Mv.mk x y)) (hG.opened y).nd hm3
        rw [sub_to] at h1
        rw [h1, endS_mem hG.nd hm2]
        unfold U.mv1 sub
        by_cases hy : m2.fr = y
        · rw [if_pos hy, if_pos rfl, hy]
        · rw [if_neg hy, if_neg (fun e => hxf ((show m2.fr = x from e) ▸ List.mem_map.2 ⟨m2, hm2, rfl⟩))]
      · rw [endS_not hpt, endS_not (by rw [tos_sub]; exact hpt)]
        unfold U.mv1
        rw [if_neg hp]
/-- How often the spare place is gone to. -/
def spares (x : Loc) (o : List Mv) : Nat := (tos o).count x
theorem ord_len (x : Loc) : ∀ (f : Nat) (K o : List Mv), mu K ≤ f → Good x K → (ord x f K o).length + spares x o = o.length + K.length + spares x (ord x f K o) ∧ spares x o ≤ spares x (ord x f K o) ∧ 2 * spares x (ord x f K o) ≤ 2 * spares x o + K.length := by
  intro f
  induction f using Nat.strongRecOn with
  | _ f ih =>
  intro K o hmu hG
  by_cases hK : K = []
  · subst hK
    rw [ord_nil]
    simp
  have hpos : 0 < K.length := List.length_pos_iff.2 hK
  have step : ∀ (f2 : Nat) (K2 o2 : List Mv) (w : Nat), f2 < f → Good x K2 → U.freeIdx K2 = w → w < K2.length → mu K2 ≤ f2 + 1 → ord x (f2 + 1) K2 o2 = ord x f2 (K2.eraseIdx w) (o2 ++ [K2.getD w default]) ∧ mu (K2.eraseIdx w) ≤ f2 ∧ (K2.eraseIdx w).length = K2.length - 1 ∧ spares x (o2 ++ [K2.getD w default]) = spares x o2 := by
    intro f2 K2 o2 w hf2 hG2 hw1 hw hmu2
    have hK2 : K2 ≠ [] := by intro e; subst e; simp at hw
    have hel : (K2.eraseIdx w).length = K2.length - 1 := by rw [List.length_eraseIdx, if_pos hw]
    refine ⟨by simp only [ord, if_neg hK2, hw1, Int.toNat_natCast]; exact if_pos (by omega), ?_, hel, ?_⟩
    · unfold mu at hmu2 ⊢
      rw [if_pos (by rw [hw1]; omega)] at hmu2
      rw [hel]
      split <;> omega
    · have hmem : K2.getD w default ∈ K2 := by rw [List.getD_eq_getElem?_getD, List.getElem?_eq_getElem hw]; exact List.getElem_mem hw
      have := hG2.nx _ hmem
      unfold spares tos
      rw [List.map_append, List.count_append]
      generalize K2.getD w default = m at this
      simp [List.count_cons, this]
  cases f with
  | zero => exfalso; unfold mu at hmu; omega
  | succ f =>
    by_cases hfr : 0 ≤ U.freeIdx K
    · obtain ⟨w, hw1, _, hw3, _⟩ := firstOf_val _ _ _ hfr
      obtain ⟨s1, s2, s3, s4⟩ := step f K o w (by omega) hG hw1 (by omega) hmu
      rw [s1]
      obtain ⟨i1, i2, i3⟩ := ih f (by omega) (K.eraseIdx w) (o ++ [K.getD w default]) s2 (hG.erase w)
      rw [s4] at i1 i2 i3
      rw [s3, List.length_append, List.length_singleton] at i1
      rw [s3] at i3
      exact ⟨by omega, i2, by omega⟩
    · have eo : ord x (f + 1) K o = ord x f (K.map (sub x (U.to K 0))) (o ++ [Mv.mk x (U.to K 0)]) := by
        simp only [ord, if_neg hK, if_neg hfr]
      have hop := opened x K hK hG.nx
      obtain ⟨hr1, hr2⟩ := ring hG.nd hfr
      have hxf : x ∉ frs K := fun h => by
        obtain ⟨m, hm, e⟩ := List.mem_map.1 (hr2 x h)
        exact hG.nx m hm e
      have hy0 : U.to K 0 ∈ frs K := by
        false_or_by_contra
        rename_i h
        exact hfr (firstOf_ge _ _ 0 0 (Nat.le_refl _) (by omega) (free_iff.2 h))
      generalize U.to K 0 = y at eo hop hy0
      have hmu2 : mu (K.map (sub x y)) ≤ f := by
        unfold mu at hmu ⊢
        rw [if_neg hfr] at hmu
        rw [if_pos hop, List.length_map]
        omega
      have hG2 := hG.opened y
      have hsp : spares x (o ++ [Mv.mk x y]) = spares x o + 1 := by
        unfold spares tos
        rw [List.map_append, List.count_append]
        simp
      rw [eo]
      -- the one that goes to y is free now, and alone
      obtain ⟨w, hw1, _, hw3, hw4⟩ := firstOf_val _ _ _ hop
      have hwl : w < (K.map (sub x y)).length := by omega
      cases f with
      | zero => exfalso; unfold mu at hmu2; rw [List.length_map] at hmu2; omega
      | succ f =>
        obtain ⟨s1, s2, s3, s4⟩ := step f (K.map (sub x y)) (o ++ [Mv.mk x y]) w (by omega) hG2 hw1 hwl hmu2
        have hmK : (K.map (sub x y)).getD w default = sub x y (K.getD w default) := by
          rw [List.getD_eq_getElem?_getD, List.getD_eq_getElem?_getD, List.getElem?_map, List.getElem?_eq_getElem (by simpa using hwl)]; rfl
        have hmem : K.getD w default ∈ K := by rw [List.getD_eq_getElem?_getD, List.getElem?_eq_getElem (by simpa using hwl)]; exact List.getElem_mem _
        have hfrs : frs (K.map (sub x y)) = (frs K).map (fun p => if p = y then x else p) := by
          unfold frs
          rw [List.map_map, List.map_map]
          refine List.map_congr_left (fun m _ => ?_)
          show (sub x y m).fr = if m.fr = y then x else m.fr
          unfold sub
          split <;> rfl
        have hwy : (K.getD w default).to = y := by
          have h1 := free_iff.1 hw4
          have h2 : U.to (K.map (sub x y)) w = (K.getD w default).to := by unfold U.to; rw [hmK, sub_to]
          rw [h2, hfrs] at h1
          false_or_by_contra
          rename_i hne
          -- some other one asks for it
          have h3 : (K.getD w default).to ∈ frs K := by
            false_or_by_contra
            rename_i h4
            have hmw : K.getD w default = K.getD w default := rfl
            refine hfr (firstOf_ge _ _ 0 w (Nat.zero_le _) (by simp at hwl; omega) (free_iff.2 h4))
          exact h1 (List.mem_map.2 ⟨_, h3, if_neg hne⟩)
        generalize hm : K.getD w default = m at hmK hmem hwy s1 s4
        -- what it asks for has something that goes to it, which is free next
        have hz1 : m.fr ∈ tos K := hr2 _ (List.mem_map.2 ⟨m, hmem, rfl⟩)
        obtain ⟨m2, hm2, he2⟩ := List.mem_map.1 hz1
        have hzy : m.fr ≠ y := fun e => hG.ne m hmem (by rw [hwy, e])
        have hne12 : m2 ≠ m := fun e => by subst e; exact hG.ne m2 hm2 he2
        have hK3 : (K.map (sub x y)).eraseIdx w = (K.eraseIdx w).map (sub x y) := eraseIdx_map' _ _ _
        have hcons : K.Perm (m :: K.eraseIdx w) := by
          have hwK : w < K.length := by simpa using hwl
          have : m = K[w] := by rw [← hm, List.getD_eq_getElem?_getD, List.getElem?_eq_getElem hwK]; rfl
          rw [this]
          exact perm_erase K w hwK
        have hm2e : m2 ∈ K.eraseIdx w := by
          rcases List.mem_cons.1 (hcons.mem_iff.1 hm2) with h | h
          · exact absurd h hne12
          · exact h
        have hfree3 : 0 ≤ U.freeIdx ((K.map (sub x y)).eraseIdx w) := by
          obtain ⟨j, hj⟩ := List.getElem?_of_mem hm2e
          have hjl := (List.getElem?_eq_some_iff.1 hj).1
          refine firstOf_ge _ _ 0 j (Nat.zero_le _) (by rw [hK3, List.length_map]; omega) (free_iff.2 ?_)
          have h2 : U.to ((K.map (sub x y)).eraseIdx w) j = m2.to := by
            unfold U.to
            rw [hK3, List.getD_eq_getElem?_getD, List.getElem?_map, hj]
            exact sub_to x y m2
          rw [h2, hK3]
          have he2' : m2.to = m.fr := he2
          rw [he2']
          intro h
          obtain ⟨m3, hm3, he3⟩ := List.mem_map.1 h
          obtain ⟨m4, hm4, rfl⟩ := List.mem_map.1 hm3
          have hnd : (frs (m :: K.eraseIdx w)).Nodup := (hcons.map _).nodup_iff.1 hr1
          unfold frs at hnd
          rw [List.map_cons, List.nodup_cons] at hnd
          unfold sub at he3
          by_cases hy : m4.fr = y
          · rw [if_pos hy] at he3
            exact hxf (by rw [show x = m.fr from he3]; exact List.mem_map.2 ⟨m, hmem, rfl⟩)
          · rw [if_neg hy] at he3
            exact hnd.1 (by rw [← he3]; exact List.mem_map.2 ⟨m4, hm4, rfl⟩)
        rw [s1]
        have hG3 := hG2.erase w
        obtain ⟨v, hv1, _, hv3, _⟩ := firstOf_val _ _ _ hfree3
        have hvl : v < ((K.map (sub x y)).eraseIdx w).length := by omega
        cases f with
        | zero =>
          exfalso
          unfold mu at s2
          omega
        | succ f =>
          obtain ⟨u1, u2, u3, u4⟩ := step f ((K.map (sub x y)).eraseIdx w) (o ++ [Mv.mk x y] ++ [(K.map (sub x y)).getD w default]) v (by omega) hG3 hv1 hvl s2
          rw [u1]
          obtain ⟨i1, i2, i3⟩ := ih f (by omega) _ (o ++ [Mv.mk x y] ++ [(K.map (sub x y)).getD w default] ++ [((K.map (sub x y)).eraseIdx w).getD v default]) u2 (hG3.erase v)
          rw [u4] at i1 i2 i3
          have s4' : spares x (o ++ [Mv.mk x y] ++ [(K.map (sub x y)).getD w default]) = spares x (o ++ [Mv.mk x y]) := by rw [hmK]; rw [hmK] at s4; exact s4
          rw [s4', hsp] at i1 i2 i3
          rw [u3, s3, List.length_map] at i1 i3
          simp only [List.length_append, List.length_singleton] at i1
          have h2 : 2 ≤ K.length := by
            have : 0 < (K.eraseIdx w).length := List.length_pos_of_mem hm2e
            rw [List.length_eraseIdx, if_pos (by simpa using hwl)] at this
            omega
          exact ⟨by omega, by omega, by omega⟩
end Go.Proofs.Ythbkemkjkpaoaab.E
