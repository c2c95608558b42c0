/- Functions, by what the evaluator asks; the theorems t.. were printed by show.txt, a program of this session. -/
import Derived.Test.Ythbkemkjkpaoaab17w
set_option linter.unusedVariables false
set_option linter.unusedSimpArgs false
set_option maxRecDepth 100000
namespace Go.Proofs.Ythbkemkjkpaoaab.E
open Go


/-- What the last one of those from j on with this place has. -/
def lastF (A : List Loc) (F : List Int) (p : Loc) : Nat → Nat → Int → Int
  | 0, _, v => v
  | d + 1, j, v => lastF A F p d (j + 1) (if U.lc A j = p then U.nt F j else v)
theorem loop5_34 (l : List Mv) (o : List (List AV)) (i k : Nat) (hi : i < l.length) (A : List Loc) (F : List Int) (hF : F.length = A.length) (hA : A.length < 100000) (hk : k < A.length) : ∀ (d j : Nat) (g : Nat → Int), j + d = A.length → U.lc A k = U.to l i →
    LoopTo Try.prog H (H 5) 0 (loopOf Try.prog 5 34) (mkS 156 [(0, .sl (l.map encM)), (7, .sl o), (9, .os 2 0 (A.map encL).length), (10, .os 3 0 (F.map encI).length), (16, .os 4 0 A.length), (17, goI i), (18, goI k), (19, goI j)] [.dead, .dead, .arr 2 (A.map encL), .arr 1 (F.map encI), .arr 1 (outAt g A.length)])
      (.exit 8, mkS 156 [(0, .sl (l.map encM)), (7, .sl o), (9, .os 2 0 (A.map encL).length), (10, .os 3 0 (F.map encI).length), (16, .os 4 0 A.length), (17, goI i), (18, goI k)] [.dead, .dead, .arr 2 (A.map encL), .arr 1 (F.map encI), .arr 1 (outAt (fun q => if q = k then lastF A F (U.fr l i) d j (g k) else g q) A.length)])
  | 0, j, g, hd, he => by
    refine turnK (t5_34 l o i k j _ _ _ _ _) ?_
    rw [List.length_map, decide_eq_false (by omega)]
    have e : outAt (fun q => if q = k then lastF A F (U.fr l i) 0 j (g k) else g q) A.length = outAt g A.length := outAt_congr (fun q _ => by
      by_cases h : q = k
      · subst h; rw [if_pos rfl]; rfl
      · rw [if_neg h])
    rw [e]
    exact rfl
  | d + 1, j, g, hd, he => by
    have hj : j < A.length := by omega
    have hjF : j < F.length := by omega
    refine turnK (t5_34 l o i k j _ _ _ _ _) ?_
    rw [List.length_map, List.length_map, decide_eq_true (by omega), wrapS hj (by omega), Nat.zero_add, Nat.zero_add, rowL hj, getL hj, rowL hk, getL hk, row13 hi, map13 hi, rowI hjF, getI hjF, outAt_get g hk, outAt_set]
    simp only [rdI, List.getD_cons_zero, List.getD_cons_succ, int_goI, Bool.and_true, Loc.beq]
    rw [decide_eq_true he]
    refine ⟨⟨by omega, by omega, by omega⟩, by trivial, ⟨by omega, by trivial⟩, ⟨by omega, by omega, by omega⟩, by trivial, ⟨by omega, by trivial⟩, ?_⟩
    have el : lastF A F (U.fr l i) (d + 1) j (g k) = lastF A F (U.fr l i) d (j + 1) (if U.lc A j = U.fr l i then U.nt F j else g k) := rfl
    rw [el]
    by_cases h : U.lc A j = U.fr l i
    · have ih := loop5_34 l o i k hi A F hF hA hk d (j + 1) (fun q => if q = k then U.nt F j else g q) (by omega) he
      rw [List.length_map, List.length_map, if_pos rfl] at ih
      have e : outAt (fun q => if q = k then lastF A F (U.fr l i) d (j + 1) (U.nt F j) else if q = k then U.nt F j else g q) A.length = outAt (fun q => if q = k then lastF A F (U.fr l i) d (j + 1) (U.nt F j) else g q) A.length := outAt_congr (fun q _ => by
        by_cases h : q = k
        · rw [if_pos h, if_pos h]
        · rw [if_neg h, if_neg h, if_neg h])
      rw [e] at ih
      rw [decide_eq_true h, if_pos h]
      exact ⟨⟨by omega, by omega, by omega⟩, by trivial, ⟨by omega, by omega, by rw [outAt_len]; exact hk⟩, by trivial, ih⟩
    · have ih := loop5_34 l o i k hi A F hF hA hk d (j + 1) g (by omega) he
      rw [List.length_map, List.length_map] at ih
      rw [decide_eq_false h, if_neg h]
      exact ih
theorem loop5_34no (l : List Mv) (o : List (List AV)) (i k : Nat) (hi : i < l.length) (A : List Loc) (F : List Int) (hA : A.length < 100000) (hk : k < A.length) (W : List (List AV)) (he : ¬ U.lc A k = U.to l i) :
    LoopTo Try.prog H (H 5) 0 (loopOf Try.prog 5 34) (mkS 156 [(0, .sl (l.map encM)), (7, .sl o), (9, .os 2 0 (A.map encL).length), (10, .os 3 0 (F.map encI).length), (16, .os 4 0 A.length), (17, goI i), (18, goI k), (19, goI ((0 : Nat) : Int))] [.dead, .dead, .arr 2 (A.map encL), .arr 1 (F.map encI), .arr 1 W])
      (.exit 8, mkS 156 [(0, .sl (l.map encM)), (7, .sl o), (9, .os 2 0 (A.map encL).length), (10, .os 3 0 (F.map encI).length), (16, .os 4 0 A.length), (17, goI i), (18, goI k)] [.dead, .dead, .arr 2 (A.map encL), .arr 1 (F.map encI), .arr 1 W]) := by
  refine turnK (t5_34 l o i k 0 _ _ _ _ _) ?_
  rw [List.length_map, decide_eq_true (by omega), Nat.zero_add, rowL hk, getL hk, row13 hi, map13 hi]
  simp only [rdI, List.getD_cons_zero, List.getD_cons_succ, int_goI, Bool.and_true, Loc.beq]
  rw [decide_eq_false he]
  exact ⟨⟨by omega, by omega, by omega⟩, by trivial, ⟨by omega, by trivial⟩, True.intro⟩
theorem lc_inj {A : List Loc} (hn : A.Nodup) {i j : Nat} (hi : i < A.length) (hj : j < A.length) (h : U.lc A i = U.lc A j) : i = j := by
  unfold U.lc at h
  rw [List.getD_eq_getElem?_getD, List.getD_eq_getElem?_getD, List.getElem?_eq_getElem hi, List.getElem?_eq_getElem hj] at h
  unfold List.Nodup at hn
  rw [List.pairwise_iff_getElem] at hn
  rcases Nat.lt_trichotomy i j with h1 | h1 | h1
  · exact absurd h (hn i j hi hj h1)
  · exact h1
  · exact absurd h.symm (hn j i hj hi h1)
theorem idx_lc {A : List Loc} (hn : A.Nodup) {i : Nat} (hi : i < A.length) : U.idx A (U.lc A i) = i := by
  have h0 : 0 ≤ U.idx A (U.lc A i) := firstOf_ge _ _ 0 i (Nat.zero_le _) (by omega) (decide_eq_true rfl)
  obtain ⟨w, h1, h2, h3⟩ := idx_spec h0
  rw [h1, lc_inj hn h2 hi h3]
theorem ini_lc {A : List Loc} {F : List Int} (hn : A.Nodup) {i : Nat} (hi : i < A.length) : U.ini A F (U.lc A i) = U.nt F i := by
  unfold U.ini U.iniFrom
  have h := idx_lc hn hi
  unfold U.idx at h
  rw [Nat.sub_zero, h, if_pos (by omega), Int.toNat_natCast]
theorem lastF_none {A : List Loc} {F : List Int} {p : Loc} : ∀ (d j : Nat) (v : Int), (∀ q, j ≤ q → q < j + d → U.lc A q ≠ p) → lastF A F p d j v = v
  | 0, _, _, _ => rfl
  | d + 1, j, v, h => by
    have e : lastF A F p (d + 1) j v = lastF A F p d (j + 1) (if U.lc A j = p then U.nt F j else v) := rfl
    rw [e, if_neg (h j (Nat.le_refl _) (by omega))]
    exact lastF_none d (j + 1) v (fun q h1 h2 => h q (by omega) (by omega))
theorem lastF_one {A : List Loc} {F : List Int} {p : Loc} (hn : A.Nodup) {w : Nat} (hw : w < A.length) (hp : U.lc A w = p) : ∀ (d j : Nat) (v : Int), j + d = A.length → j ≤ w → lastF A F p d j v = U.nt F w
  | 0, j, v, hd, hj => by omega
  | d + 1, j, v, hd, hj => by
    have e : lastF A F p (d + 1) j v = lastF A F p d (j + 1) (if U.lc A j = p then U.nt F j else v) := rfl
    rw [e]
    by_cases h : j = w
    · subst h
      rw [if_pos hp]
      exact lastF_none d (j + 1) _ (fun q h1 h2 h3 => by have := lc_inj hn (by omega) hw (h3.trans hp.symm); omega)
    · rw [if_neg (fun h2 => h (lc_inj hn (by omega) hw (h2.trans hp.symm)))]
      exact lastF_one hn hw hp d (j + 1) v (by omega) (by omega)
theorem loop5_31 (l : List Mv) (o : List (List AV)) (i : Nat) (hi : i < l.length) (A : List Loc) (F : List Int) (hF : F.length = A.length) (hA : A.length < 100000) (hn : A.Nodup) (hfr : U.fr l i ∈ A) : ∀ (d k : Nat) (g : Nat → Int), k + d = A.length →
    LoopTo Try.prog H (H 5) 0 (loopOf Try.prog 5 31) (mkS 156 [(0, .sl (l.map encM)), (7, .sl o), (9, .os 2 0 (A.map encL).length), (10, .os 3 0 (F.map encI).length), (16, .os 4 0 A.length), (17, goI i), (18, goI k)] [.dead, .dead, .arr 2 (A.map encL), .arr 1 (F.map encI), .arr 1 (outAt g A.length)])
      (.exit 6, mkS 156 [(0, .sl (l.map encM)), (7, .sl o), (9, .os 2 0 (A.map encL).length), (10, .os 3 0 (F.map encI).length), (16, .os 4 0 A.length), (17, goI i)] [.dead, .dead, .arr 2 (A.map encL), .arr 1 (F.map encI), .arr 1 (outAt (fun q => if k ≤ q ∧ U.lc A q = U.to l i then U.ini A F (U.fr l i) else g q) A.length)])
  | 0, k, g, hd => by
    refine turnK (t5_31 l o i k _ _ _ _ [] _) ?_
    rw [List.length_map, decide_eq_false (by omega)]
    have e : outAt (fun q => if k ≤ q ∧ U.lc A q = U.to l i then U.ini A F (U.fr l i) else g q) A.length = outAt g A.length := outAt_congr (fun q hq => if_neg (fun h => by omega))
    rw [e]
    exact rfl
  | d + 1, k, g, hd => by
    have hk : k < A.length := by omega
    have ih := fun g => loop5_31 l o i hi A F hF hA hn hfr d (k + 1) g (by omega)
    obtain ⟨w, hw⟩ := List.getElem?_of_mem hfr
    have hwl := (List.getElem?_eq_some_iff.1 hw).1
    have hwp : U.lc A w = U.fr l i := by unfold U.lc; rw [List.getD_eq_getElem?_getD, hw]; rfl
    by_cases he : U.lc A k = U.to l i
    · have h34 := loop5_34 l o i k hi A F hF hA hk A.length 0 g (by omega) he
      rw [lastF_one hn hwl hwp A.length 0 (g k) (by omega) (Nat.zero_le _)] at h34
      have hini : U.ini A F (U.fr l i) = U.nt F w := by rw [← hwp]; exact ini_lc hn hwl
      refine turnK (t5_31 l o i k _ _ _ _ (outAt (fun q => if q = k then U.nt F w else g q) A.length) _) ?_
      have hlen : ((A.map encL).length : Int) = A.length := by rw [List.length_map]
      rw [decide_eq_true (by omega), wrapS hk (by omega)]
      refine ⟨h34, ?_⟩
      have h1 := ih (fun q => if q = k then U.nt F w else g q)
      have e : outAt (fun q => if k + 1 ≤ q ∧ U.lc A q = U.to l i then U.ini A F (U.fr l i) else if q = k then U.nt F w else g q) A.length = outAt (fun q => if k ≤ q ∧ U.lc A q = U.to l i then U.ini A F (U.fr l i) else g q) A.length := outAt_congr (fun q hq => by
        by_cases hqk : q = k
        · subst hqk
          rw [if_neg (fun h => by omega), if_pos rfl, if_pos ⟨Nat.le_refl _, he⟩, hini]
        · by_cases h2 : k ≤ q ∧ U.lc A q = U.to l i
          · rw [if_pos ⟨by omega, h2.2⟩, if_pos h2]
          · rw [if_neg (fun h => h2 ⟨by omega, h.2⟩), if_neg hqk, if_neg h2])
      rw [e] at h1
      exact h1
    · have h34 := loop5_34no l o i k hi A F hA hk (outAt g A.length) he
      refine turnK (t5_31 l o i k _ _ _ _ (outAt g A.length) _) ?_
      have hlen : ((A.map encL).length : Int) = A.length := by rw [List.length_map]
      rw [decide_eq_true (by omega), wrapS hk (by omega)]
      refine ⟨h34, ?_⟩
      have h1 := ih g
      have e : outAt (fun q => if k + 1 ≤ q ∧ U.lc A q = U.to l i then U.ini A F (U.fr l i) else g q) A.length = outAt (fun q => if k ≤ q ∧ U.lc A q = U.to l i then U.ini A F (U.fr l i) else g q) A.length := outAt_congr (fun q hq => by
        by_cases h2 : k ≤ q ∧ U.lc A q = U.to l i
        · have : q ≠ k := fun e => he (by rw [← e]; exact h2.2)
          rw [if_pos ⟨by omega, h2.2⟩, if_pos h2]
        · rw [if_neg (fun h => h2 ⟨by omega, h.2⟩), if_neg h2])
      rw [e] at h1
      exact h1
/-- All at once. -/
def once (S : Loc → Int) (T : Loc → Int) (m : Mv) : Loc → Int := fun p => if p = m.to then S m.fr else T p
theorem loop5_28 (l : List Mv) (o : List (List AV)) (A : List Loc) (F : List Int) (hF : F.length = A.length) (hA : A.length < 100000) (hn : A.Nodup) (hfr : ∀ m ∈ l, m.fr ∈ A) (hl : l.length < 100000) : ∀ (d i : Nat) (T : Loc → Int), i + d = l.length →
    LoopTo Try.prog H (H 5) 0 (loopOf Try.prog 5 28) (mkS 156 [(0, .sl (l.map encM)), (7, .sl o), (9, .os 2 0 (A.map encL).length), (10, .os 3 0 (F.map encI).length), (16, .os 4 0 A.length), (17, goI i)] [.dead, .dead, .arr 2 (A.map encL), .arr 1 (F.map encI), .arr 1 (outAt (fun q => T (U.lc A q)) A.length)])
      (.exit 4, mkS 156 [(0, .sl (l.map encM)), (7, .sl o), (9, .os 2 0 (A.map encL).length), (10, .os 3 0 (F.map encI).length), (16, .os 4 0 A.length)] [.dead, .dead, .arr 2 (A.map encL), .arr 1 (F.map encI), .arr 1 (outAt (fun q => (l.drop i).foldl (once (U.ini A F)) T (U.lc A q)) A.length)])
  | 0, i, T, hd => by
    refine turnK (t5_28 l o i _ _ _ _ [] _) ?_
    rw [List.length_map, decide_eq_false (by omega), List.drop_eq_nil_of_le (by omega)]
    exact rfl
  | d + 1, i, T, hd => by
    have hi : i < l.length := by omega
    have hmem : l.getD i default ∈ l := by rw [List.getD_eq_getElem?_getD, List.getElem?_eq_getElem hi]; exact List.getElem_mem hi
    have h31 := loop5_31 l o i hi A F hF hA hn (hfr _ hmem) A.length 0 (fun q => T (U.lc A q)) (by omega)
    have ih := loop5_28 l o A F hF hA hn hfr hl d (i + 1) (once (U.ini A F) T (l.getD i default)) (by omega)
    have e : outAt (fun q => if 0 ≤ q ∧ U.lc A q = U.to l i then U.ini A F (U.fr l i) else T (U.lc A q)) A.length = outAt (fun q => once (U.ini A F) T (l.getD i default) (U.lc A q)) A.length := outAt_congr (fun q hq => by
      unfold once U.to U.fr
      by_cases h : U.lc A q = (l.getD i default).to
      · rw [if_pos ⟨Nat.zero_le _, h⟩, if_pos h]
      · rw [if_neg (fun h2 => h h2.2), if_neg h])
    rw [e] at h31
    refine turnK (t5_28 l o i _ _ _ _ (outAt (fun q => once (U.ini A F) T (l.getD i default) (U.lc A q)) A.length) _) ?_
    have hlen : ((l.map encM).length : Int) = l.length := by rw [List.length_map]
    rw [decide_eq_true (by omega), wrapS hi (by omega), drop_cons l hi, List.foldl_cons]
    exact ⟨h31, ih⟩
theorem once_end {S : Loc → Int} : ∀ (l : List Mv) (T : Loc → Int), (tos l).Nodup → ∀ p, l.foldl (once S) T p = match l.find? (fun m => decide (m.to = p)) with | some m => S m.fr | none => T p
  | [], T, _, p => rfl
  | m :: l, T, hn, p => by
    unfold tos at hn
    rw [List.map_cons, List.nodup_cons] at hn
    rw [List.foldl_cons, once_end l _ hn.2 p]
    by_cases h : m.to = p
    · subst h
      rw [List.find?_cons_of_pos (by simp)]
      have : l.find? (fun m' => decide (m'.to = m.to)) = none := by
        rw [List.find?_eq_none]
        intro m' hm'
        simp only [decide_eq_true_eq]
        exact fun e => hn.1 (List.mem_map.2 ⟨m', hm', e⟩)
      rw [this]
      exact if_pos rfl
    · rw [List.find?_cons_of_neg (by simpa using h)]
      cases l.find? (fun m => decide (m.to = p)) with
      | some m' => rfl
      | none => exact if_neg (fun e => h e.symm)
theorem end_moved {S : Loc → Int} {l : List Mv} (hn : (tos l).Nodup) (p : Loc) : endS S (moved l) p = endS S l p := by
  have hn2 : (tos (moved l)).Nodup := by unfold tos moved at *; exact hn.sublist (List.filter_sublist.map _)
  by_cases h : p ∈ tos l
  · obtain ⟨m, hm, rfl⟩ := List.mem_map.1 h
    rw [endS_mem hn hm]
    by_cases hs : m.to = m.fr
    · have : m.to ∉ tos (moved l) := fun h2 => by
        obtain ⟨m2, hm2, he⟩ := List.mem_map.1 h2
        have hm3 := (List.mem_filter.1 hm2).1
        have e1 := endS_mem (S := fun q => if q = m2.fr then 1 else 0) hn hm3
        have e2 := endS_mem (S := fun q => if q = m2.fr then 1 else 0) hn hm
        rw [show m2.to = m.to from he, e2] at e1
        simp only [if_true] at e1
        have h5 : m.fr = m2.fr := by
          false_or_by_contra
          rename_i h6
          rw [if_neg h6] at e1
          cases e1
        exact moved_ne l m2 hm2 (by rw [show m2.to = m.to from he, hs, h5])
      rw [endS_not this, hs]
    · exact endS_mem hn2 (List.mem_filter.2 ⟨hm, by simp [sameP, hs]⟩)
  · rw [endS_not h, endS_not (fun h2 => h (by
      obtain ⟨m2, hm2, he⟩ := List.mem_map.1 h2
      exact List.mem_map.2 ⟨m2, (List.mem_filter.1 hm2).1, he⟩))]
theorem wf5 (l : List Mv) (x : Loc) (hs : List Int) (hw : ∀ m ∈ l, m.ok) (hx : x.ok) : Wf Try.prog H 5 [.sl (l.map encM), .agg (encL x), .sl (hs.map encI)] [] = some (goB true, [], []) := by
  by_cases hl : 40 < l.length
  · refine runK (t5 l x hs true 0 0 0 [] [] [] [] [] _) ⟨wf8, ?_⟩
    rw [List.length_map, decide_eq_true (by omega)]; exact rfl
  cases hr : refused l x with
  | true =>
    refine runK (t5 l x hs true 0 0 0 [] [] [] [] [] _) ⟨wf8, ?_⟩
    rw [List.length_map, decide_eq_false (by omega)]
    exact ⟨wf9_no l x (by omega) hw hr, rfl⟩
  | false =>
    obtain ⟨h1, h2⟩ := ordered_len hr
    have hml : (moved l).length ≤ l.length := List.length_filter_le _ _
    obtain ⟨A, F, g1, g2, g3, g4, g5, h11⟩ := loop5_11 l hs ((ordered l x).map encM) x (by omega) (2 * l.length) 0 [] [] (by omega) (Nat.le_refl _) rfl List.nodup_nil (fun j hj => by omega) (fun p hp => by cases hp)
    have hfr : ∀ m ∈ l, m.fr ∈ A := fun m hm => by
      obtain ⟨j, hj⟩ := List.getElem?_of_mem hm
      have hjl := (List.getElem?_eq_some_iff.1 hj).1
      have h := g4 (2 * j + 1) (by omega)
      unfold U.spot at h
      rw [if_pos (by omega), show (2 * j + 1) / 2 = j from by omega] at h
      unfold U.fr at h
      rw [List.getD_eq_getElem?_getD, hj] at h
      exact h
    have hspot : ∀ j, j < 2 * l.length → (U.spot l j).ok ∧ U.spot l j ≠ x := fun j hj => by
      have hq : j / 2 < l.length := by omega
      have hok := to_ok hw hq
      have ht : ∀ j, j < l.length → U.to l j ≠ x ∧ U.fr l j ≠ x := fun j hj => by
        unfold refused at hr
        simp only [Bool.or_eq_false_iff] at hr
        have h2 : allFrom (fun j => !(touchP x (l.getD j default))) 0 l.length = true := by
          have := hr.2.2; unfold touched at this; simpa using this
        have h3 := allFrom_iff.1 h2 j (Nat.zero_le _) hj
        unfold touchP at h3
        simp only [Bool.not_eq_true', decide_eq_false_iff_not, not_or] at h3
        exact h3
      unfold U.spot
      split
      · exact ⟨hok.2, (ht _ hq).2⟩
      · exact ⟨hok.1, (ht _ hq).1⟩
    have hAok : ∀ p ∈ A, p.ok := fun p hp => by
      obtain ⟨j, hj, rfl⟩ := g5 p hp
      exact (hspot j hj).1
    have hAx : ∀ p ∈ A, p ≠ x := fun p hp => by
      obtain ⟨j, hj, rfl⟩ := g5 p hp
      exact (hspot j hj).2
    have hrt : U.right l 0 = true := by
      unfold refused at hr
      simp only [Bool.or_eq_false_iff, Bool.not_eq_false'] at hr
      exact hr.1
    have hnd := tos_nodup hrt
    have h28 := loop5_28 l ((ordered l x).map encM) A F g1 (by omega) g3 hfr (by omega) l.length 0 (U.ini A F) (by omega)
    have how : ∀ m ∈ ordered l x, m.ok := fun m hm => by
      have gen : ∀ (f : Nat) (K o : List Mv), (∀ m ∈ K, m.ok) → (∀ m ∈ o, m.ok) → ∀ m ∈ ord x f K o, m.ok := by
        intro f
        induction f with
        | zero => intro K o _ ho; exact ho
        | succ f ih =>
          intro K o hK ho
          simp only [ord]
          split
          · exact ho
          · rename_i hKe
            have hpos : 0 < K.length := List.length_pos_iff.2 hKe
            split
            · rename_i hfr
              obtain ⟨w, hw1, _, hw3, _⟩ := firstOf_val _ _ _ hfr
              have hw1' : U.freeIdx K = w := hw1
              refine ih _ _ (fun m hm => hK m (List.mem_of_mem_eraseIdx hm)) (fun m hm => ?_)
              rcases List.mem_append.1 hm with hm | hm
              · exact ho m hm
              · simp only [List.mem_singleton] at hm
                subst hm
                rw [hw1', Int.toNat_natCast]
                refine hK _ ?_
                rw [List.getD_eq_getElem?_getD, List.getElem?_eq_getElem (show w < K.length by omega)]
                exact List.getElem_mem _
            · have hK0 := (to_ok hK hpos).1
              refine ih _ _ (fun m hm => ?_) (fun m hm => ?_)
              · obtain ⟨m0, h0, rfl⟩ := List.mem_map.1 hm
                have := hK m0 h0
                refine ⟨by rw [sub_to]; exact this.1, ?_⟩
                unfold sub; split
                · exact hx
                · exact this.2
              · rcases List.mem_append.1 hm with hm | hm
                · exact ho m hm
                · simp only [List.mem_singleton] at hm
                  subst hm
                  exact ⟨hx, hK0⟩
      exact gen _ _ _ (fun m hm => hw m (List.mem_filter.1 hm).1) (fun m hm => by cases hm) m hm
    have h15 := wf15 (ordered l x) A F how hAok (by omega) (by omega) (by omega)
    -- what is played is what is wanted
    have hwant : outAt (fun q => (l.drop 0).foldl (once (U.ini A F)) (U.ini A F) (U.lc A q)) A.length = (U.play (ordered l x) A F).map encI := by
      unfold U.play
      rw [List.map_map]
      refine List.map_congr_left (fun j hj => ?_)
      have hj := List.mem_range.1 hj
      show [goI _] = [goI (U.outG (U.fin (ordered l x) A F) A F A.length j)]
      congr 2
      unfold U.outG
      show (l.drop 0).foldl (once (U.ini A F)) (U.ini A F) (U.lc A j) = _
      rw [if_pos ⟨hj, idx_lc g3 hj⟩, List.drop_zero, once_end l _ hnd]
      have hmem : U.lc A j ∈ A := by unfold U.lc; rw [List.getD_eq_getElem?_getD, List.getElem?_eq_getElem hj]; exact List.getElem_mem hj
      have h3 := ord_end x (mu (moved l)) (moved l) [] (U.ini A F) (Nat.le_refl _) (good_moved hr) (U.lc A j) (hAx _ hmem)
      unfold U.fin ordered
      rw [h3]
      exact (end_moved hnd (U.lc A j)).symm
    rw [hwant] at h28
    have hpl : (U.play (ordered l x) A F).length = A.length := by simp [U.play]
    have e1 : List.take A.length (List.drop 0 ((U.play (ordered l x) A F).map encI)) = (U.play (ordered l x) A F).map encI := by
      rw [List.drop_zero]; exact List.take_of_length_le (by rw [List.length_map, hpl]; omega)
    have h14 := wf14 (U.play (ordered l x) A F) (U.play (ordered l x) A F) (by omega)
    rw [intsSame] at h14
    have hini0 : F.map encI = outAt (fun q => U.ini A F (U.lc A q)) A.length := by
      apply List.ext_getElem?
      intro j
      by_cases hj : j < A.length
      · rw [outAt_get _ hj, getI (by omega), ini_lc g3 hj]
      · rw [List.getElem?_eq_none (by simp; omega), List.getElem?_eq_none (by rw [outAt_len]; omega)]
    refine runK (t5 l x hs false ((ordered l x).map encM).length A.length A.length ((ordered l x).map encM) ((U.play (ordered l x) A F).map encI) (A.map encL) (F.map encI) ((U.play (ordered l x) A F).map encI) _) ⟨wf8, ?_⟩
    have hl40 : decide (((l.map encM).length : Int) > 40) = false := by rw [List.length_map]; exact decide_eq_false (by omega)
    have hle : decide (((List.take ((ordered l x).map encM).length (List.drop 0 ((ordered l x).map encM))).length : Int) ≤ IntKind.i64.wrap (2 * ((l.map encM).length : Int))) = true := by
      rw [take_all, List.length_map, List.length_map]
      have : IntKind.i64.wrap (2 * (l.length : Int)) = 2 * (l.length : Int) := by rw [wrap64] <;> omega
      rw [this]
      exact decide_eq_true (by omega)
    rw [hl40, hle]
    simp only [take_all, e1]
    have hFl : (F.map encI).length = A.length := by rw [List.length_map, g1]
    refine ⟨wf9_ok l x (by omega) hw hx hr, h11, by simp [rowsOk, encI], ⟨by trivial, by simp; omega⟩, ?_, h15, ?_, h14, by trivial⟩
    · rw [Nat.zero_add, List.nil_append, hFl]
      have h28' := h28
      rw [hFl, ← hini0] at h28'
      exact h28'
    · simp [List.all_eq_true, encI, scalarA, goI]
end Go.Proofs.Ythbkemkjkpaoaab.E
