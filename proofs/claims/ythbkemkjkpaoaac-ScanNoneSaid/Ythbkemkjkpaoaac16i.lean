/- What is kept along the line: who has a register, and what the locations tell. -/
import Derived.Test.Ythbkemkjkpaoaac16h
set_option linter.unusedVariables false
set_option linter.unusedSimpArgs false
namespace Go.Proofs.Ythbkemkjkpaoaac.E
open Go
theorem right_at {l : List Span} (h : U.right l = true) {i : Nat} (hi : i < l.length) : U.rightAt l i = true := by
  unfold U.right at h
  rw [Bool.and_eq_true] at h
  exact allFrom_iff.1 h.2 i (Nat.zero_le _) hi
theorem right_ok {l : List Span} (h : U.right l = true) {i : Nat} (hi : i < l.length) : 0 ≤ (U.sp l i).fr ∧ (U.sp l i).fr ≤ (U.sp l i).to ∧ (U.sp l i).to ≤ 1099511627776 := by
  have := right_at h hi
  unfold U.rightAt U.okAt at this
  simp only [Bool.and_eq_true, decide_eq_true_eq] at this
  exact this.1
theorem right_rise {l : List Span} (h : U.right l = true) {i : Nat} (hi : i + 1 < l.length) : (U.sp l i).fr ≤ (U.sp l (i + 1)).fr := by
  have := right_at h hi
  unfold U.rightAt U.riseAt U.rise at this
  simp only [Bool.and_eq_true, Bool.or_eq_true, decide_eq_true_eq, beq_iff_eq, Nat.add_sub_cancel] at this
  omega
theorem right_mono {l : List Span} (h : U.right l = true) : ∀ (d i : Nat), i + d < l.length → (U.sp l i).fr ≤ (U.sp l (i + d)).fr
  | 0, i, _ => Int.le_refl _
  | d + 1, i, hd => Int.le_trans (right_mono h d i (by omega)) (right_rise h (by omega))
theorem right_le {l : List Span} (h : U.right l = true) {i j : Nat} (hij : i ≤ j) (hj : j < l.length) : (U.sp l i).fr ≤ (U.sp l j).fr := by
  have := right_mono h (j - i) i (by omega)
  rwa [show i + (j - i) = j from by omega] at this
theorem lc_set (hs : List Loc) {i : Nat} (j : Nat) (v : Loc) (h : i < hs.length) : U.lc (hs.set i v) j = if j = i then v else U.lc hs j := getD_set hs i j v h
theorem nt_set' (rs : List Int) {i : Nat} (j : Nat) (v : Int) (h : i < rs.length) : U.nt (rs.set i v) j = if j = i then v else U.nt rs j := getD_set rs i j v h
/-- What holds ahead of the i-th one. -/
structure Ahead (l : List Span) (n i : Nat) (hs : List Loc) (rs : List Int) : Prop where
  len : hs.length = l.length
  rlen : rs.length = n
  has : ∀ r : Nat, r < n → U.nt rs r = -1 ∨ ∃ k : Nat, U.nt rs r = k ∧ k < i ∧ U.lc hs k = ⟨1, r⟩
  reg : ∀ k : Nat, k < i → (U.lc hs k).k = 1 → (U.sp l k).call = false ∧ ∃ r : Nat, r < n ∧ U.lc hs k = ⟨1, r⟩ ∧ (U.nt rs r = k ∨ ∀ j, i ≤ j → j < l.length → (U.sp l k).to < (U.sp l j).fr)
  more : ∀ k : Nat, i ≤ k → k < l.length → U.lc hs k = ⟨0, 0⟩
  kind : ∀ k : Nat, k < i → (U.lc hs k).k = 1 ∨ ∃ m : Nat, U.lc hs k = ⟨2, m⟩ ∧ m < l.length
/-- And when the ended ones are away. -/
structure Mid (l : List Span) (n i : Nat) (hs : List Loc) (rs : List Int) : Prop where
  len : hs.length = l.length
  rlen : rs.length = n
  has : ∀ r : Nat, r < n → U.nt rs r = -1 ∨ ∃ k : Nat, U.nt rs r = k ∧ k < i ∧ U.lc hs k = ⟨1, r⟩ ∧ (U.sp l i).fr ≤ (U.sp l k).to
  reg : ∀ k : Nat, k < i → (U.lc hs k).k = 1 → (U.sp l k).call = false ∧ ∃ r : Nat, r < n ∧ U.lc hs k = ⟨1, r⟩ ∧ (U.nt rs r = k ∨ ∀ j, i ≤ j → j < l.length → (U.sp l k).to < (U.sp l j).fr)
  more : ∀ k : Nat, i ≤ k → k < l.length → U.lc hs k = ⟨0, 0⟩
  kind : ∀ k : Nat, k < i → (U.lc hs k).k = 1 ∨ ∃ m : Nat, U.lc hs k = ⟨2, m⟩ ∧ m < l.length
theorem nt_expire (l : List Span) (p : Int) (rs : List Int) {r : Nat} (h : r < rs.length) : U.nt (U.expire l p rs) r = U.expire1 l p (U.nt rs r) := by
  unfold U.nt U.expire
  rw [List.getD_eq_getElem?_getD, List.getD_eq_getElem?_getD, List.getElem?_map, List.getElem?_eq_getElem h]; rfl
theorem mid_of {l : List Span} {n i : Nat} {hs : List Loc} {rs : List Int} (hR : U.right l = true) (hi : i < l.length) (h : Ahead l n i hs rs) : Mid l n i hs (U.expire l (U.sp l i).fr rs) where
  len := h.len
  rlen := (expire_len _ _ _).trans h.rlen
  has := fun r hr => by
    rw [nt_expire _ _ _ (by rw [h.rlen]; exact hr)]
    rcases h.has r hr with h1 | ⟨k, h1, h2, h3⟩
    · left; rw [h1]; rfl
    · rw [h1]
      unfold U.expire1
      rw [Int.toNat_natCast]
      by_cases h4 : (U.sp l k).to < (U.sp l i).fr
      · left; rw [if_pos ⟨by omega, h4⟩]
      · right; rw [if_neg (fun q => h4 q.2)]; exact ⟨k, rfl, h2, h3, by omega⟩
  reg := fun k hk hk1 => by
    obtain ⟨h0, r, hr, h1, h2⟩ := h.reg k hk hk1
    refine ⟨h0, r, hr, h1, ?_⟩
    rcases h2 with h2 | h2
    · rw [nt_expire _ _ _ (by rw [h.rlen]; exact hr), h2]
      unfold U.expire1
      rw [Int.toNat_natCast]
      by_cases h4 : (U.sp l k).to < (U.sp l i).fr
      · right
        intro j hj1 hj2
        have := right_le hR hj1 hj2
        omega
      · left; rw [if_neg (fun q => h4 q.2)]
    · exact .inr h2
  more := h.more
  kind := h.kind
theorem who_of {l : List Span} {n i : Nat} {hs : List Loc} {rs : List Int} (hi : i < l.length) (h : Mid l n i hs rs) : WhoAt l hs rs i := fun r hr => by
  rw [h.rlen] at hr
  constructor
  · rcases h.has r hr with h1 | ⟨k, h1, h2, _⟩
    · exact .inl h1
    · right; rw [h1]; omega
  · intro k hk
    constructor
    · rintro ⟨h1, h2⟩
      obtain ⟨_, r', hr', h3, h4⟩ := h.reg k hk (by rw [h1])
      rw [h1] at h3
      have e : r = r' := by
        have := congrArg Loc.n h3
        simp at this
        omega
      subst e
      rcases h4 with h4 | h4
      · exact h4
      · have := h4 i (Nat.le_refl _) hi
        omega
    · intro h1
      rcases h.has r hr with h2 | ⟨k', h2, _, h3, h4⟩
      · omega
      · have e : k = k' := by omega
        subst e
        exact ⟨h3, h4⟩
/-- How many slots are had. -/
def nSlots (hs : List Loc) : Nat := (hs.filter fun x => x.k == 2).length
theorem slotOf_le (l : List Span) (hs : List Loc) (i : Nat) : U.slotOf l hs i ≤ nSlots hs := by
  obtain ⟨s1, s2, s3⟩ := slotOf_spec l hs i
  have hcov := len_of_cover (a := (List.range (U.slotOf l hs i)).map fun n : Nat => (⟨2, n⟩ : Loc)) (b := hs.filter fun x => x.k == 2) (by
    unfold List.Nodup
    rw [List.pairwise_map]
    refine List.Pairwise.imp ?_ (List.nodup_range (n := U.slotOf l hs i))
    intro a b hab e
    apply hab
    have := congrArg Loc.n e
    simp at this
    omega) (fun x hx => by
    obtain ⟨m, hnm, rfl⟩ := List.mem_map.1 hx
    have hlt := List.mem_range.1 hnm
    obtain ⟨k, hk, h1, _⟩ := taken_iff.1 (s3 m hlt)
    rw [← h1, List.mem_filter]
    exact ⟨getD_mem hk, by rw [h1]; rfl⟩)
  rw [List.length_map, List.length_range] at hcov
  exact hcov
theorem nSlots_lt {hs : List Loc} {i : Nat} (hi : i < hs.length) (h : (U.lc hs i).k ≠ 2) : nSlots hs < hs.length := by
  unfold nSlots
  refine Nat.lt_of_le_of_ne (List.length_filter_le _ _) (fun e => ?_)
  have := List.length_filter_eq_length_iff.1 e (U.lc hs i) (getD_mem hi)
  exact h (by simpa using this)
theorem slot_lt {l : List Span} {hs : List Loc} {i : Nat} (hi : i < hs.length) (h : (U.lc hs i).k ≠ 2) (j : Nat) : U.slotOf l hs j < hs.length := Nat.lt_of_le_of_lt (slotOf_le l hs j) (nSlots_lt hi h)
/-- A span that goes to a slot. -/
theorem inv_slot {l : List Span} {n i : Nat} {hs : List Loc} {rs : List Int} (hi : i < l.length) (h : Mid l n i hs rs) : Ahead l n (i + 1) (hs.set i ⟨2, U.slotOf l hs i⟩) rs := by
  have hih : i < hs.length := by rw [h.len]; exact hi
  have h0 := h.more i (Nat.le_refl _) hi
  have hlt : U.slotOf l hs i < l.length := h.len ▸ slot_lt hih (by rw [h0]; decide) i
  refine ⟨by rw [List.length_set]; exact h.len, h.rlen, fun r hr => ?_, fun k hk hk1 => ?_, fun k hk hkl => ?_, fun k hk => ?_⟩
  · rcases h.has r hr with h1 | ⟨k, h1, h2, h3, _⟩
    · exact .inl h1
    · exact .inr ⟨k, h1, by omega, by rw [lc_set _ _ _ hih, if_neg (by omega)]; exact h3⟩
  · rw [lc_set _ _ _ hih] at hk1 ⊢
    by_cases e : k = i
    · rw [if_pos e] at hk1; exact absurd hk1 (show ¬ (2 : Int) = 1 by decide)
    · rw [if_neg e] at hk1 ⊢
      obtain ⟨hc, r, hr, h1, h2⟩ := h.reg k (by omega) hk1
      exact ⟨hc, r, hr, h1, h2.imp id (fun h2 j hj hjl => h2 j (by omega) hjl)⟩
  · rw [lc_set _ _ _ hih, if_neg (by omega)]
    exact h.more k (by omega) hkl
  · rw [lc_set _ _ _ hih]
    by_cases e : k = i
    · rw [if_pos e]; exact .inr ⟨_, rfl, hlt⟩
    · rw [if_neg e]; exact h.kind k (by omega)
/-- One that gets a free register. -/
theorem inv_free {l : List Span} {n i : Nat} {hs : List Loc} {rs : List Int} (hi : i < l.length) (h : Mid l n i hs rs) (hc : (U.sp l i).call = false) (w : Nat) (hw : w < n) (hf : U.nt rs w = -1) : Ahead l n (i + 1) (hs.set i ⟨1, w⟩) (rs.set w i) := by
  have hih : i < hs.length := by rw [h.len]; exact hi
  have hwr : w < rs.length := by rw [h.rlen]; exact hw
  refine ⟨by rw [List.length_set]; exact h.len, by rw [List.length_set]; exact h.rlen, fun r hr => ?_, fun k hk hk1 => ?_, fun k hk hkl => ?_, fun k hk => ?_⟩
  · rw [nt_set' _ _ _ hwr]
    by_cases e : r = w
    · subst e; rw [if_pos rfl]; exact .inr ⟨i, rfl, by omega, by rw [lc_set _ _ _ hih, if_pos rfl]⟩
    · rw [if_neg e]
      rcases h.has r hr with h1 | ⟨k, h1, h2, h3, _⟩
      · exact .inl h1
      · exact .inr ⟨k, h1, by omega, by rw [lc_set _ _ _ hih, if_neg (by omega)]; exact h3⟩
  · rw [lc_set _ _ _ hih] at hk1 ⊢
    by_cases e : k = i
    · subst e; rw [if_pos rfl]; exact ⟨hc, w, hw, rfl, .inl (by rw [nt_set' _ _ _ hwr, if_pos rfl])⟩
    · rw [if_neg e] at hk1 ⊢
      obtain ⟨hc, r, hr, h1, h2⟩ := h.reg k (by omega) hk1
      refine ⟨hc, r, hr, h1, ?_⟩
      rcases h2 with h2 | h2
      · left
        rw [nt_set' _ _ _ hwr, if_neg (fun e2 => by subst e2; omega)]; exact h2
      · exact .inr (fun j hj hjl => h2 j (by omega) hjl)
  · rw [lc_set _ _ _ hih, if_neg (by omega)]
    exact h.more k (by omega) hkl
  · rw [lc_set _ _ _ hih]
    by_cases e : k = i
    · rw [if_pos e]; exact .inl rfl
    · rw [if_neg e]; exact h.kind k (by omega)
/-- One that gets another one's register. -/
theorem inv_take {l : List Span} {n i : Nat} {hs : List Loc} {rs : List Int} (hi : i < l.length) (h : Mid l n i hs rs) (hc : (U.sp l i).call = false) (w f : Nat) (hw : w < n) (hf : U.nt rs w = f) :
    Ahead l n (i + 1) (((hs.set i (U.lc hs f)).set f ⟨0, 0⟩).set f ⟨2, U.slotOf l ((hs.set i (U.lc hs f)).set f ⟨0, 0⟩) f⟩) (rs.set w i) := by
  obtain ⟨hfi, hfl⟩ : f < i ∧ U.lc hs f = ⟨1, w⟩ := by
    rcases h.has w hw with h1 | ⟨k, h1, h2, h3, _⟩
    · omega
    · have e : f = k := by omega
      subst e
      exact ⟨h2, h3⟩
  have hih : i < hs.length := by rw [h.len]; exact hi
  have hfh : f < hs.length := by omega
  have hwr : w < rs.length := by rw [h.rlen]; exact hw
  have hlt : U.slotOf l ((hs.set i (U.lc hs f)).set f ⟨0, 0⟩) f < l.length := by
    have := slot_lt (l := l) (hs := (hs.set i (U.lc hs f)).set f ⟨0, 0⟩) (i := f) (by simpa using hfh) (by rw [lc_set _ _ _ (by simpa using hfh), if_pos rfl]; decide) f
    simpa [h.len] using this
  have hlc : ∀ (x : Loc) (k : Nat), U.lc (((hs.set i (U.lc hs f)).set f ⟨0, 0⟩).set f x) k = if k = f then x else if k = i then ⟨1, w⟩ else U.lc hs k := fun x k => by
    rw [lc_set _ _ _ (by simpa using hfh)]
    by_cases e : k = f
    · rw [if_pos e, if_pos e]
    · rw [if_neg e, if_neg e, lc_set _ _ _ (by simpa using hfh), if_neg e, lc_set _ _ _ hih, hfl]
  refine ⟨by simpa using h.len, by rw [List.length_set]; exact h.rlen, fun r hr => ?_, fun k hk hk1 => ?_, fun k hk hkl => ?_, fun k hk => ?_⟩
  · rw [nt_set' _ _ _ hwr]
    by_cases e : r = w
    · subst e; rw [if_pos rfl]; exact .inr ⟨i, rfl, by omega, by rw [hlc, if_neg (by omega), if_pos rfl]⟩
    · rw [if_neg e]
      rcases h.has r hr with h1 | ⟨k, h1, h2, h3, _⟩
      · exact .inl h1
      · refine .inr ⟨k, h1, by omega, ?_⟩
        rw [hlc, if_neg (fun e2 => ?_), if_neg (by omega)]
        · exact h3
        · subst e2
          rw [hfl] at h3
          have := congrArg Loc.n h3
          simp at this
          omega
  · rw [hlc] at hk1 ⊢
    by_cases e : k = f
    · rw [if_pos e] at hk1; exact absurd hk1 (show ¬ (2 : Int) = 1 by decide)
    · rw [if_neg e] at hk1 ⊢
      by_cases e2 : k = i
      · subst e2; rw [if_pos rfl]; exact ⟨hc, w, hw, rfl, .inl (by rw [nt_set' _ _ _ hwr, if_pos rfl])⟩
      · rw [if_neg e2] at hk1 ⊢
        obtain ⟨hc, r, hr, h1, h2⟩ := h.reg k (by omega) hk1
        refine ⟨hc, r, hr, h1, ?_⟩
        rcases h2 with h2 | h2
        · left
          rw [nt_set' _ _ _ hwr, if_neg (fun e3 => by subst e3; omega)]; exact h2
        · exact .inr (fun j hj hjl => h2 j (by omega) hjl)
  · rw [hlc, if_neg (by omega), if_neg (by omega)]
    exact h.more k (by omega) hkl
  · rw [hlc]
    by_cases e : k = f
    · rw [if_pos e]; exact .inr ⟨_, rfl, hlt⟩
    · rw [if_neg e]
      by_cases e2 : k = i
      · rw [if_pos e2]; exact .inl rfl
      · rw [if_neg e2]; exact h.kind k (by omega)
/-- What a place is, told by what is free. -/
theorem place_how {l : List Span} {n i : Nat} {hs : List Loc} {rs : List Int} (hi : i < l.length) (h : Mid l n i hs (U.expire l (U.sp l i).fr rs)) :
    (((U.sp l i).call = true ∨ ((U.sp l i).call = false ∧ ∀ r : Nat, r < n → U.nt (U.expire l (U.sp l i).fr rs) r ≠ -1)) ∧ U.place l i hs rs = (hs.set i ⟨2, U.slotOf l hs i⟩, U.expire l (U.sp l i).fr rs)) ∨
    ((U.sp l i).call = false ∧ ∃ w : Nat, w < n ∧ U.nt (U.expire l (U.sp l i).fr rs) w = -1 ∧ U.place l i hs rs = (hs.set i ⟨1, w⟩, (U.expire l (U.sp l i).fr rs).set w i)) ∨
    ((U.sp l i).call = false ∧ (∀ r : Nat, r < n → U.nt (U.expire l (U.sp l i).fr rs) r ≠ -1) ∧ ∃ w f : Nat, w < n ∧ U.nt (U.expire l (U.sp l i).fr rs) w = f ∧ U.place l i hs rs = (((hs.set i (U.lc hs f)).set f ⟨0, 0⟩).set f ⟨2, U.slotOf l ((hs.set i (U.lc hs f)).set f ⟨0, 0⟩) f⟩, (U.expire l (U.sp l i).fr rs).set w i)) := by
  unfold U.place
  generalize U.expire l (U.sp l i).fr rs = rs at *
  cases hc : (U.sp l i).call with
  | true => exact .inl ⟨.inl rfl, if_pos rfl⟩
  | false =>
    rw [if_neg (by simp)]
    by_cases hx : 0 ≤ U.idxI rs (-1)
    · obtain ⟨w, hw1, _, hw2, hw3⟩ := firstOf_val _ _ _ hx
      have hw1' : U.idxI rs (-1) = w := hw1
      rw [if_pos hx, hw1', Int.toNat_natCast]
      exact .inr (.inl ⟨rfl, w, by rw [← h.rlen]; omega, by simpa using hw3, rfl⟩)
    · have hne : ∀ r : Nat, r < n → U.nt rs r ≠ -1 := fun r hr e => by
        exact absurd (firstOf_ge (fun j => decide (U.nt rs j = -1)) rs.length 0 r (Nat.zero_le _) (by rw [h.rlen]; omega) (decide_eq_true e)) hx
      rw [if_neg hx]
      rcases pick_cases l rs 0 i (-1) with hp | ⟨q, hq, hp⟩
      · rw [hp]
        exact .inl ⟨.inr ⟨rfl, hne⟩, if_neg (by simp)⟩
      · have hqn : q < n := by rw [← h.rlen]; exact hq
        rcases h.has q hqn with h1 | ⟨k, h1, _, _, _⟩
        · exact absurd h1 (hne q hqn)
        · rw [hp]
          refine .inr (.inr ⟨rfl, hne, q, k, hqn, h1, ?_⟩)
          simp only [Nat.zero_add]
          rw [if_pos (by omega), h1, Int.toNat_natCast, Int.toNat_natCast]
theorem inv_step {l : List Span} {n i : Nat} {hs : List Loc} {rs : List Int} (hR : U.right l = true) (hi : i < l.length) (h : Ahead l n i hs rs) : Ahead l n (i + 1) (U.place l i hs rs).1 (U.place l i hs rs).2 := by
  have hm := mid_of hR hi h
  rcases place_how hi hm with ⟨_, h1⟩ | ⟨hc, w, hw, hf, h1⟩ | ⟨hc, _, w, f, hw, hf, h1⟩
  · rw [h1]; exact inv_slot hi hm
  · rw [h1]; exact inv_free hi hm hc w hw hf
  · rw [h1]; exact inv_take hi hm hc w f hw hf
theorem inv_of {l : List Span} (n : Nat) (hR : U.right l = true) : ∀ i, i ≤ l.length → Ahead l n i (U.upTo l n i).1 (U.upTo l n i).2
  | 0, _ => by
    refine ⟨(upTo_len l n 0).1, (upTo_len l n 0).2, fun r hr => ?_, fun k hk => absurd hk (Nat.not_lt_zero _), fun k _ hk => ?_, fun k hk => absurd hk (Nat.not_lt_zero _)⟩
    · left
      unfold U.upTo U.nt
      rw [List.getD_eq_getElem?_getD, List.getElem?_replicate, if_pos hr]; rfl
    · unfold U.upTo U.lc
      rw [List.getD_eq_getElem?_getD, List.getElem?_replicate, if_pos hk]; rfl
  | i + 1, hi => inv_step hR (by omega) (inv_of n hR i (by omega))
theorem who_all {l : List Span} (n : Nat) (hR : U.right l = true) : ∀ i, i < l.length → WhoAt l (U.upTo l n i).1 (U.expire l (U.sp l i).fr (U.upTo l n i).2) i := fun i hi => who_of hi (mid_of hR hi (inv_of n hR i (by omega)))
end Go.Proofs.Ythbkemkjkpaoaac.E
