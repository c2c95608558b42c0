/- Dominators: each round brings the tree nearer to what dominates; when nothing changes it is that. No program here. -/
import Derived.Test.YtabdcfcnngnnoaaD2
set_option linter.unusedVariables false
set_option linter.unusedSectionVars false
set_option linter.unusedSimpArgs false
namespace Go.Proofs.Ytabdcfcnngnnoaa.E
open Go
/-- A way from 0 that misses z, with at most so many edges that lead back in the order. -/
inductive WayZ (nx : Int → List Int) (n : Nat) (pl : List Int) (z : Nat) : Nat → Nat → Prop
  | zero (k : Nat) : z ≠ 0 → WayZ nx n pl z k 0
  | fwd (k x t : Nat) : WayZ nx n pl z k x → x < n → (t : Int) ∈ nx x → t < n → t ≠ z → U.nt pl x < U.nt pl t → WayZ nx n pl z k t
  | back (k x t : Nat) : WayZ nx n pl z k x → x < n → (t : Int) ∈ nx x → t < n → t ≠ z → U.nt pl t ≤ U.nt pl x → WayZ nx n pl z (k + 1) t
section
variable {nx : Int → List Int} {n : Nat} {od pl ab : List Int}
theorem WayZ.ne {z k x : Nat} (h : WayZ nx n pl z k x) : x ≠ z := by
  cases h with
  | zero _ h => exact fun e => h e.symm
  | fwd _ _ _ _ _ _ _ h => exact h
  | back _ _ _ _ _ _ _ h => exact h
theorem WayZ.wayA {z k x : Nat} (h : WayZ nx n pl z k x) : WayA nx n z x := by
  induction h with
  | zero _ h => exact ⟨h, .refl⟩
  | fwd k x t _ h1 h2 h3 h4 h5 ih =>
    refine ⟨ih.1, ?_⟩
    have := WayW.step x (t : Int) ih.2 h1 h2 (by omega) (by omega) (by omega)
    simpa using this
  | back k x t _ h1 h2 h3 h4 h5 ih =>
    refine ⟨ih.1, ?_⟩
    have := WayW.step x (t : Int) ih.2 h1 h2 (by omega) (by omega) (by omega)
    simpa using this
theorem WayZ.suc {z k x : Nat} (h : WayZ nx n pl z k x) : WayZ nx n pl z (k + 1) x := by
  induction h with
  | zero _ h => exact .zero _ h
  | fwd k x t _ h1 h2 h3 h4 h5 ih => exact .fwd _ x t ih h1 h2 h3 h4 h5
  | back k x t _ h1 h2 h3 h4 h5 ih => exact .back _ x t ih h1 h2 h3 h4 h5
theorem WayZ.mono {z k x : Nat} (h : WayZ nx n pl z k x) : ∀ d, WayZ nx n pl z (k + d) x
  | 0 => h
  | d + 1 => (WayZ.mono h d).suc
/-- It misses c, or there is such a way to c. -/
theorem WayZ.cut {z k x : Nat} (c : Nat) (h : WayZ nx n pl z k x) : WayZ nx n pl c k x ∨ WayZ nx n pl z k c := by
  induction h with
  | zero k h =>
    by_cases e : c = 0
    · subst e; exact .inr (.zero k h)
    · exact .inl (.zero k e)
  | fwd k x t h0 h1 h2 h3 h4 h5 ih =>
    rcases ih with q | q
    · by_cases e : t = c
      · subst e; exact .inr (.fwd k x t h0 h1 h2 h3 h4 h5)
      · exact .inl (.fwd k x t q h1 h2 h3 e h5)
    · exact .inr q
  | back k x t h0 h1 h2 h3 h4 h5 ih =>
    rcases ih with q | q
    · by_cases e : t = c
      · subst e; exact .inr (.back k x t h0 h1 h2 h3 h4 h5)
      · exact .inl (.back k x t q h1 h2 h3 e h5)
    · exact .inr q.suc
theorem wayZ_of {z x : Nat} (hn : 0 < n) (h : WayA nx n z x) : ∃ k, WayZ nx n pl z k x := by
  obtain ⟨h0, h1⟩ := h
  induction h1 with
  | refl => exact ⟨0, .zero 0 h0⟩
  | step x t hw hx ht t0 t1 t2 ih =>
    obtain ⟨k, hk⟩ := ih
    have e : ((t.toNat : Nat) : Int) = t := by omega
    by_cases hc : U.nt pl x < U.nt pl t.toNat
    · exact ⟨k, .fwd k x t.toNat hk hx (by rw [e]; exact ht) (by omega) (by omega) hc⟩
    · exact ⟨k + 1, .back k x t.toNat hk hx (by rw [e]; exact ht) (by omega) (by omega) (by omega)⟩
theorem bound_of {P : Nat → Nat → Prop} (hm : ∀ x k d, P x k → P x (k + d)) (Q : Nat → Prop) (h : ∀ x, Q x → ∃ k, P x k) : ∀ m, ∃ K, ∀ x, x < m → Q x → P x K
  | 0 => ⟨0, fun x hx => by omega⟩
  | m + 1 => by
    obtain ⟨K, hK⟩ := bound_of hm Q h m
    by_cases hq : Q m
    · obtain ⟨k, hk⟩ := h m hq
      refine ⟨K + k, fun x hx q => ?_⟩
      by_cases e : x = m
      · subst e; rw [Nat.add_comm]; exact hm x k K hk
      · exact hm x K k (hK x (by omega) q)
    · exact ⟨K, fun x hx q => by
        by_cases e : x = m
        · subst e; exact absurd q hq
        · exact hK x (by omega) q⟩
theorem wayZ_bound (hn : 0 < n) (pl : List Int) : ∃ K, ∀ z, z < n → ∀ x, x < n → WayA nx n z x → WayZ nx n pl z K x := by
  have h1 : ∀ z, ∃ K, ∀ x, x < n → WayA nx n z x → WayZ nx n pl z K x := fun z =>
    bound_of (P := fun x k => WayZ nx n pl z k x) (fun x k d h => h.mono d) (fun x => WayA nx n z x) (fun x h => wayZ_of hn h) n
  obtain ⟨K, hK⟩ := bound_of (P := fun z k => ∀ x, x < n → WayA nx n z x → WayZ nx n pl z k x) (fun z k d h x hx hw => (h x hx hw).mono d) (fun _ => True) (fun z _ => h1 z) n
  exact ⟨K, fun z hz => hK z hz trivial⟩
theorem nt_set {l : List Int} {i : Nat} (j : Nat) (v : Int) (hi : i < l.length) : U.nt (l.set i v) j = if j = i then v else U.nt l j := getD_set l i j v hi
/-- What leads to a block, and is in the tree. -/
def PredD (nx : Int → List Int) (n : Nat) (pl ab : List Int) (b x : Nat) : Prop := (b : Int) ∈ nx x ∧ Df n pl ab x
variable (B : Base nx n od pl) {pv : Int → List Int} (hpv : ∀ b : Nat, b < n → ∀ x : Int, x ∈ pv b ↔ ∃ c : Nat, c < n ∧ x = c ∧ (b : Int) ∈ nx c) {K : Nat} (hK : 2 * (od.length : Int) ≤ K)
include B
theorem WayZ.reach {z k x : Nat} (h : WayZ nx n pl z k x) : x < n ∧ 0 ≤ U.nt pl x := by
  have h1 := h.wayA
  have hx := h1.2.lt B.hn
  exact ⟨hx, (B.rch hx).2 h1.2.way⟩
include hpv hK
theorem next_at (T : Tr n pl ab) (S : Sound nx n pl ab) {b p : Nat} (hb : b < n) (hp : PredD nx n pl ab b p) : ∃ m : Nat, U.nextS ab pl K (pv b) (-1) = m ∧ MeetOf nx n pl ab (PredD nx n pl ab b) m := by
  have e : ∀ x : Nat, (False ∨ ((x : Int) ∈ pv b ∧ Df n pl ab x)) ↔ PredD nx n pl ab b x := fun x => by
    unfold PredD
    rw [hpv b hb]
    constructor
    · rintro (q | ⟨⟨c, q1, q2, q3⟩, q4⟩)
      · exact q.elim
      · have : x = c := by omega
        subst this; exact ⟨q3, q4⟩
    · rintro ⟨q1, q2⟩
      exact .inr ⟨⟨x, q2.1, rfl, q1⟩, q2⟩
  rcases next_ok B T S K hK (pv b) (-1) (fun _ => False) (fun a ha => by obtain ⟨c, q1, q2, _⟩ := (hpv b hb a).1 ha; omega) (fun x h => h.elim) (.inl ⟨rfl, fun x h => h⟩) with ⟨_, q2⟩ | ⟨m, q1, q2⟩
  · exact absurd ((e p).2 hp) (q2 p)
  · exact ⟨m, q1, q2.congr e⟩
omit hpv hK
/-! One block's next above is told anew. -/
section
variable (T : Tr n pl ab) (S : Sound nx n pl ab) {b m : Nat} (hb : b < n) (hb0 : b ≠ 0) (hbr : 0 ≤ U.nt pl b) (hm : Df n pl ab m) (hlt : U.nt pl m < U.nt pl b)
include T hb
omit B in
theorem set_at (j : Nat) : U.nt (ab.set b m) j = if j = b then (m : Int) else U.nt ab j := nt_set j (m : Int) (by rw [T.len]; exact hb)
omit B in
theorem df_set {x : Nat} (h : Df n pl ab x) : Df n pl (ab.set b m) x := by
  refine ⟨h.1, h.2.1, ?_⟩
  rw [set_at T hb]
  rcases h.2.2 with q | q
  · exact .inl q
  · right; split
    · omega
    · exact q
include hb0 hbr hm hlt
omit B in
theorem tr_set : Tr n pl (ab.set b m) := by
  refine ⟨by rw [List.length_set]; exact T.len, ?_, fun x hx hp => ?_, fun x hx h0 hp => ?_⟩
  · rw [set_at T hb, if_neg (fun e => hb0 e.symm)]; exact T.a0
  · rw [set_at T hb, if_neg (fun e => by subst e; omega)]; exact T.un x hx hp
  · rw [set_at T hb]
    by_cases e : x = b
    · subst e
      rw [if_pos rfl, Int.toNat_natCast]
      exact .inr ⟨by omega, df_set T hb hm, hlt⟩
    · rw [if_neg e]
      rcases T.dn x hx h0 hp with q | ⟨q1, q2, q3⟩
      · exact .inl q
      · exact .inr ⟨q1, df_set T hb q2, q3⟩
theorem up_old {x z : Nat} (h : Up (ab.set b m) x z) : U.nt pl x < U.nt pl b → Df n pl ab x → Up ab x z := by
  induction h with
  | refl x => exact fun _ _ => .refl x
  | step x y h0 _ ih =>
    intro hx hd
    have hne : x ≠ b := fun e => by subst e; omega
    rw [set_at T hb, if_neg hne] at h0 ih
    have h1 := df_up B T hd h0
    exact .step x y h0 (ih (by omega) h1.1)
theorem up_new {x z : Nat} (h : Up ab x z) : U.nt pl x < U.nt pl b → Df n pl ab x → Up (ab.set b m) x z := by
  induction h with
  | refl x => exact fun _ _ => .refl x
  | step x y h0 _ ih =>
    intro hx hd
    have hne : x ≠ b := fun e => by subst e; omega
    have h1 := df_up B T hd h0
    have := ih (by omega) h1.1
    refine .step x y ?_ ?_
    · rw [set_at T hb, if_neg hne]; exact h0
    · rw [set_at T hb, if_neg hne]; exact this
theorem up_mix {x z : Nat} (h : Up (ab.set b m) x z) : (x = b ∨ Df n pl ab x) → Up ab x z ∨ (Up ab x b ∧ Up ab m z) := by
  induction h with
  | refl x => exact fun _ => .inl (.refl x)
  | step x y h0 g ih =>
    intro hd
    by_cases e : x = b
    · subst e
      rw [set_at T hb, if_pos rfl, Int.toNat_natCast] at g
      exact .inr ⟨.refl x, up_old B T hb hb0 hbr hm hlt g hlt hm⟩
    · rw [set_at T hb, if_neg e] at h0 ih
      have hd' : Df n pl ab x := by
        rcases hd with q | q
        · exact absurd q e
        · exact q
      have h1 := df_up B T hd' h0
      rcases ih (.inr h1.1) with q | ⟨q1, q2⟩
      · exact .inl (.step x y h0 q)
      · exact .inr ⟨.step x b h0 q1, q2⟩
include S
theorem sound_set (hM : MeetOf nx n pl ab (PredD nx n pl ab b) m) : Sound nx n pl (ab.set b m) := fun x hx hr h0 d hd => by
  rw [set_at T hb] at h0 ⊢
  by_cases e : x = b
  · subst e
    rw [if_pos rfl, Int.toNat_natCast]
    by_cases hdx : d = x
    · exact .inl hdx
    · exact .inr (hM.dom d fun p hp => dom_pred hd hdx ((B.rch hp.2.1).1 hp.2.2.1) hp.2.1 hx hp.1)
  · rw [if_neg e] at h0 ⊢
    exact S x hx hr h0 d hd
end
/-- In the midst of a round: the places below J are told anew. -/
structure Mid (nx : Int → List Int) (n : Nat) (pl : List Int) (k J : Nat) (ab : List Int) : Prop where
  tr : Tr n pl ab
  sd : Sound nx n pl ab
  lo : ∀ x, x < n → 0 ≤ U.nt pl x → U.nt pl x < J → Df n pl ab x ∧ ∀ z, Up ab x z → ¬ WayZ nx n pl z k x
  hi : ∀ j, k = j + 1 → ∀ x, x < n → 0 ≤ U.nt pl x → Df n pl ab x ∧ (J ≤ U.nt pl x → ∀ z, Up ab x z → ¬ WayZ nx n pl z j x)
include hpv hK
theorem mid_step {k J : Nat} (M : Mid nx n pl k J ab) {b : Nat} (hb : b < n) (hJ : U.nt pl b = J) (h0 : 0 < J) : Mid nx n pl k (J + 1) (ab.set b (U.nextS ab pl K (pv b) (-1))) ∧ 0 ≤ U.nextS ab pl K (pv b) (-1) := by
  have T := M.tr
  have S := M.sd
  have hp0 := B.p0
  have hb0 : b ≠ 0 := fun e => by subst e; omega
  obtain ⟨a, a1, a2, a3, a4⟩ := B.par hb (by omega)
  have hda := (M.lo a a1 a2 (by omega)).1
  obtain ⟨m, m1, m2⟩ := next_at B hpv hK T S hb ⟨a4, hda⟩
  have hma : U.nt pl m ≤ U.nt pl a := up_le B T (m2.up a ⟨a4, hda⟩) hda
  have hlt : U.nt pl m < U.nt pl b := by omega
  have hbr : 0 ≤ U.nt pl b := by omega
  have hdm := m2.df
  rw [m1]
  have key : ∀ z, Up ab m z → ¬ WayZ nx n pl z k b := fun z hz hw => by
    cases hw with
    | zero => exact hb0 rfl
    | fwd _ p _ g1 g2 g3 g4 g5 g6 =>
      obtain ⟨p1, p2⟩ := g1.reach B
      obtain ⟨q1, q2⟩ := M.lo p p1 p2 (by omega)
      exact q2 z ((m2.up p ⟨g3, q1⟩).trans hz) g1
    | back j p _ g1 g2 g3 g4 g5 g6 =>
      obtain ⟨p1, p2⟩ := g1.reach B
      obtain ⟨q1, q2⟩ := M.hi j rfl p p1 p2
      exact q2 (by omega) z ((m2.up p ⟨g3, q1⟩).trans hz) g1
  refine ⟨⟨tr_set T hb hb0 hbr hdm hlt, sound_set B T S hb hb0 hbr hdm hlt m2, fun x hx hr hxJ => ?_, fun j hj x hx hr => ?_⟩, by omega⟩
  · by_cases e : x = b
    · subst e
      refine ⟨⟨hx, hr, .inr ?_⟩, fun z hz hw => ?_⟩
      · rw [set_at T hb, if_pos rfl]; omega
      · cases hz with
        | refl => exact hw.ne rfl
        | step _ _ g0 g =>
          rw [set_at T hb, if_pos rfl, Int.toNat_natCast] at g
          exact key z (up_old B T hb hb0 hbr hdm hlt g hlt hdm) hw
    · have hxJ' : U.nt pl x < J := by
        have : U.nt pl x ≠ J := fun q => e (B.inj hx hb hr (by omega))
        omega
      obtain ⟨q1, q2⟩ := M.lo x hx hr hxJ'
      exact ⟨df_set T hb q1, fun z hz => q2 z (up_old B T hb hb0 hbr hdm hlt hz (by omega) q1)⟩
  · obtain ⟨q1, q2⟩ := M.hi j hj x hx hr
    refine ⟨df_set T hb q1, fun hge z hz hw => ?_⟩
    rcases up_mix B T hb hb0 hbr hdm hlt hz (.inr q1) with g | ⟨g1, g2⟩
    · exact q2 (by omega) z g hw
    · rcases hw.cut b with g | g
      · exact q2 (by omega) b g1 g
      · subst hj
        exact key z g2 g.suc
theorem pass_mid (k : Nat) : ∀ (l pre : List Int) (s : List Int × Bool), od = pre ++ l → 0 < pre.length → Mid nx n pl k pre.length s.1 → Mid nx n pl k od.length (U.passS pv pl K l s).1
  | [], pre, s, h, h0, M => by
    rw [List.append_nil] at h
    rw [h]; exact M
  | b :: l, pre, s, h, h0, M => by
    obtain ⟨b0, b1⟩ := B.ord.ran b (by rw [h]; simp)
    have hp := B.pos pre b l h
    have hs := (mid_step B hpv hK M (b := b.toNat) (by omega) hp h0).1
    rw [show ((b.toNat : Nat) : Int) = b by omega] at hs
    have := pass_mid k l (pre ++ [b]) (s.1.set b.toNat (U.nextS s.1 pl K (pv b) (-1)), s.2 || decide (U.nextS s.1 pl K (pv b) (-1) ≠ U.nt s.1 b.toNat)) (by rw [h]; simp) (by simp) (by rw [List.length_append, List.length_singleton]; exact hs)
    exact this
omit hpv hK
/-- Behind so many rounds. -/
structure Lv (nx : Int → List Int) (n : Nat) (pl : List Int) (k : Nat) (ab : List Int) : Prop where
  tr : Tr n pl ab
  sd : Sound nx n pl ab
  hi : ∀ j, k = j + 1 → ∀ x, x < n → 0 ≤ U.nt pl x → Df n pl ab x ∧ ∀ z, Up ab x z → ¬ WayZ nx n pl z j x
theorem mid_of {k : Nat} (L : Lv nx n pl k ab) : Mid nx n pl k 1 ab := ⟨L.tr, L.sd, fun x hx h0 h1 => by
    have hp := B.p0
    have : x = 0 := B.inj hx B.hn h0 (by omega)
    subst this
    refine ⟨⟨hx, h0, .inl rfl⟩, fun z hz hw => ?_⟩
    cases hz with
    | refl => exact hw.ne rfl
    | step _ _ g _ => have := L.tr.a0; omega, fun j hj x hx hr => ⟨(L.hi j hj x hx hr).1, fun _ => (L.hi j hj x hx hr).2⟩⟩
theorem lv_of {k : Nat} (M : Mid nx n pl k od.length ab) : Lv nx n pl (k + 1) ab := ⟨M.tr, M.sd, fun j hj x hx hr => by
  have : j = k := by omega
  subst this
  exact M.lo x hx hr (B.lt hx)⟩
/-- The tree is what dominates. -/
structure Exact (nx : Int → List Int) (n : Nat) (pl ab : List Int) : Prop where
  tr : Tr n pl ab
  sd : Sound nx n pl ab
  all : ∀ x, x < n → 0 ≤ U.nt pl x → Df n pl ab x ∧ ∀ z, Up ab x z → DomR nx n z x
include hpv hK
theorem exact_next (X : Exact nx n pl ab) {b : Nat} (hb : b < n) (h0 : 0 < U.nt pl b) : U.nextS ab pl K (pv b) (-1) = U.nt ab b := by
  have T := X.tr
  have S := X.sd
  have hp0 := B.p0
  have hb0 : b ≠ 0 := fun e => by subst e; omega
  obtain ⟨a, a1, a2, a3, a4⟩ := B.par hb h0
  have hda := (X.all a a1 a2).1
  obtain ⟨m, m1, m2⟩ := next_at B hpv hK T S hb ⟨a4, hda⟩
  have hma : U.nt pl m ≤ U.nt pl a := up_le B T (m2.up a ⟨a4, hda⟩) hda
  have hdb := (X.all b hb (by omega)).1
  have hr := (B.rch hb).1 (by omega)
  have hab : 0 ≤ U.nt ab b := by
    rcases hdb.2.2 with q | q
    · exact absurd q hb0
    · exact q
  have hy := df_up B T hdb hab
  have hmb : DomR nx n m b := ⟨hr, fun q => by
    obtain ⟨q1, q2⟩ := q
    generalize hbb : b = bb at q2
    cases q2 with
    | refl => exact hb0 hbb
    | step p t g1 g2 g3 g4 g5 g6 =>
      have hpr := (B.rch g2).2 g1.way
      have hdp := (X.all p g2 hpr).1
      have e : ((b : Nat) : Int) = t := by omega
      have := m2.up p ⟨by rw [e]; exact g3, hdp⟩
      exact ((X.all p g2 hpr).2 m this).2 ⟨q1, g1⟩⟩
  have u1 : Up ab (U.nt ab b).toNat m := by
    have := dom_Up B T S hdb hmb
    cases this with
    | refl => omega
    | step _ _ _ g => exact g
  have hyb : DomR nx n (U.nt ab b).toNat b := (X.all b hb (by omega)).2 _ (.step b _ hab (.refl _))
  have u2 : Up ab m (U.nt ab b).toNat := m2.least _ fun p hp => dom_Up B T S hp.2 (dom_pred hyb (fun e => by rw [e] at hy; omega) ((B.rch hp.2.1).1 hp.2.2.1) hp.2.1 hb hp.1)
  have := up_anti B T u2 u1 m2.df
  omega
theorem exact_pass (X : Exact nx n pl ab) : ∀ (l pre : List Int) (c : Bool), od = pre ++ l → 0 < pre.length → U.passS pv pl K l (ab, c) = (ab, c)
  | [], pre, c, h, h0 => rfl
  | b :: l, pre, c, h, h0 => by
    obtain ⟨b0, b1⟩ := B.ord.ran b (by rw [h]; simp)
    have hp := B.pos pre b l h
    have e := exact_next B hpv hK X (b := b.toNat) (by omega) (by omega)
    rw [show ((b.toNat : Nat) : Int) = b by omega] at e
    unfold U.passS
    simp only
    rw [e]
    have e2 : ab.set b.toNat (U.nt ab b.toNat) = ab := by
      unfold U.nt
      rw [List.getD_eq_getElem?_getD, List.getElem?_eq_getElem (by rw [X.tr.len]; omega)]
      exact List.set_getElem_self _
    rw [e2, decide_eq_false (by simp), Bool.or_false]
    exact exact_pass X l (pre ++ [b]) c (by rw [h]; simp) (by simp)
omit B hpv hK in
theorem pass_still : ∀ (l : List Int) (s : List Int × Bool), (∀ b ∈ l, 0 ≤ b ∧ b.toNat < s.1.length) → (U.passS pv pl K l s).2 = false → s.2 = false ∧ (U.passS pv pl K l s).1 = s.1 ∧ ∀ b ∈ l, U.nextS s.1 pl K (pv b) (-1) = U.nt s.1 b.toNat
  | [], s, hl, h => ⟨h, rfl, fun b hb => by simp at hb⟩
  | b :: l, s, hl, h => by
    unfold U.passS at h ⊢
    obtain ⟨b0, b1⟩ := hl b (by simp)
    obtain ⟨h1, h2, h3⟩ := pass_still l _ (fun c hc => by rw [List.length_set]; exact hl c (List.mem_cons_of_mem _ hc)) h
    rw [Bool.or_eq_false_iff, decide_eq_false_iff_not] at h1
    have e : U.nextS s.1 pl K (pv b) (-1) = U.nt s.1 b.toNat := Classical.byContradiction h1.2
    have e2 : s.1.set b.toNat (U.nextS s.1 pl K (pv b) (-1)) = s.1 := by
      rw [e]
      unfold U.nt
      rw [List.getD_eq_getElem?_getD, List.getElem?_eq_getElem b1]
      exact List.set_getElem_self _
    simp only [e2] at h2 h3 ⊢
    refine ⟨h1.1, h2, fun c hc => ?_⟩
    rcases List.mem_cons.1 hc with rfl | hc
    · exact e
    · exact h3 c hc
theorem still_exact {k : Nat} (L : Lv nx n pl k ab) {l : List Int} (ho : od = 0 :: l) (h : (U.passS pv pl K l (ab, false)).2 = false) : (U.passS pv pl K l (ab, false)).1 = ab ∧ Exact nx n pl ab := by
  have hr : ∀ b ∈ l, 0 ≤ b ∧ b.toNat < ab.length := fun b hb => by
    obtain ⟨b0, b1⟩ := B.ord.ran b (by rw [ho]; exact List.mem_cons_of_mem _ hb)
    rw [L.tr.len]; omega
  obtain ⟨_, h2, h3⟩ := pass_still l (ab, false) hr h
  replace h2 : (U.passS pv pl K l (ab, false)).1 = ab := h2
  have M := pass_mid B hpv hK k l [0] (ab, false) (by rw [ho]; rfl) (by simp) (mid_of B L)
  rw [h2] at M
  have L' := lv_of B M
  have T := L'.tr
  have S := L'.sd
  refine ⟨h2, T, S, fun x hx hr => ?_⟩
  have hd := (L'.hi k rfl x hx hr).1
  refine ⟨hd, fun z hz => ⟨(B.rch hx).1 hr, fun hw => ?_⟩⟩
  have key : ∀ x, WayW nx n z 0 x → ¬ Up ab x z := by
    intro x hw'
    induction hw' with
    | refl =>
      intro q
      cases q with
      | refl => exact hw.1 rfl
      | step _ _ g _ => have := T.a0; omega
    | step p t g1 g2 g3 g4 g5 g6 ih =>
      intro q
      have htr := (B.rch (show t.toNat < n by omega)).2 (WayW.way (.step p t g1 g2 g3 g4 g5 g6))
      have hpr := (B.rch g2).2 g1.way
      have hdp := (L'.hi k rfl p g2 hpr).1
      cases q with
      | refl => omega
      | step _ _ q0 q =>
        have ht0 : t.toNat ≠ 0 := fun e => by rw [e] at q0; have := T.a0; omega
        have hpt : U.nt pl t.toNat ≠ 0 := fun e => ht0 (B.inj (by omega) B.hn (by omega) (by rw [e, B.p0]))
        have hmem : t ∈ l := by
          have : ((t.toNat : Nat) : Int) ∈ od := (B.ord.mem t.toNat).2 ((B.rch (by omega)).1 htr)
          rw [show ((t.toNat : Nat) : Int) = t by omega, ho] at this
          rcases List.mem_cons.1 this with e | e
          · omega
          · exact e
        have e := h3 t hmem
        simp only at e
        have ep : (b : Int) → b = t → PredD nx n pl ab t.toNat p := fun b _ => ⟨by rw [show ((t.toNat : Nat) : Int) = t by omega]; exact g3, hdp⟩
        obtain ⟨m, m1, m2⟩ := next_at B hpv hK T S (b := t.toNat) (by omega) (ep t rfl)
        rw [show ((t.toNat : Nat) : Int) = t by omega, e] at m1
        rw [m1, Int.toNat_natCast] at q
        exact ih ((m2.up p (ep t rfl)).trans q)
  exact key x hw.2 hz
theorem lv_exact {K0 k : Nat} (hb : ∀ z, z < n → ∀ x, x < n → WayA nx n z x → WayZ nx n pl z K0 x) (L : Lv nx n pl (k + 1) ab) (hk : K0 ≤ k) : Exact nx n pl ab := ⟨L.tr, L.sd, fun x hx hr => by
  obtain ⟨h1, h2⟩ := L.hi k rfl x hx hr
  refine ⟨h1, fun z hz => ⟨(B.rch hx).1 hr, fun hw => h2 z hz ?_⟩⟩
  have := (hb z (up_df B L.tr hz h1).1 x hx hw).mono (k - K0)
  rwa [show K0 + (k - K0) = k by omega] at this⟩
/-- A round: nothing changes, and the tree is what dominates; or it goes on, not too often. -/
theorem round {K0 k : Nat} (hb : ∀ z, z < n → ∀ x, x < n → WayA nx n z x → WayZ nx n pl z K0 x) (L : Lv nx n pl k ab) {l : List Int} (ho : od = 0 :: l) :
    (U.passS pv pl K l (ab, false) = (ab, false) ∧ Exact nx n pl ab) ∨ (∃ ab', U.passS pv pl K l (ab, false) = (ab', true) ∧ Lv nx n pl (k + 1) ab' ∧ k ≤ K0) := by
  cases hc : (U.passS pv pl K l (ab, false)).2 with
  | false =>
    obtain ⟨h1, h2⟩ := still_exact B hpv hK L ho hc
    exact .inl ⟨Prod.ext h1 hc, h2⟩
  | true =>
    right
    refine ⟨(U.passS pv pl K l (ab, false)).1, Prod.ext rfl hc, lv_of B (pass_mid B hpv hK k l [0] (ab, false) (by rw [ho]; rfl) (by simp) (mid_of B L)), ?_⟩
    refine Decidable.byContradiction fun q => ?_
    obtain ⟨k', rfl⟩ : ∃ k', k = k' + 1 := ⟨k - 1, by omega⟩
    have := exact_pass B hpv hK (lv_exact B hpv hK hb L (by omega)) l [0] false (by rw [ho]; rfl) (by simp)
    rw [this] at hc
    cases hc
end
end Go.Proofs.Ytabdcfcnngnnoaa.E
