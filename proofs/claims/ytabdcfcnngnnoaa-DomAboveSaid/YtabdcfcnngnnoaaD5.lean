/- Dominators: lists of those that dominate, the lowest of some, where two meet. No program here. -/
import Derived.Test.YtabdcfcnngnnoaaD4
set_option linter.unusedVariables false
set_option linter.unusedSectionVars false
set_option linter.unusedSimpArgs false
namespace Go.Proofs.Ytabdcfcnngnnoaa.E
open Go
namespace U
/-- The numbers that p holds of, from i on. -/
def selP (p : Nat → Bool) : Nat → Nat → List Int
  | 0, _ => []
  | d + 1, i => (if p i then [(i : Int)] else []) ++ selP p d (i + 1)
/-- The first one of a list that all of l dominate. -/
def lowS (dm : Int → Int → Bool) (l : List Int) : List Int → Int
  | [] => -1
  | x :: r => if l.all (fun y => dm y x) then x else lowS dm l r
end U
theorem selP_mem (p : Nat → Bool) : ∀ (d i : Nat) (x : Int), x ∈ U.selP p d i ↔ ∃ y : Nat, x = y ∧ i ≤ y ∧ y < i + d ∧ p y = true
  | 0, i, x => by
    constructor
    · intro h; simp [U.selP] at h
    · rintro ⟨y, _, h1, h2, _⟩; omega
  | d + 1, i, x => by
    have ih := selP_mem p d (i + 1) x
    unfold U.selP
    rw [List.mem_append, ih]
    cases h : p i with
    | true =>
      rw [if_pos rfl, List.mem_singleton]
      constructor
      · rintro (rfl | ⟨y, h1, h2, h3, h4⟩)
        · exact ⟨i, rfl, Nat.le_refl _, by omega, h⟩
        · exact ⟨y, h1, by omega, by omega, h4⟩
      · rintro ⟨y, h1, h2, h3, h4⟩
        by_cases e : y = i
        · left; omega
        · exact .inr ⟨y, h1, by omega, by omega, h4⟩
    | false =>
      rw [if_neg (by simp)]
      constructor
      · rintro (h1 | ⟨y, h1, h2, h3, h4⟩)
        · simp at h1
        · exact ⟨y, h1, by omega, by omega, h4⟩
      · rintro ⟨y, h1, h2, h3, h4⟩
        by_cases e : y = i
        · subst e; rw [h] at h4; cases h4
        · exact .inr ⟨y, h1, by omega, by omega, h4⟩
theorem selP_congr {p q : Nat → Bool} : ∀ (d i : Nat), (∀ y, i ≤ y → y < i + d → p y = q y) → U.selP p d i = U.selP q d i
  | 0, i, h => rfl
  | d + 1, i, h => by
    unfold U.selP
    rw [h i (Nat.le_refl _) (by omega), selP_congr d (i + 1) (fun y h1 h2 => h y (by omega) (by omega))]
theorem selP_none {p : Nat → Bool} : ∀ (d i : Nat), (∀ y, i ≤ y → y < i + d → p y = false) → U.selP p d i = []
  | 0, i, h => rfl
  | d + 1, i, h => by
    unfold U.selP
    rw [h i (Nat.le_refl _) (by omega), selP_none d (i + 1) (fun y h1 h2 => h y (by omega) (by omega))]; rfl
theorem selP_more {p : Nat → Bool} (e : Nat) : ∀ (d i : Nat), (∀ y, i + d ≤ y → y < i + d + e → p y = false) → U.selP p (d + e) i = U.selP p d i
  | 0, i, h => by rw [Nat.zero_add]; exact selP_none e i (fun y h1 h2 => h y (by omega) (by omega))
  | d + 1, i, h => by
    rw [show d + 1 + e = (d + e) + 1 by omega]
    unfold U.selP
    rw [selP_more e d (i + 1) (fun y h1 h2 => h y (by omega) (by omega))]
/-- Lists of numbers of different reach. -/
theorem selP_eq {p q : Nat → Bool} (d e : Nat) (h : ∀ y, (y < d ∧ p y = true) ↔ (y < e ∧ q y = true)) : U.selP p d 0 = U.selP q e 0 := by
  have h1 : U.selP p (d + e) 0 = U.selP p d 0 ∨ True := .inr trivial
  let pp : Nat → Bool := fun y => decide (y < d) && p y
  let qq : Nat → Bool := fun y => decide (y < e) && q y
  have e1 : U.selP p d 0 = U.selP pp d 0 := selP_congr d 0 (fun y _ h2 => by show p y = (decide (y < d) && p y); rw [decide_eq_true (by omega)]; rfl)
  have e2 : U.selP q e 0 = U.selP qq e 0 := selP_congr e 0 (fun y _ h2 => by show q y = (decide (y < e) && q y); rw [decide_eq_true (by omega)]; rfl)
  have e3 : U.selP pp (d + e) 0 = U.selP pp d 0 := selP_more e d 0 (fun y h1 _ => by show (decide (y < d) && p y) = false; rw [decide_eq_false (by omega)]; rfl)
  have e4 : U.selP qq (e + d) 0 = U.selP qq e 0 := selP_more d e 0 (fun y h1 _ => by show (decide (y < e) && q y) = false; rw [decide_eq_false (by omega)]; rfl)
  rw [e1, e2, ← e3, ← e4, Nat.add_comm e d]
  refine selP_congr _ _ (fun y _ _ => ?_)
  show (decide (y < d) && p y) = (decide (y < e) && q y)
  rw [Bool.eq_iff_iff, Bool.and_eq_true, Bool.and_eq_true, decide_eq_true_eq, decide_eq_true_eq]
  exact h y
theorem selP_len (p : Nat → Bool) : ∀ (d i : Nat), (U.selP p d i).length ≤ d
  | 0, i => Nat.le_refl _
  | d + 1, i => by
    have := selP_len p d (i + 1)
    unfold U.selP
    rw [List.length_append]
    split
    · rw [List.length_singleton]; omega
    · rw [List.length_nil]; omega
theorem selP_sorted (p : Nat → Bool) : ∀ (d i : Nat), (U.selP p d i).Pairwise (· < ·)
  | 0, i => List.Pairwise.nil
  | d + 1, i => by
    unfold U.selP
    split
    · refine List.pairwise_cons.2 ⟨fun x hx => ?_, selP_sorted p d (i + 1)⟩
      obtain ⟨y, rfl, h1, _⟩ := (selP_mem p d (i + 1) x).1 hx
      omega
    · exact selP_sorted p d (i + 1)
theorem low_is {dm : Int → Int → Bool} {l : List Int} {m : Int} (hm : ∀ y ∈ l, dm y m = true) : ∀ l', m ∈ l' → (∀ x ∈ l', (∀ y ∈ l, dm y x = true) → x = m) → U.lowS dm l l' = m
  | [], h, _ => by simp at h
  | x :: r, h, hu => by
    unfold U.lowS
    cases hc : l.all (fun y => dm y x) with
    | true =>
      rw [if_pos rfl]
      exact hu x (by simp) (fun y hy => List.all_eq_true.1 hc y hy)
    | false =>
      rw [if_neg (by simp)]
      have hne : m ≠ x := fun e => by
        subst e
        have : l.all (fun y => dm y m) = true := List.all_eq_true.2 hm
        rw [this] at hc; cases hc
      rcases List.mem_cons.1 h with e | h
      · exact absurd e hne
      · exact low_is hm r h (fun z hz => hu z (List.mem_cons_of_mem _ hz))
namespace U
noncomputable def allD (nx : Int → List Int) (n : Nat) (b : Int) : List Int := selP (fun a => domB nx n a b) n 0
noncomputable def bothD (nx : Int → List Int) (n : Nat) (a b : Int) : List Int := selP (fun c => domB nx n c a && domB nx n c b) n 0
noncomputable def meetD (nx : Int → List Int) (n : Nat) (a b : Int) : Int := lowS (domB nx n) (bothD nx n a b) (bothD nx n a b)
noncomputable def othD (nx : Int → List Int) (n : Nat) (b : Int) : List Int := (allD nx n b).filter fun x => !(x == b)
noncomputable def aboveD (nx : Int → List Int) (n : Nat) (b : Int) : Int := lowS (domB nx n) (othD nx n b) (othD nx n b)
def kidsOf (ab : List Int) (b : Int) (n : Nat) : List Int := selP (fun k => (nt ab k == b) && decide (b ≥ 0)) n 0
def firstUp (ab : List Int) (h : Int → Bool) : Nat → Int → Int
  | 0, b => b
  | k + 1, b => if h b then b else firstUp ab h k (nt ab b.toNat)
end U
section
variable {nx : Int → List Int} {n : Nat} {od pl ab : List Int} (B : Base nx n od pl) (X : Exact nx n pl ab)
include B in
theorem domB_nat (a b : Nat) : U.domB nx n a b = true ↔ a < n ∧ b < n ∧ DomR nx n a b := by
  rw [domB_iff B.hn, Int.toNat_natCast, Int.toNat_natCast]
  constructor
  · rintro ⟨_, _, h1, h2, h3⟩; exact ⟨by omega, by omega, h3⟩
  · rintro ⟨h1, h2, h3⟩; exact ⟨by omega, by omega, by omega, by omega, h3⟩
include B X
theorem dom_anti {x y : Nat} (hx : x < n) (hy : y < n) (h : DomR nx n x y) (g : DomR nx n y x) : x = y := by
  have rx := (B.rch hx).2 g.1
  have ry := (B.rch hy).2 h.1
  exact up_anti B X.tr ((up_iff B X hx rx).2 g) ((up_iff B X hy ry).2 h) (X.all x hx rx).1
theorem dom_trans {x y z : Nat} (hx : x < n) (hy : y < n) (hz : z < n) (h : DomR nx n x y) (g : DomR nx n y z) : DomR nx n x z := by
  have ry := (B.rch hy).2 h.1
  have rz := (B.rch hz).2 g.1
  exact (up_iff B X hz rz).1 (((up_iff B X hz rz).2 g).trans ((up_iff B X hy ry).2 h))
theorem dom_lin {x y z : Nat} (hx : x < n) (hy : y < n) (hz : z < n) (h : DomR nx n x z) (g : DomR nx n y z) : DomR nx n x y ∨ DomR nx n y x := by
  have rz := (B.rch hz).2 g.1
  have rx := (B.rch hx).2 (dom_way h)
  have ry := (B.rch hy).2 (dom_way g)
  have ux := (up_iff B X hz rz).2 h
  have uy := (up_iff B X hz rz).2 g
  have dz := (X.all z hz rz).1
  rcases Int.le_total (U.nt pl x) (U.nt pl y) with q | q
  · exact .inl ((up_iff B X hy ry).1 (up_lin B X.tr ux uy dz q))
  · exact .inr ((up_iff B X hx rx).1 (up_lin B X.tr uy ux dz q))
/-- Where two meet. -/
theorem firstUp_ok {a b : Nat} (ha : Df n pl ab a) (hb : Df n pl ab b) (h : Int → Bool) (hh : ∀ x : Nat, h x = true ↔ Up ab a x) : ∀ (k c : Nat), Up ab b c → U.nt pl c < k → (∀ z, Up ab a z → Up ab b z → Up ab c z) →
    ∃ m : Nat, U.firstUp ab h k c = m ∧ Up ab a m ∧ Up ab b m ∧ ∀ z, Up ab a z → Up ab b z → Up ab m z := by
  intro k
  induction k with
  | zero =>
    intro c hc hk
    have := (up_df B X.tr hc hb).2.1
    omega
  | succ k ih =>
    intro c hc hk hz
    unfold U.firstUp
    cases hq : h c with
    | true => rw [if_pos rfl]; exact ⟨c, rfl, (hh c).1 hq, hc, hz⟩
    | false =>
      rw [if_neg (by simp), Int.toNat_natCast]
      have hdc := up_df B X.tr hc hb
      have hna : ¬ Up ab a c := fun q => by rw [(hh c).2 q] at hq; cases hq
      have hc0 : c ≠ 0 := fun e => by
        subst e
        exact hna (dom_Up B X.tr X.sd ha (dom_zero ((B.rch ha.1).1 ha.2.1)))
      have hab : 0 ≤ U.nt ab c := by
        rcases hdc.2.2 with q | q
        · exact absurd q hc0
        · exact q
      have hy := df_up B X.tr hdc hab
      obtain ⟨m, m1, m2⟩ := ih (U.nt ab c).toNat (hc.trans (.step c _ hab (.refl _))) (by omega) (fun z z1 z2 => by
        have := hz z z1 z2
        cases this with
        | refl => exact absurd z1 hna
        | step _ _ _ g => exact g)
      rw [show (((U.nt ab c).toNat : Nat) : Int) = U.nt ab c by omega] at m1
      exact ⟨m, m1, m2⟩
theorem meetD_is {a b m : Nat} (ha : a < n) (hb : b < n) (ra : 0 ≤ U.nt pl a) (rb : 0 ≤ U.nt pl b) (h1 : Up ab a m) (h2 : Up ab b m) (h3 : ∀ z, Up ab a z → Up ab b z → Up ab m z) : U.meetD nx n a b = m := by
  have hm := up_df B X.tr h1 (X.all a ha ra).1
  have hmem : ∀ x : Int, x ∈ U.bothD nx n a b ↔ ∃ y : Nat, x = y ∧ y < n ∧ DomR nx n y a ∧ DomR nx n y b := fun x => by
    unfold U.bothD
    rw [selP_mem]
    constructor
    · rintro ⟨y, h1, _, h3, h4⟩
      rw [Bool.and_eq_true, domB_nat B, domB_nat B] at h4
      exact ⟨y, h1, by omega, h4.1.2.2, h4.2.2.2⟩
    · rintro ⟨y, h1, h2, h3, h4⟩
      exact ⟨y, h1, by omega, by omega, by rw [Bool.and_eq_true, domB_nat B, domB_nat B]; exact ⟨⟨h2, ha, h3⟩, h2, hb, h4⟩⟩
  have top : ∀ y : Nat, y < n → DomR nx n y a → DomR nx n y b → DomR nx n y m := fun y hy y1 y2 =>
    (up_iff B X hm.1 hm.2.1).1 (h3 y ((up_iff B X ha ra).2 y1) ((up_iff B X hb rb).2 y2))
  have hma := (up_iff B X ha ra).1 h1
  have hmb := (up_iff B X hb rb).1 h2
  unfold U.meetD
  refine low_is (fun y hy => ?_) _ ((hmem m).2 ⟨m, rfl, hm.1, hma, hmb⟩) (fun x hx hall => ?_)
  · obtain ⟨z, rfl, z1, z2, z3⟩ := (hmem y).1 hy
    exact (domB_nat B z m).2 ⟨z1, hm.1, top z z1 z2 z3⟩
  · obtain ⟨z, rfl, z1, z2, z3⟩ := (hmem x).1 hx
    have := (domB_nat B m z).1 (hall m ((hmem m).2 ⟨m, rfl, hm.1, hma, hmb⟩))
    have := dom_anti B X z1 hm.1 (top z z1 z2 z3) this.2.2
    omega
omit X in
theorem meetD_no {a b : Int} (h : ¬ (0 ≤ a ∧ a < n ∧ 0 ≤ b ∧ b < n ∧ 0 ≤ U.nt pl a.toNat ∧ 0 ≤ U.nt pl b.toNat)) : U.meetD nx n a b = -1 := by
  have : U.bothD nx n a b = [] := by
    unfold U.bothD
    refine selP_none _ _ (fun y _ _ => ?_)
    cases hq : (U.domB nx n y a && U.domB nx n y b) with
    | false => rfl
    | true =>
      rw [Bool.and_eq_true, domB_iff B.hn, domB_iff B.hn] at hq
      obtain ⟨⟨_, h1, _, h2, h3⟩, _, h4, _, h5, h6⟩ := hq
      exact absurd ⟨h1, h2, h4, h5, (B.rch (by omega)).2 h3.1, (B.rch (by omega)).2 h6.1⟩ h
  unfold U.meetD
  rw [this]; rfl
/-- The next above of each. -/
theorem aboveD_is {b : Nat} (hb : b < n) : U.aboveD nx n b = U.nt ab b := by
  have hmem : ∀ x : Int, x ∈ U.othD nx n b ↔ ∃ y : Nat, x = y ∧ y < n ∧ DomR nx n y b ∧ y ≠ b := fun x => by
    unfold U.othD U.allD
    rw [List.mem_filter, selP_mem]
    constructor
    · rintro ⟨⟨y, h1, _, h3, h4⟩, h5⟩
      rw [domB_nat B] at h4
      exact ⟨y, h1, by omega, h4.2.2, fun e => by subst e; subst h1; simp at h5⟩
    · rintro ⟨y, h1, h2, h3, h4⟩
      refine ⟨⟨y, h1, by omega, by omega, (domB_nat B y b).2 ⟨h2, hb, h3⟩⟩, ?_⟩
      rw [Bool.not_eq_true', beq_eq_false_iff_ne]
      omega
  by_cases hr : 0 ≤ U.nt pl b
  · have hd := (X.all b hb hr).1
    by_cases hb0 : b = 0
    · subst hb0
      have : U.othD nx n (0 : Nat) = [] := List.eq_nil_iff_forall_not_mem.2 fun x hx => by
        obtain ⟨y, _, _, h3, h4⟩ := (hmem x).1 hx
        exact h4 (dom_at_zero h3)
      unfold U.aboveD
      rw [this, X.tr.a0]; rfl
    · have hab : 0 ≤ U.nt ab b := by
        rcases hd.2.2 with q | q
        · exact absurd q hb0
        · exact q
      have hy := df_up B X.tr hd hab
      have hyb : DomR nx n (U.nt ab b).toNat b := (X.all b hb hr).2 _ (.step b _ hab (.refl _))
      have hne : (U.nt ab b).toNat ≠ b := fun e => by rw [e] at hy; omega
      have hcast : (((U.nt ab b).toNat : Nat) : Int) = U.nt ab b := by omega
      have top : ∀ y : Nat, DomR nx n y b → y ≠ b → DomR nx n y (U.nt ab b).toNat := fun y h1 h2 => by
        rcases X.sd b hb hr hab y h1 with q | q
        · exact absurd q h2
        · exact q
      unfold U.aboveD
      refine low_is (fun y hy' => ?_) _ ((hmem _).2 ⟨(U.nt ab b).toNat, hcast.symm, hy.1.1, hyb, hne⟩) (fun x hx hall => ?_)
      · obtain ⟨z, rfl, z1, z2, z3⟩ := (hmem y).1 hy'
        rw [← hcast]
        exact (domB_nat B z _).2 ⟨z1, hy.1.1, top z z2 z3⟩
      · obtain ⟨z, rfl, z1, z2, z3⟩ := (hmem x).1 hx
        have h9 := hall (U.nt ab b) ((hmem _).2 ⟨(U.nt ab b).toNat, hcast.symm, hy.1.1, hyb, hne⟩)
        rw [← hcast, domB_nat B] at h9
        have := dom_anti B X z1 hy.1.1 (top z z2 z3) h9.2.2
        omega
  · have : U.othD nx n b = [] := List.eq_nil_iff_forall_not_mem.2 fun x hx => by
      obtain ⟨y, _, _, h3, h4⟩ := (hmem x).1 hx
      exact hr ((B.rch hb).2 h3.1)
    unfold U.aboveD
    rw [this, X.tr.un b hb (by omega)]; rfl
end
end Go.Proofs.Ytabdcfcnngnnoaa.E
