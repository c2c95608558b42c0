/- Dominators: what is told of the tree: depth, going up, where two meet. No program here. -/
import Derived.Test.YtabdcfcnngnnoaaD3
set_option linter.unusedVariables false
set_option linter.unusedSectionVars false
set_option linter.unusedSimpArgs false
namespace Go.Proofs.Ytabdcfcnngnnoaa.E
open Go
namespace U
def deepS (ab : List Int) : List Int → List Int → List Int
  | [], dp => dp
  | b :: l, dp => deepS ab l (dp.set b.toNat (nt dp (nt ab b.toNat).toNat + 1))
def climbS (ab dp : List Int) (a : Int) : Nat → Int → Int
  | 0, b => b
  | k + 1, b => if nt dp b.toNat > nt dp a.toNat then climbS ab dp a k (nt ab b.toNat) else b
end U
structure Deep (n : Nat) (pl ab dp : List Int) : Prop where
  len : dp.length = n
  un : ∀ x, x < n → U.nt pl x < 0 → U.nt dp x = -1
  z : U.nt dp 0 = 0
  up : ∀ x, x < n → x ≠ 0 → 0 ≤ U.nt pl x → U.nt dp x = U.nt dp (U.nt ab x).toNat + 1
structure DeepM (n : Nat) (pl ab : List Int) (J : Nat) (dp : List Int) : Prop where
  len : dp.length = n
  z : U.nt dp 0 = 0
  lo : ∀ x, x < n → x ≠ 0 → 0 ≤ U.nt pl x → U.nt pl x < J → U.nt dp x = U.nt dp (U.nt ab x).toNat + 1
  hi : ∀ x, x < n → (U.nt pl x < 0 ∨ J ≤ U.nt pl x) → U.nt dp x = -1
theorem nt_rep (n x : Nat) (v : Int) (h : x < n) : U.nt (List.replicate n v) x = v := by
  unfold U.nt
  rw [List.getD_eq_getElem?_getD, List.getElem?_replicate, if_pos h]; rfl
section
variable {nx : Int → List Int} {n : Nat} {od pl ab dp : List Int} (B : Base nx n od pl) (X : Exact nx n pl ab)
include B X
theorem deep_mid : ∀ (l pre dp : List Int), od = pre ++ l → 0 < pre.length → DeepM n pl ab pre.length dp → DeepM n pl ab od.length (U.deepS ab l dp)
  | [], pre, dp, h, h0, M => by
    rw [List.append_nil] at h
    rw [h]; exact M
  | b :: l, pre, dp, h, h0, M => by
    obtain ⟨b0, b1⟩ := B.ord.ran b (by rw [h]; simp)
    have hp := B.pos pre b l h
    have hb : b.toNat < n := by omega
    have hbne : b.toNat ≠ 0 := fun e => by rw [e] at hp; have := B.p0; omega
    have hd := (X.all b.toNat hb (by omega)).1
    have hab : 0 ≤ U.nt ab b.toNat := by
      rcases hd.2.2 with q | q
      · exact absurd q hbne
      · exact q
    have hy := df_up B X.tr hd hab
    have hlt : b.toNat < dp.length := by rw [M.len]; exact hb
    have hz0 : U.nt pl 0 = 0 := B.p0
    refine deep_mid l (pre ++ [b]) (dp.set b.toNat (U.nt dp (U.nt ab b.toNat).toNat + 1)) (by rw [h]; simp) (by simp) ⟨by rw [List.length_set]; exact M.len, ?_, fun x hx h1 h2 h3 => ?_, fun x hx h1 => ?_⟩
    · rw [nt_set _ _ hlt, if_neg (fun e => hbne e.symm)]; exact M.z
    · rw [List.length_append, List.length_singleton] at h3
      rw [nt_set _ _ hlt, nt_set _ _ hlt]
      by_cases e : x = b.toNat
      · rw [if_pos e, e, if_neg (fun e2 => by rw [e2] at hy; omega)]
      · have hxJ : U.nt pl x < pre.length := by
          have : U.nt pl x ≠ U.nt pl b.toNat := fun q => e (B.inj hx hb h2 q)
          omega
        have hdx := (X.all x hx h2).1
        have hax : 0 ≤ U.nt ab x := by
          rcases hdx.2.2 with q | q
          · exact absurd q h1
          · exact q
        have hyx := df_up B X.tr hdx hax
        rw [if_neg e, if_neg (fun e2 => by rw [e2] at hyx; omega)]
        exact M.lo x hx h1 h2 hxJ
    · rw [List.length_append, List.length_singleton] at h1
      rw [nt_set _ _ hlt, if_neg (fun e => by subst e; omega)]
      exact M.hi x hx (by omega)
theorem deep_ok {l : List Int} (ho : od = 0 :: l) : Deep n pl ab (U.deepS ab l ((List.replicate n (-1)).set 0 0)) := by
  have hz0 : U.nt pl 0 = 0 := B.p0
  have M := deep_mid B X l [0] ((List.replicate n (-1)).set 0 0) (by rw [ho]; rfl) (by simp) ⟨by simp, by rw [nt_set _ _ (by rw [List.length_replicate]; exact B.hn), if_pos rfl], fun x hx h1 h2 h3 => by
    have h3' : U.nt pl x < 1 := by simpa using h3
    have : x = 0 := B.inj hx B.hn h2 (by omega)
    exact absurd this h1, fun x hx h1 => by
    have h1' : U.nt pl x < 0 ∨ 1 ≤ U.nt pl x := by simpa using h1
    rw [nt_set _ _ (by rw [List.length_replicate]; exact B.hn), if_neg (fun e => by subst e; omega), nt_rep n x (-1) hx]⟩
  exact ⟨M.len, fun x hx h => M.hi x hx (.inl h), M.z, fun x hx h0 h => M.lo x hx h0 h (B.lt hx)⟩
variable (Q : Deep n pl ab dp)
include Q
theorem deep_rng : ∀ (k x : Nat), U.nt pl x ≤ k → x < n → 0 ≤ U.nt pl x → 0 ≤ U.nt dp x ∧ U.nt dp x ≤ U.nt pl x := by
  intro k
  induction k with
  | zero =>
    intro x hk hx h
    have hz0 : U.nt pl 0 = 0 := B.p0
    have : x = 0 := B.inj hx B.hn h (by omega)
    subst this
    have := Q.z
    omega
  | succ k ih =>
    intro x hk hx h
    by_cases e : x = 0
    · subst e
      have := Q.z
      omega
    · have hdx := (X.all x hx h).1
      have hax : 0 ≤ U.nt ab x := by
        rcases hdx.2.2 with q | q
        · exact absurd q e
        · exact q
      have hy := df_up B X.tr hdx hax
      have := ih (U.nt ab x).toNat (by omega) hy.1.1 hy.1.2.1
      have := Q.up x hx e h
      omega
theorem deep_at {x : Nat} (hx : x < n) (h : 0 ≤ U.nt pl x) : 0 ≤ U.nt dp x ∧ U.nt dp x ≤ U.nt pl x := deep_rng B X Q (U.nt pl x).toNat x (by omega) hx h
theorem there_iff {x : Nat} (hx : x < n) : 0 ≤ U.nt dp x ↔ 0 ≤ U.nt pl x := by
  constructor
  · intro h
    refine Decidable.byContradiction fun q => ?_
    have := Q.un x hx (by omega)
    omega
  · exact fun h => (deep_at B X Q hx h).1
theorem deep_up {x y : Nat} (h : Up ab x y) : Df n pl ab x → U.nt dp y ≤ U.nt dp x ∧ (y ≠ x → U.nt dp y < U.nt dp x) := by
  induction h with
  | refl x => exact fun _ => ⟨by omega, fun q => absurd rfl q⟩
  | step x y h0 _ ih =>
    intro hd
    have hx0 : x ≠ 0 := fun e => by subst e; have := X.tr.a0; omega
    have hy := df_up B X.tr hd h0
    have h1 := (ih hy.1).1
    have h2 := Q.up x hd.1 hx0 hd.2.1
    exact ⟨by omega, fun _ => by omega⟩
/-- Going up from b as long as it is deeper than a. -/
theorem climb_ok {a : Nat} (ha : Df n pl ab a) : ∀ (k b : Nat), Df n pl ab b → U.nt dp b - U.nt dp a ≤ k → ∃ c : Nat, U.climbS ab dp a k b = c ∧ Df n pl ab c ∧ ((a : Int) = c ↔ Up ab b a) := by
  have fin : ∀ b : Nat, Df n pl ab b → U.nt dp b ≤ U.nt dp a → ((a : Int) = b ↔ Up ab b a) := fun b hb h => by
    constructor
    · intro e
      have : a = b := by omega
      subst this; exact .refl _
    · intro g
      have := (deep_up B X Q g hb).2
      refine Decidable.byContradiction fun q => ?_
      have := this (by omega)
      omega
  intro k
  induction k with
  | zero => exact fun b hb h => ⟨b, rfl, hb, fin b hb (by omega)⟩
  | succ k ih =>
    intro b hb h
    unfold U.climbS
    rw [Int.toNat_natCast, Int.toNat_natCast]
    by_cases hc : U.nt dp b > U.nt dp a
    · rw [if_pos hc]
      have hb0 : b ≠ 0 := fun e => by
        subst e
        have := Q.z
        have := deep_at B X Q ha.1 ha.2.1
        omega
      have hab : 0 ≤ U.nt ab b := by
        rcases hb.2.2 with q | q
        · exact absurd q hb0
        · exact q
      have hy := df_up B X.tr hb hab
      have hq := Q.up b hb.1 hb0 hb.2.1
      obtain ⟨c, c1, c2, c3⟩ := ih (U.nt ab b).toNat hy.1 (by omega)
      rw [show (((U.nt ab b).toNat : Nat) : Int) = U.nt ab b by omega] at c1
      refine ⟨c, c1, c2, c3.trans ⟨fun g => .step b a hab g, fun g => ?_⟩⟩
      cases g with
      | refl => omega
      | step _ _ _ g => exact g
    · rw [if_neg hc]
      exact ⟨b, rfl, hb, fin b hb (by omega)⟩
omit Q
theorem up_iff {x z : Nat} (hx : x < n) (h : 0 ≤ U.nt pl x) : Up ab x z ↔ DomR nx n z x :=
  ⟨(X.all x hx h).2 z, dom_Up B X.tr X.sd (X.all x hx h).1⟩
end
/-! By the document: what is reached without a block. -/
namespace U
noncomputable def wiB (nx : Int → List Int) (n : Nat) (wo x : Int) : Bool := (withinB nx n 0 wo).getD x.toNat default
noncomputable def domB (nx : Int → List Int) (n : Nat) (a b : Int) : Bool :=
  !(decide (a < 0) || (decide (b < 0) || (decide (a ≥ n) || decide (b ≥ n)))) && (wiB nx n (-1) a && (wiB nx n (-1) b && ((a == b) || !(wiB nx n a b))))
end U
theorem domB_iff {nx : Int → List Int} {n : Nat} (hn : 0 < n) (a b : Int) : U.domB nx n a b = true ↔ 0 ≤ a ∧ 0 ≤ b ∧ a < n ∧ b < n ∧ DomR nx n a.toNat b.toNat := by
  have w : ∀ (wo : Int) (x : Nat), x < n → (U.wiB nx n wo x = true ↔ (0 : Int) ≠ wo ∧ WayW nx n wo 0 x) := fun wo x hx => by
    have := withinB_on nx n 0 wo x
    unfold U.wiB
    unfold on at this
    rw [Int.toNat_natCast, this]
    constructor
    · rintro ⟨_, _, _, h1, h2⟩; exact ⟨h1, h2⟩
    · rintro ⟨h1, h2⟩; exact ⟨hx, by omega, by omega, h1, h2⟩
  unfold U.domB
  rw [Bool.and_eq_true, Bool.and_eq_true, Bool.and_eq_true, Bool.or_eq_true]
  simp only [Bool.not_eq_true', Bool.or_eq_false_iff, decide_eq_false_iff_not, beq_iff_eq]
  constructor
  · rintro ⟨⟨h1, h2, h3, h4⟩, h5, h6, h7⟩
    obtain ⟨x, rfl⟩ := Int.eq_ofNat_of_zero_le (show 0 ≤ a by omega)
    obtain ⟨y, rfl⟩ := Int.eq_ofNat_of_zero_le (show 0 ≤ b by omega)
    have hx : x < n := by omega
    have hy : y < n := by omega
    refine ⟨by omega, by omega, by omega, by omega, ?_⟩
    rw [Int.toNat_natCast, Int.toNat_natCast]
    refine ⟨((w (-1) y hy).1 h6).2, fun q => ?_⟩
    rcases h7 with e | e
    · have : x = y := by omega
      subst this; exact q.ne rfl
    · have := (w x y hy).2 ⟨by have := q.1; omega, q.2⟩
      rw [this] at e; cases e
  · rintro ⟨h1, h2, h3, h4, h5⟩
    obtain ⟨x, rfl⟩ := Int.eq_ofNat_of_zero_le h1
    obtain ⟨y, rfl⟩ := Int.eq_ofNat_of_zero_le h2
    have hx : x < n := by omega
    have hy : y < n := by omega
    rw [Int.toNat_natCast, Int.toNat_natCast] at h5
    refine ⟨⟨by omega, by omega, by omega, by omega⟩, (w (-1) x hx).2 ⟨by omega, dom_way h5⟩, (w (-1) y hy).2 ⟨by omega, h5.1⟩, ?_⟩
    by_cases e : (x : Int) = y
    · exact .inl e
    · right
      cases hq : U.wiB nx n x y with
      | false => rfl
      | true =>
        have := (w x y hy).1 hq
        exact absurd ⟨by omega, this.2⟩ h5.2
theorem domB_no {nx : Int → List Int} {n : Nat} {a b : Int} (h : a < 0 ∨ b < 0 ∨ a ≥ n ∨ b ≥ n) : U.domB nx n a b = false := by
  unfold U.domB
  have : (!(decide (a < 0) || (decide (b < 0) || (decide (a ≥ n) || decide (b ≥ n))))) = false := by
    simp only [Bool.not_eq_false', Bool.or_eq_true, decide_eq_true_eq]
    omega
  rw [this, Bool.false_and]
end Go.Proofs.Ytabdcfcnngnnoaa.E
