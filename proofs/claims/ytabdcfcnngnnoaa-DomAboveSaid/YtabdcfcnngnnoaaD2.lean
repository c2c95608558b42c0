/- Dominators: the plain law of a tree that grows until nothing changes. No program here. -/
import Derived.Test.YtabdcfcnngnnoaaD0x
set_option linter.unusedVariables false
set_option linter.unusedSectionVars false
set_option linter.unusedSimpArgs false
namespace Go.Proofs.Ytabdcfcnngnnoaa.E
open Go
/-! A walk's order: each block but the first one has one ahead of it that leads to it. -/
def ParIn (nx : Int → List Int) (src ext : List Int) : Prop := ∀ (l1 : List Int) (x : Int) (l2 : List Int), ext = l1 ++ x :: l2 → x ∈ src ∨ ∃ a ∈ l2, x ∈ nx a
theorem par_fold {nx : Int → List Int} (k : Nat) (ih : ∀ (b : Int) (s : List Bool × List Int), ∃ ext, (U.walkS nx k b s).2 = s.2 ++ ext ∧ ParIn nx [b] ext) : ∀ (l : List Int) (s : List Bool × List Int), ∃ ext, (l.foldl (fun s t => U.walkS nx k t s) s).2 = s.2 ++ ext ∧ ParIn nx l ext
  | [], s => ⟨[], by simp, fun l1 x l2 h => by simp at h⟩
  | t :: l, s => by
    obtain ⟨e1, h1, p1⟩ := ih t s
    obtain ⟨e2, h2, p2⟩ := par_fold k ih l (U.walkS nx k t s)
    refine ⟨e1 ++ e2, by rw [List.foldl_cons, h2, h1, List.append_assoc], fun l1 x l2 h => ?_⟩
    rcases List.append_eq_append_iff.1 h with ⟨a', h3, h4⟩ | ⟨c', h3, h4⟩
    · rcases p2 a' x l2 h4 with q | q
      · exact .inl (List.mem_cons_of_mem _ q)
      · exact .inr q
    · cases c' with
      | nil =>
        rcases p2 [] x l2 (by simpa using h4.symm) with q | q
        · exact .inl (List.mem_cons_of_mem _ q)
        · exact .inr q
      | cons y c =>
        simp only [List.cons_append, List.cons.injEq] at h4
        obtain ⟨rfl, rfl⟩ := h4
        rcases p1 l1 x c h3 with q | ⟨a, q1, q2⟩
        · rw [List.mem_singleton] at q; subst q; exact .inl (by simp)
        · exact .inr ⟨a, List.mem_append.2 (.inl q1), q2⟩
theorem par_walk {nx : Int → List Int} : ∀ (k : Nat) (b : Int) (s : List Bool × List Int), ∃ ext, (U.walkS nx k b s).2 = s.2 ++ ext ∧ ParIn nx [b] ext
  | 0, b, s => ⟨[], by simp [U.walkS], fun l1 x l2 h => by simp at h⟩
  | k + 1, b, s => by
    unfold U.walkS
    split
    · exact ⟨[], by simp, fun l1 x l2 h => by simp at h⟩
    · obtain ⟨e, h, p⟩ := par_fold k (par_walk k) (nx b) (s.1.set b.toNat true, s.2)
      refine ⟨e ++ [b], by show _ ++ [b] = _; rw [h, List.append_assoc], fun l1 x l2 hx => ?_⟩
      rcases List.append_eq_append_iff.1 hx with ⟨a', h3, h4⟩ | ⟨c', h3, h4⟩
      · cases a' with
        | nil => simp only [List.nil_append, List.cons.injEq] at h4; exact .inl (by rw [← h4.1]; simp)
        | cons y a => simp at h4
      · cases c' with
        | nil => simp only [List.nil_append, List.cons.injEq] at h4; exact .inl (by rw [h4.1]; simp)
        | cons y c =>
          simp only [List.cons_append, List.cons.injEq] at h4
          obtain ⟨rfl, rfl⟩ := h4
          rcases p l1 x c h3 with q | ⟨a, q1, q2⟩
          · exact .inr ⟨b, by simp, q⟩
          · exact .inr ⟨a, List.mem_append.2 (.inl q1), q2⟩
/-- The order of a walk. -/
structure Ord (nx : Int → List Int) (n : Nat) (od : List Int) : Prop where
  ran : ∀ x ∈ od, 0 ≤ x ∧ x < n
  nd : od.Nodup
  mem : ∀ x : Nat, (x : Int) ∈ od ↔ Way nx n 0 x
  head : ∃ e, od = 0 :: e
  par : ∀ (l1 : List Int) (x : Int) (l2 : List Int), od = l1 ++ x :: l2 → x = 0 ∨ ∃ a ∈ l1, x ∈ nx a
theorem ord_of {nx : Int → List Int} {n : Nat} (hnx : ∀ x : Int, 0 ≤ x → x < n → ∀ y ∈ nx x, 0 ≤ y ∧ y < n) (hn : 0 < n) : Ord nx n (U.left nx n).reverse := by
  have L := left_ok hnx hn
  refine ⟨fun x hx => L.ran x (List.mem_reverse.1 hx), (List.Perm.nodup_iff (List.reverse_perm _)).2 L.nd, fun x => by rw [List.mem_reverse]; exact L.mem x, ?_, fun l1 x l2 h => ?_⟩
  · obtain ⟨e, he⟩ := L.last
    exact ⟨e.reverse, by rw [he]; simp⟩
  · obtain ⟨ext, h1, h2⟩ := par_walk (nx := nx) n 0 (List.replicate n false, [])
    have h3 : U.left nx n = ext := by
      have : U.left nx n = (U.walkS nx n 0 (List.replicate n false, [])).2 := rfl
      rw [this, h1]; simp
    have h4 : ext = l2.reverse ++ x :: l1.reverse := by
      rw [← h3]
      have := congrArg List.reverse h
      rw [List.reverse_reverse] at this
      rw [this]; simp
    rcases h2 _ _ _ h4 with q | ⟨a, q1, q2⟩
    · exact .inl (List.mem_singleton.1 q)
    · exact .inr ⟨a, List.mem_reverse.1 q1, q2⟩
/-! Ways that miss a block. -/
/-- There is a way from 0 that misses z. -/
def WayA (nx : Int → List Int) (n : Nat) (z x : Nat) : Prop := z ≠ 0 ∧ WayW nx n z 0 x
/-- d lies on all ways from 0. -/
def DomR (nx : Int → List Int) (n : Nat) (d x : Nat) : Prop := Way nx n 0 x ∧ ¬ WayA nx n d x
section
variable {nx : Int → List Int} {n : Nat}
theorem WayW.way {z : Int} {a x : Nat} (h : WayW nx n z a x) : Way nx n a x := by
  induction h with
  | refl => exact .refl
  | step x t _ hx ht h0 h1 h2 ih => exact .step x t ih hx ht h0 h1 (by omega)
theorem WayW.lt {z : Int} {a x : Nat} (ha : a < n) (h : WayW nx n z a x) : x < n := by
  cases h with
  | refl => exact ha
  | step x t _ hx ht h0 h1 h2 => omega
theorem WayA.ne {z x : Nat} (h : WayA nx n z x) : x ≠ z := by
  obtain ⟨h0, h1⟩ := h
  cases h1 with
  | refl => omega
  | step x t _ _ _ h2 _ h4 => omega
theorem dom_refl {x : Nat} (h : Way nx n 0 x) : DomR nx n x x := ⟨h, fun q => q.ne rfl⟩
theorem dom_zero {x : Nat} (h : Way nx n 0 x) : DomR nx n 0 x := ⟨h, fun q => q.1 rfl⟩
/-- What dominates, but for the block itself, dominates all that lead to it. -/
theorem dom_pred {d x p : Nat} (h : DomR nx n d x) (hd : d ≠ x) (hp : Way nx n 0 p) (hpn : p < n) (hx : x < n) (he : (x : Int) ∈ nx p) : DomR nx n d p := by
  refine ⟨hp, fun q => h.2 ⟨q.1, ?_⟩⟩
  have := WayW.step p (x : Int) q.2 hpn he (by omega) (by omega) (by omega)
  simpa using this
theorem dom_lt {d x : Nat} (h : DomR nx n d x) (hx : x < n) (hn : 0 < n) : d < n := by
  refine Decidable.byContradiction fun q => h.2 ⟨by omega, ?_⟩
  have key : ∀ y, Way nx n 0 y → WayW nx n d 0 y := by
    intro y hy
    induction hy with
    | refl => exact .refl
    | step x t _ hx ht h0 h1 h2 ih => exact .step x t ih hx ht h0 h1 (by omega)
  exact key x h.1
theorem dom_way {d x : Nat} (h : DomR nx n d x) : Way nx n 0 d := by
  refine Classical.byContradiction fun q => h.2 ?_
  have key : ∀ y, Way nx n 0 y → WayW nx n d 0 y := by
    intro y hy
    induction hy with
    | refl => exact .refl
    | step x t hw hx ht h0 h1 h2 ih =>
      refine .step x t ih hx ht h0 h1 (fun e => q ?_)
      have := WayW.step x t hw hx ht h0 h1 h2
      rw [e] at this
      simpa using this
  exact ⟨fun e => q (e ▸ .refl), key x h.1⟩
theorem dom_at_zero {d : Nat} (h : DomR nx n d 0) : d = 0 := Classical.byContradiction fun q => h.2 ⟨q, .refl⟩
end
/-- What the walk's places are. -/
structure Base (nx : Int → List Int) (n : Nat) (od pl : List Int) : Prop where
  hn : 0 < n
  nxr : ∀ x : Int, 0 ≤ x → x < n → ∀ y ∈ nx x, 0 ≤ y ∧ y < n
  ord : Ord nx n od
  len : pl.length = n
  pos : ∀ (l1 : List Int) (x : Int) (l2 : List Int), od = l1 ++ x :: l2 → U.nt pl x.toNat = l1.length
  non : ∀ x : Nat, x < n → (x : Int) ∉ od → U.nt pl x = -1
section
variable {nx : Int → List Int} {n : Nat} {od pl : List Int} (B : Base nx n od pl)
include B
theorem Base.split {x : Nat} (h : (x : Int) ∈ od) : ∃ l1 l2, od = l1 ++ (x : Int) :: l2 ∧ U.nt pl x = l1.length := by
  obtain ⟨l1, l2, e⟩ := List.append_of_mem h
  have := B.pos l1 x l2 e
  rw [Int.toNat_natCast] at this
  exact ⟨l1, l2, e, this⟩
theorem Base.rch {x : Nat} (hx : x < n) : 0 ≤ U.nt pl x ↔ Way nx n 0 x := by
  rw [← B.ord.mem x]
  constructor
  · intro h
    refine Classical.byContradiction fun q => ?_
    have := B.non x hx q
    omega
  · intro h
    obtain ⟨l1, l2, _, e⟩ := B.split h
    omega
theorem Base.p0 : U.nt pl 0 = 0 := by
  obtain ⟨e, he⟩ := B.ord.head
  have := B.pos [] 0 e (by simpa using he)
  simpa using this
theorem Base.lt {x : Nat} (hx : x < n) : U.nt pl x < od.length := by
  by_cases h : (x : Int) ∈ od
  · obtain ⟨l1, l2, e, e2⟩ := B.split h
    rw [e2, e, List.length_append, List.length_cons]; omega
  · have := B.non x hx h; omega
theorem Base.inj {x y : Nat} (hx : x < n) (hy : y < n) (h0 : 0 ≤ U.nt pl x) (h : U.nt pl x = U.nt pl y) : x = y := by
  have mx : (x : Int) ∈ od := Classical.byContradiction fun q => by have := B.non x hx q; omega
  have my : (y : Int) ∈ od := Classical.byContradiction fun q => by have := B.non y hy q; omega
  obtain ⟨l1, l2, e1, e2⟩ := B.split mx
  obtain ⟨m1, m2, e3, e4⟩ := B.split my
  have hl : l1.length = m1.length := by omega
  rw [e1] at e3
  obtain ⟨_, h2⟩ := List.append_inj e3 hl
  simp only [List.cons.injEq] at h2
  omega
theorem Base.par {x : Nat} (hx : x < n) (h : 0 < U.nt pl x) : ∃ a : Nat, a < n ∧ 0 ≤ U.nt pl a ∧ U.nt pl a < U.nt pl x ∧ (x : Int) ∈ nx a := by
  have mx : (x : Int) ∈ od := Classical.byContradiction fun q => by have := B.non x hx q; omega
  obtain ⟨l1, l2, e1, e2⟩ := B.split mx
  rcases B.ord.par l1 x l2 e1 with q | ⟨a, q1, q2⟩
  · have : x = 0 := by omega
    subst this
    have := B.p0
    omega
  · obtain ⟨a0, a1⟩ := B.ord.ran a (by rw [e1]; exact List.mem_append.2 (.inl q1))
    obtain ⟨b1, b2, e3⟩ := List.append_of_mem q1
    have := B.pos b1 a (b2 ++ (x : Int) :: l2) (by rw [e1, e3]; simp)
    refine ⟨a.toNat, by omega, by omega, ?_, by rw [show ((a.toNat : Nat) : Int) = a by omega]; exact q2⟩
    rw [this, e2, e3, List.length_append, List.length_cons]; omega
end
namespace U
def noDef (pl ab : List Int) (a : Int) : Bool := decide (nt pl a.toNat < 0) || (!(a == 0) && decide (nt ab a.toNat < 0))
def meetS (ab pl : List Int) : Nat → Int → Int → Int
  | 0, a, b => a
  | k + 1, a, b => if a = b then a else if nt pl a.toNat > nt pl b.toNat then meetS ab pl k (nt ab a.toNat) b else meetS ab pl k a (nt ab b.toNat)
def nextS (ab pl : List Int) (K : Nat) : List Int → Int → Int
  | [], m => m
  | a :: l, m => nextS ab pl K l (if noDef pl ab a then m else if m < 0 then a else meetS ab pl K m a)
def passS (pv : Int → List Int) (pl : List Int) (K : Nat) : List Int → List Int × Bool → List Int × Bool
  | [], s => s
  | b :: l, s => passS pv pl K l (s.1.set b.toNat (nextS s.1 pl K (pv b) (-1)), s.2 || decide (nextS s.1 pl K (pv b) (-1) ≠ nt s.1 b.toNat))
end U
/-- Is it in the tree? -/
def Df (n : Nat) (pl ab : List Int) (x : Nat) : Prop := x < n ∧ 0 ≤ U.nt pl x ∧ (x = 0 ∨ 0 ≤ U.nt ab x)
structure Tr (n : Nat) (pl ab : List Int) : Prop where
  len : ab.length = n
  a0 : U.nt ab 0 = -1
  un : ∀ x, x < n → U.nt pl x < 0 → U.nt ab x = -1
  dn : ∀ x, x < n → x ≠ 0 → 0 ≤ U.nt pl x → U.nt ab x = -1 ∨ (0 ≤ U.nt ab x ∧ Df n pl ab (U.nt ab x).toNat ∧ U.nt pl (U.nt ab x).toNat < U.nt pl x)
/-- Up the tree. -/
inductive Up (ab : List Int) : Nat → Nat → Prop
  | refl (x : Nat) : Up ab x x
  | step (x y : Nat) : 0 ≤ U.nt ab x → Up ab (U.nt ab x).toNat y → Up ab x y
theorem noDef_iff {n : Nat} {pl ab : List Int} {a : Nat} (ha : a < n) : U.noDef pl ab a = false ↔ Df n pl ab a := by
  unfold U.noDef Df
  rw [Int.toNat_natCast, Bool.or_eq_false_iff, Bool.and_eq_false_iff, decide_eq_false_iff_not, decide_eq_false_iff_not]
  simp only [Bool.not_eq_false', beq_iff_eq]
  omega
section
variable {nx : Int → List Int} {n : Nat} {od pl ab : List Int} (B : Base nx n od pl) (T : Tr n pl ab)
theorem Up.trans {x y z : Nat} (h : Up ab x y) (g : Up ab y z) : Up ab x z := by
  induction h with
  | refl x => exact g
  | step x y h0 _ ih => exact .step x z h0 (ih g)
include B T
theorem df_up {x : Nat} (h : Df n pl ab x) (h0 : 0 ≤ U.nt ab x) : Df n pl ab (U.nt ab x).toNat ∧ U.nt pl (U.nt ab x).toNat < U.nt pl x := by
  have hx : x ≠ 0 := fun e => by subst e; have := T.a0; omega
  rcases T.dn x h.1 hx h.2.1 with q | ⟨_, q⟩
  · omega
  · exact q
theorem up_df {x y : Nat} (h : Up ab x y) : Df n pl ab x → Df n pl ab y := by
  induction h with
  | refl x => exact id
  | step x y h0 _ ih => exact fun hd => ih (df_up B T hd h0).1
theorem up_le {x y : Nat} (h : Up ab x y) : Df n pl ab x → U.nt pl y ≤ U.nt pl x := by
  induction h with
  | refl x => exact fun _ => by omega
  | step x y h0 _ ih =>
    intro hd
    have h1 := df_up B T hd h0
    have := ih h1.1
    omega
theorem up_lt {x y : Nat} (h : Up ab x y) (hd : Df n pl ab x) (hne : y ≠ x) : U.nt pl y < U.nt pl x := by
  cases h with
  | refl => exact absurd rfl hne
  | step _ _ h0 g =>
    have h1 := df_up B T hd h0
    have := up_le B T g h1.1
    omega
theorem up_lin {x y z : Nat} (h : Up ab x y) : Up ab x z → Df n pl ab x → U.nt pl y ≤ U.nt pl z → Up ab z y := by
  induction h with
  | refl x =>
    intro g hd hle
    have h1 := up_le B T g hd
    have h2 := up_df B T g hd
    have : z = x := B.inj h2.1 hd.1 h2.2.1 (by omega)
    subst this; exact .refl _
  | step x y h0 hy ih =>
    intro g hd hle
    cases g with
    | refl => exact .step _ y h0 hy
    | step _ _ _ g => exact ih g (df_up B T hd h0).1 hle
theorem up_anti {x y : Nat} (h : Up ab x y) (g : Up ab y x) (hd : Df n pl ab x) : x = y := by
  have h1 := up_le B T h hd
  have h2 := up_df B T h hd
  have h3 := up_le B T g h2
  exact B.inj hd.1 h2.1 hd.2.1 (by omega)
/-- What dominates is kept along the tree. -/
def Sound (nx : Int → List Int) (n : Nat) (pl ab : List Int) : Prop := ∀ x, x < n → 0 ≤ U.nt pl x → 0 ≤ U.nt ab x → ∀ d, DomR nx n d x → d = x ∨ DomR nx n d (U.nt ab x).toNat
variable (S : Sound nx n pl ab)
include S
theorem dom_up : ∀ (k x : Nat), U.nt pl x ≤ k → Df n pl ab x → ∀ d, DomR nx n d x → Up ab x d := by
  intro k
  induction k with
  | zero =>
    intro x hk hd d hD
    have : x = 0 := B.inj hd.1 B.hn hd.2.1 (by have := B.p0; have := hd.2.1; omega)
    subst this
    rw [dom_at_zero hD]; exact .refl _
  | succ k ih =>
    intro x hk hd d hD
    rcases hd.2.2 with e | h0
    · subst e; rw [dom_at_zero hD]; exact .refl _
    · rcases S x hd.1 hd.2.1 h0 d hD with e | q
      · subst e; exact .refl _
      · have h1 := df_up B T hd h0
        exact .step x d h0 (ih _ (by omega) h1.1 d q)
theorem dom_Up {x d : Nat} (hd : Df n pl ab x) (hD : DomR nx n d x) : Up ab x d := dom_up B T S (U.nt pl x).toNat x (by omega) hd d hD
/-- Where two meet. -/
theorem meet_ok : ∀ (k a b : Nat), Df n pl ab a → Df n pl ab b → U.nt pl a + U.nt pl b ≤ k → ∃ m : Nat, U.meetS ab pl k a b = m ∧ Df n pl ab m ∧ Up ab a m ∧ Up ab b m ∧ (∀ z, Up ab a z → Up ab b z → Up ab m z) ∧ ∀ d, DomR nx n d a → DomR nx n d b → DomR nx n d m := by
  intro k
  induction k with
  | zero =>
    intro a b ha hb hk
    have h1 := ha.2.1
    have h2 := hb.2.1
    have : a = b := B.inj ha.1 hb.1 h1 (by omega)
    subst this
    exact ⟨a, rfl, ha, .refl _, .refl _, fun z h _ => h, fun d h _ => h⟩
  | succ k ih =>
    intro a b ha hb hk
    unfold U.meetS
    by_cases e : a = b
    · subst e
      rw [if_pos rfl]
      exact ⟨a, rfl, ha, .refl _, .refl _, fun z h _ => h, fun d h _ => h⟩
    rw [if_neg (by omega), Int.toNat_natCast, Int.toNat_natCast]
    have hp0 := B.p0
    have h1 := ha.2.1
    have h2 := hb.2.1
    by_cases hc : U.nt pl a > U.nt pl b
    · rw [if_pos hc]
      have h0 : 0 ≤ U.nt ab a := by
        rcases ha.2.2 with q | q
        · subst q; omega
        · exact q
      obtain ⟨g1, g2⟩ := df_up B T ha h0
      obtain ⟨m, m1, m2, m3, m4, m5, m6⟩ := ih (U.nt ab a).toNat b g1 hb (by omega)
      rw [show (((U.nt ab a).toNat : Nat) : Int) = U.nt ab a by omega] at m1
      refine ⟨m, m1, m2, .step a m h0 m3, m4, fun z hz hz2 => ?_, fun d hd hd2 => ?_⟩
      · cases hz with
        | refl => have := up_le B T hz2 hb; omega
        | step _ _ _ hz => exact m5 z hz hz2
      · rcases S a ha.1 h1 h0 d hd with q | q
        · subst q
          have := up_le B T (dom_Up B T S hb hd2) hb
          omega
        · exact m6 d q hd2
    · rw [if_neg hc]
      have hne : U.nt pl a ≠ U.nt pl b := fun q => e (B.inj ha.1 hb.1 h1 q)
      have h0 : 0 ≤ U.nt ab b := by
        rcases hb.2.2 with q | q
        · subst q; omega
        · exact q
      obtain ⟨g1, g2⟩ := df_up B T hb h0
      obtain ⟨m, m1, m2, m3, m4, m5, m6⟩ := ih a (U.nt ab b).toNat ha g1 (by omega)
      rw [show (((U.nt ab b).toNat : Nat) : Int) = U.nt ab b by omega] at m1
      refine ⟨m, m1, m2, m3, .step b m h0 m4, fun z hz hz2 => ?_, fun d hd hd2 => ?_⟩
      · cases hz2 with
        | refl => have := up_le B T hz ha; omega
        | step _ _ _ hz2 => exact m5 z hz hz2
      · rcases S b hb.1 h2 h0 d hd2 with q | q
        · subst q
          have := up_le B T (dom_Up B T S ha hd) ha
          omega
        · exact m6 d hd q
omit B T S in
/-- Where all of some meet. -/
structure MeetOf (nx : Int → List Int) (n : Nat) (pl ab : List Int) (C : Nat → Prop) (m : Nat) : Prop where
  df : Df n pl ab m
  some : ∃ x, C x
  up : ∀ x, C x → Up ab x m
  least : ∀ z, (∀ x, C x → Up ab x z) → Up ab m z
  dom : ∀ d, (∀ x, C x → DomR nx n d x) → DomR nx n d m
omit B T S in
theorem MeetOf.congr {C C' : Nat → Prop} {m : Nat} (h : MeetOf nx n pl ab C m) (e : ∀ x, C x ↔ C' x) : MeetOf nx n pl ab C' m := by
  have : C = C' := funext fun x => propext (e x)
  rw [← this]; exact h
theorem next_ok (K : Nat) (hK : 2 * (od.length : Int) ≤ K) : ∀ (l : List Int) (r : Int) (C : Nat → Prop), (∀ a ∈ l, 0 ≤ a ∧ a < n) → (∀ x, C x → Df n pl ab x) → ((r = -1 ∧ ∀ x, ¬ C x) ∨ ∃ m : Nat, r = m ∧ MeetOf nx n pl ab C m) →
    (U.nextS ab pl K l r = -1 ∧ ∀ x, ¬ (C x ∨ ((x : Int) ∈ l ∧ Df n pl ab x))) ∨ ∃ m : Nat, U.nextS ab pl K l r = m ∧ MeetOf nx n pl ab (fun x => C x ∨ ((x : Int) ∈ l ∧ Df n pl ab x)) m
  | [], r, C, hl, hC, h => by
    rcases h with ⟨h1, h2⟩ | ⟨m, h1, h2⟩
    · exact .inl ⟨h1, fun x hx => by rcases hx with q | q; exact h2 x q; simp at q⟩
    · exact .inr ⟨m, h1, h2.congr fun x => by simp⟩
  | a :: l, r, C, hl, hC, h => by
    obtain ⟨a0, a1⟩ := hl a (by simp)
    obtain ⟨a, rfl⟩ := Int.eq_ofNat_of_zero_le a0
    have ha : a < n := by omega
    have hl' : ∀ x ∈ l, 0 ≤ x ∧ x < n := fun x hx => hl x (List.mem_cons_of_mem _ hx)
    unfold U.nextS
    cases hn : U.noDef pl ab a with
    | true =>
      have hna : ¬ Df n pl ab a := fun q => by rw [(noDef_iff ha).2 q] at hn; cases hn
      rw [if_pos rfl]
      have e : ∀ x, (C x ∨ ((x : Int) ∈ l ∧ Df n pl ab x)) ↔ (C x ∨ ((x : Int) ∈ (a : Int) :: l ∧ Df n pl ab x)) := fun x => by
        rw [List.mem_cons]
        constructor
        · rintro (q | ⟨q1, q2⟩)
          · exact .inl q
          · exact .inr ⟨.inr q1, q2⟩
        · rintro (q | ⟨q1 | q1, q2⟩)
          · exact .inl q
          · have : x = a := by omega
            subst this; exact absurd q2 hna
          · exact .inr ⟨q1, q2⟩
      rcases next_ok K hK l r C hl' hC h with ⟨q1, q2⟩ | ⟨m, q1, q2⟩
      · exact .inl ⟨q1, fun x hx => q2 x ((e x).2 hx)⟩
      · exact .inr ⟨m, q1, q2.congr e⟩
    | false =>
      have hda : Df n pl ab a := (noDef_iff ha).1 hn
      rw [if_neg (by simp)]
      have e : ∀ x, ((C x ∨ x = a) ∨ ((x : Int) ∈ l ∧ Df n pl ab x)) ↔ (C x ∨ ((x : Int) ∈ (a : Int) :: l ∧ Df n pl ab x)) := fun x => by
        rw [List.mem_cons]
        constructor
        · rintro ((q | q) | ⟨q1, q2⟩)
          · exact .inl q
          · subst q; exact .inr ⟨.inl rfl, hda⟩
          · exact .inr ⟨.inr q1, q2⟩
        · rintro (q | ⟨q1 | q1, q2⟩)
          · exact .inl (.inl q)
          · exact .inl (.inr (by omega))
          · exact .inr ⟨q1, q2⟩
      have hC' : ∀ x, (C x ∨ x = a) → Df n pl ab x := fun x hx => by
        rcases hx with q | q
        · exact hC x q
        · subst q; exact hda
      have hnew : ∃ m : Nat, (if r < 0 then (a : Int) else U.meetS ab pl K r a) = m ∧ MeetOf nx n pl ab (fun x => C x ∨ x = a) m := by
        rcases h with ⟨h1, h2⟩ | ⟨m, h1, h2⟩
        · refine ⟨a, by rw [if_pos (by omega)], hda, ⟨a, .inr rfl⟩, fun x hx => ?_, fun z hz => hz a (.inr rfl), fun d hd => hd a (.inr rfl)⟩
          rcases hx with q | q
          · exact absurd q (h2 x)
          · subst q; exact .refl _
        · have b1 := B.lt h2.df.1
          have b2 := B.lt ha
          obtain ⟨w, w1, w2, w3, w4, w5, w6⟩ := meet_ok B T S K m a h2.df hda (by omega)
          refine ⟨w, by rw [if_neg (by omega), h1]; exact w1, w2, ⟨a, .inr rfl⟩, fun x hx => ?_, fun z hz => ?_, fun d hd => ?_⟩
          · rcases hx with q | q
            · exact (h2.up x q).trans w3
            · subst q; exact w4
          · exact w5 z (h2.least z fun x hx => hz x (.inl hx)) (hz a (.inr rfl))
          · exact w6 d (h2.dom d fun x hx => hd x (.inl hx)) (hd a (.inr rfl))
      rcases next_ok K hK l _ (fun x => C x ∨ x = a) hl' hC' (.inr hnew) with ⟨q1, q2⟩ | ⟨m, q1, q2⟩
      · exact absurd (Or.inl (Or.inr rfl)) (q2 a)
      · exact .inr ⟨m, q1, q2.congr e⟩
end
end Go.Proofs.Ytabdcfcnngnnoaa.E
