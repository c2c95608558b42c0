/- Dominators: the plain law of a tree that grows until nothing changes. No program here. -/
import Derived.Test.YtabdcfcnngnnoaaDoorD0x
set_option linter.unusedVariables false
set_option linter.unusedSectionVars false
set_option linter.unusedSimpArgs false
namespace Go.Proofs.YtabdcfcnngnnoaaDoor.E
open Go
/-! A walk's order: each block but the first one has one ahead of it that leads to it. -/
def ParIn (nx : Int → List Int) (src ext : List Int) : Prop := ∀ (l1 : List Int) (x : Int) (l2 : List Int), ext = l1 ++ x :: l2 → x ∈ src ∨ ∃ a ∈ l2, x ∈ nx a
theorem par_fold {nx : Int → List Int} (k : Nat) (ih : ∀ (b : Int) (s : List Bool × List Int), ∃ ext, (U.walkS nx k b s).2 = s.2 ++ ext ∧ ParIn nx [b] ext) : ∀ (l : List Int) (s : List Bool × List Int), ∃ ext, (l.foldl (fun s t => U.walkS nx k t s) s).2 = s.2 ++ ext ∧ ParIn nx l ext
  | [], s => ⟨[], by simp, fun l1 x l2 h => by simp at h⟩
  | t :: l, s => by
    obtain ⟨e1, h1, p1⟩ := ih t s
    obtain ⟨e2, h2, p2⟩ := par_fold k ih l (U.walkS nx k t s)
    refine ⟨e1 ++ e2, by rw [List.foldl_cons, h2, h1, List.append_assoc], fun l1 x l2 h => ?_⟩
    rcases List.append_eq_append_iff.1 h with ⟨a', h3, h4⟩ | ⟨c', h3, h4⟩
    · rcases p2 a' x l2 h4 with q | q
      · exact .inl (List.mem_cons_of_mem _ q)
      · exact .inr q
    · cases c' with
      | nil =>
        rcases p2 [] x l2 (by simpa using h4.symm) with q | q
        · exact .inl (List.mem_cons_of_mem _ q)
        · exact .inr q
      | cons y c =>
        simp only [List.cons_append, List.cons.injEq] at h4
        obtain ⟨rfl, rfl⟩ := h4
        rcases p1 l1 x c h3 with q | ⟨a, q1, q2⟩
        · rw [List.mem_singleton] at q; subst q; exact .inl (by simp)
        · exact .inr ⟨a, List.mem_append.2 (.inl q1), q2⟩
theorem par_walk {nx : Int → List Int} : ∀ (k : Nat) (b : Int) (s : List Bool × List Int), ∃ ext, (U.walkS nx k b s).2 = s.2 ++ ext ∧ ParIn nx [b] ext
  | 0, b, s => ⟨[], by simp [U.walkS], fun l1 x l2 h => by simp at h⟩
  | k + 1, b, s => by
    unfold U.walkS
    split
    · exact ⟨[], by simp, fun l1 x l2 h => by simp at h⟩
    · obtain ⟨e, h, p⟩ := par_fold k (par_walk k) (nx b) (s.1.set b.toNat true, s.2)
      refine ⟨e ++ [b], by show _ ++ [b] = _; rw [h, List.append_assoc], fun l1 x l2 hx => ?_⟩
      rcases List.append_eq_append_iff.1 hx with ⟨a', h3, h4⟩ | ⟨c', h3, h4⟩
      · cases a' with
        | nil => simp only [List.nil_append, List.cons.injEq] at h4; exact .inl (by rw [← h4.1]; simp)
        | cons y a => simp at h4
      · cases c' with
        | nil => simp only [List.nil_append, List.cons.injEq] at h4; exact .inl (by rw [h4.1]; simp)
        | cons y c =>
          simp only [List.cons_append, List.cons.injEq] at h4
          obtain ⟨rfl, rfl⟩ := h4
          rcases p l1 x c h3 with q | ⟨a, q1, q2⟩
          · exact .inr ⟨b, by simp, q⟩
          · exact .inr ⟨a, List.mem_append.2 (.inl q1), q2⟩
/-- The order of a walk. -/
structure Ord (nx : Int → List Int) (n : Nat) (od : List Int) : Prop where
  ran : ∀ x ∈ od, 0 ≤ x ∧ x < n
  nd : od.Nodup
  mem : ∀ x : Nat, (x : Int) ∈ od ↔ Way nx n 0 x
  head : ∃ e, od = 0 :: e
  par : ∀ (l1 : List Int) (x : Int) (l2 : List Int), od = l1 ++ x :: l2 → x = 0 ∨ ∃ a ∈ l1, x ∈ nx a
theorem ord_of {nx : Int → List Int} {n : Nat} (hnx : ∀ x : Int, 0 ≤ x → x < n → ∀ y ∈ nx x, 0 ≤ y ∧ y < n) (hn : 0 < n) : Ord nx n (U.left nx n).reverse := by
  have L := left_ok hnx hn
  refine ⟨fun x hx => L.ran x (List.mem_reverse.1 hx), (List.Perm.nodup_iff (List.reverse_perm _)).2 L.nd, fun x => by rw [List.mem_reverse]; exact L.mem x, ?_, fun l1 x l2 h => ?_⟩
  · obtain ⟨e, he⟩ := L.last
    exact ⟨e.reverse, by rw [he]; simp⟩
  · obtain ⟨ext, h1, h2⟩ := par_walk (nx := nx) n 0 (List.replicate n false, [])
    have h3 : U.left nx n = ext := by
      have : U.left nx n = (U.walkS nx n 0 (List.replicate n false, [])).2 := rfl
      rw [this, h1]; simp
    have h4 : ext = l2.reverse ++ x :: l1.reverse := by
      rw [← h3]
      have := congrArg List.reverse h
      rw [List.reverse_reverse] at this
      rw [this]; simp
    rcases h2 _ _ _ h4 with q | ⟨a, q1, q2⟩
    · exact .inl (List.mem_singleton.1 q)
    · exact .inr ⟨a, List.mem_reverse.1 q1, q2⟩
/-! Ways that miss a block. -/
/-- There is a way from 0 that misses z. -/
def WayA (nx : Int → List Int) (n : Nat) (z x : Nat) : Prop := z ≠ 0 ∧ WayW nx n z 0 x
/-- d lies on all ways from 0. -/
def DomR (nx : Int → List Int) (n : Nat) (d x : Nat) : Prop := Way nx n 0 x ∧ ¬ WayA nx n d x
section
variable {nx : Int → List Int} {n : Nat}
theorem WayW.way {z : Int} {a x : Nat} (h : WayW nx n z a x) : Way nx n a x := by
  induction h with
  | refl => exact .refl
  | step x t _ hx ht h0 h1 h2 ih => exact .step x t ih hx ht h0 h1 (by omega)
theorem WayW.lt {z : Int} {a x : Nat} (ha : a < n) (h : WayW nx n z a x) : x < n := by
  cases h with
  | refl => exact ha
  | step x t _ hx ht h0 h1 h2 => omega
theorem WayA.ne {z x : Nat} (h : WayA nx n z x) : x ≠ z := by
  obtain ⟨h0, h1⟩ := h
  cases h1 with
  | refl => omega
  | step x t _ _ _ h2 _ h4 => omega
theorem dom_refl {x : Nat} (h : Way nx n 0 x) : DomR nx n x x := ⟨h, fun q => q.ne rfl⟩
theorem dom_zero {x : Nat} (h : Way nx n 0 x) : DomR nx n 0 x := ⟨h, fun q => q.1 rfl⟩
/-- What dominates, but for the block itself, dominates all that lead to it. -/
theorem dom_pred {d x p : Nat} (h : DomR nx n d x) (hd : d ≠ x) (hp : Way nx n 0 p) (hpn : p < n) (hx : x < n) (he : (x : Int) ∈ nx p) : DomR nx n d p := by
  refine ⟨hp, fun q => h.2 ⟨q.1, ?_⟩⟩
  have := WayW.step p (x : Int) q.2 hpn he (by omega) (by omega) (by omega)
  simpa using this
theorem dom_lt {d x : Nat} (h : DomR nx n d x) (hx : x < n) (hn : 0 < n) : d < n := by
  refine Decidable.byContradiction fun q => h.2 ⟨by omega, ?_⟩
  have key : ∀ y, Way nx n 0 y → WayW nx n d 0 y := by
    intro y hy
    induction hy with
    | refl => exact .refl
    | step x t _ hx ht h0 h1 h2 ih => exact .step x t ih hx ht h0 h1 (by omega)
  exact key x h.1
theorem dom_way {d x : Nat} (h : DomR nx n d x) : Way nx n 0 d := by
  refine Classical.byContradiction fun q => h.2 ?_
  have key : ∀ y, Way nx n 0 y → WayW nx n d 0 y := by
    intro y hy
    induction hy with
    | refl => exact .refl
    | step x t hw hx ht h0 h1 h2 ih =>
      refine .step x t ih hx ht h0 h1 (fun e => q ?_)
      have := WayW.step x t hw hx ht h0 h1 h2
      rw [e] at this
      simpa using this
  exact ⟨fun e => q (e ▸ .refl), key x h.1⟩
theorem dom_at_zero {d : Nat} (h : DomR nx n d 0) : d = 0 := Classical.byContradiction fun q => h.2 ⟨q, .refl⟩
end
/-- What the walk's places are. -/
structure Base (nx : Int → List Int) (n : Nat) (od pl : List Int) : Prop where
  hn : 0 < n
  nxr : ∀ x : Int, 0 ≤ x → x < n → ∀ y ∈ nx x, 0 ≤ y ∧ y < n
  ord : Ord nx n od
  len : pl.length = n
  pos : ∀ (l1 : List Int) (x : Int) (l2 : List Int), od = l1 ++ x :: l2 → U.nt pl x.toNat = l1.length
  non : ∀ x : Nat, x < n → (x : Int) ∉ od → U.nt pl x = -1
section
variable {nx : Int → List Int} {n : Nat} {od pl : List Int} (B : Base nx n od pl)
include B
theorem Base.split {x : Nat} (h : (x : Int) ∈ od) : ∃ l1 l2, od = l1 ++ (x : Int) :: l2 ∧ U.nt pl x = l1.length := by
  obtain ⟨l1, l2, e⟩ := List.append_of_mem h
  have := B.pos l1 x l2 e
  rw [Int.toNat_natCast] at this
  exact ⟨l1, l2, e, this⟩
theorem Base.rch {x : Nat} (hx : x < n) : 0 ≤ U.nt pl x ↔ Way nx n 0 x := by
  rw [← B.ord.mem x]
  constructor
  · intro h
    refine Classical.byContradiction fun q => ?_
    have := B.non x hx q
    omega
  · intro h
    obtain ⟨l1, l2, _, e⟩ := B.split h
    omega
theorem Base.p0 : U.nt pl 0 = 0 := by
  obtain ⟨e, he⟩ := B.ord.head
  have := B.pos [] 0 e (by simpa using he)
  simpa using this
theorem Base.lt {x : Nat} (hx : x < n) : U.nt pl x < od.length := by
  by_cases h : (x : Int) ∈ od
  · obtain ⟨l1, l2, e, e2⟩ := B.split h
    rw [e2, e, List.length_append, List.length_cons]; omega
  · have := B.non x hx h; omega
theorem Base.inj {x y : Nat} (hx : x < n) (hy : y < n) (h0 : 0 ≤ U.nt pl x) (h : U.nt pl x = U.nt pl y) : x = y := by
  have mx : (x : Int) ∈ od := Classical.byContradiction fun q => by have := B.non x hx q; omega
  have my : (y : Int) ∈ od := Classical.byContradiction fun q => by have := B.non y hy q; omega
  obtain ⟨l1, l2, e1, e2⟩ := B.split mx
  obtain ⟨m1, m2, e3, e4⟩ := B.split my
  have hl : l1.length = m1.length := by omega
  rw [e1] at e3
  obtain ⟨_, h2⟩ := List.append_inj e3 hl
  simp only [List.cons.injEq] at h2
  omega
theorem Base.par {x : Nat} (hx : x < n) (h : 0 < U.nt pl x) : ∃ a : Nat, a < n ∧ 0 ≤ U.nt pl a ∧ U.nt pl a < U.nt pl x ∧ (x : Int) ∈ nx a := by
  have mx : (x : Int) ∈ od := Classical.byContradiction fun q => by have := B.non x hx q; omega
  obtain ⟨l1, l2, e1, e2⟩ := B.split mx
  rcases B.ord.par l1 x l2 e1 with q | ⟨a, q1, q2⟩
  · have : x = 0 := by omega
    subst this
    have := B.p0
    omega
  · obtain ⟨a0, a1⟩ := B.ord.ran a (by rw [e1]; exact List.mem_append.2 (.inl q1))
    obtain ⟨b1, b2, e3⟩ := List.append_of_mem q1
    have := B.pos b1 a (b2 ++ (x : Int) :: l2) (by rw [e1, e3]; simp)
    refine ⟨a.toNat, by omega, by omega, ?_, by rw [show ((a.toNat : Nat) : Int) = a by omega]; exact q2⟩
    rw [this, e2, e3, List.length_append, List.length_cons]; omega
end
namespace U
def noDef (pl ab : List Int) (a : Int) : Bool := decide (nt pl a.toNat < 0) || (!(a == 0) && decide (nt ab a.toNat < 0))
def meetS (ab pl : List Int) : Nat → Int → Int → Int
  | 0, a, b => a
  | k + 1, a, b => if a = b then a else if nt pl a.toNat > nt pl b.toNat then meetS ab pl k (nt ab a.toNat) b else meetS ab pl k a (nt ab b.toNat)
def nextS (ab pl : List Int) (K : Nat) : List Int → Int → Int
  | [], m => m
  | a :: l, m => nextS ab pl K l (if noDef pl ab a then m else if m < 0 then a else meetS ab pl K m a)
def passS (pv : Int → List Int) (pl : List Int) (K : Nat) : List Int → List Int × Bool → List Int × Bool
  | [], s => s
  | b :: l, s => passS pv pl K l (s.1.set b.toNat (nextS s.1 pl K (pv b) (-1)), s.2 || decide (nextS s.1 pl K (pv b) (-1) ≠ nt s.1 b.toNat))
end U
/-- Is it in the tree? -/
def Df (n : Nat) (pl ab : List Int) (x : Nat) : Prop := x < n ∧ 0 ≤ U.nt pl x ∧ (x = 0 ∨ 0 ≤ U.nt ab x)
structure Tr (n : Nat) (pl ab : List Int) : Prop where
  len : ab.length = n
  a0 : U.nt ab 0 = -1
  un : ∀ x, x < n → U.nt pl x < 0 → U.nt ab x = -1
  dn : ∀ x, x < n → x ≠ 0 → 0 ≤ U.nt pl x → U.nt ab x = -1 ∨ (0 ≤ U.nt ab x ∧ Df n pl ab (U.nt ab x).toNat ∧ U.nt pl (U.nt ab x).toNat < U.nt pl x)
/-- Up the tree. -/
inductive Up (ab : List Int) : Nat → Nat → Prop
  | refl (x : Nat) : Up ab x x
  | step (x y : Nat) : 0 ≤ U.nt ab x → Up ab (U.nt ab x).toNat y → Up ab x y
theorem noDef_iff {n : Nat} {pl ab : List Int} {a : Nat} (ha : a < n) : U.noDef pl ab a = false ↔ Df n pl ab a := by
  unfold U.noDef Df
  rw [Int.toNat_natCast, Bool.or_eq_false_iff, Bool.and_eq_false_iff, decide_eq_false_iff_not, decide_eq_false_iff_not]
  simp only [Bool.not_eq_false', beq_iff_eq]
  omega
section
variable {nx : Int → List Int} {n : Nat} {od pl ab : List Int} (B : Base nx n od pl) (T : Tr n pl ab)
theorem Up.trans {x y z : Nat} (h : Up ab x y) (g : Up ab y z) : Up ab x z := by
  induction h with
  | refl x => exact g
  | step x y h0 _ ih => exact .step x z h0 (ih g)
include B T
theorem df_up {x : Nat} (h : Df n pl ab x) (h0 : 0 ≤ U.nt ab x) : Df n pl ab (U.nt ab x).toNat ∧ U.nt pl (U.nt ab x).toNat < U.nt pl x := by
  have hx : x ≠ 0 := fun e => by subst e; have := T.a0; omega
  rcases T.dn x h.1 hx h.2.1 with q | ⟨_, q⟩
  · omega
  · exact q
theorem up_df {x y : Nat} (h : Up ab x y) : Df n pl ab x → Df n pl ab y := by
  induction h with
  | refl x => exact id
  | step x y h0 _ ih => exact fun hd => ih (df_up B T hd h0).1
theorem up_le {x y : Nat} (h : Up ab x y) : Df n pl ab x → U.nt pl y ≤ U.nt pl x := by
  induction h with
  | refl x => exact fun _ => by omega
  | step x y h0 _ ih =>
    intro hd
    have h1 := df_up B T hd h0
    have := ih h1.1
    omega
theorem up_lt {x y : Nat} (h : Up ab x y) (hd : Df n pl ab x) (hne : y ≠ x) : U.nt pl y < U.nt pl x := by
  cases h with
  | refl => exact absurd rfl hne
  | step _ _ h0 g =>
    have h1 := df_up B T hd h0
    have := up_le B T g h1.1
    omega
theorem up_lin {x y z : Nat} (h : Up ab x y) : Up ab x z → Df n pl ab x → U.nt pl y ≤ U.nt pl z → Up ab z y := by
  induction h with
  | refl x =>
    intro g hd hle
    have h1 := up_le B T g hd
    have h2 := up_df B T g hd
    have : z = x := B.inj h2.1 hd.1 h2.2.1 (by omega)
    subst this; exact .refl _
  | step x y h0 hy ih =>
    intro g hd hle
    cases g with
    | refl => exact .step _ y h0 hy
    | step _ _ _ g => exact ih g (df_up B T hd h0).1 hle
theorem up_anti {x y : Nat} (h : Up ab x y) (g : Up ab y x) (hd : Df n pl ab x) : x = y := by
  have h1 := up_le B T h hd
  have h2 := up_df B T h hd
  have h3 := up_le B T g h2
  exact B.inj hd.1 h2.1 hd.2.1 (by omega)
/-- What dominates is kept along the tree. -/
def Sound (nx : Int → List Int) (n : Nat) (pl ab : List Int) : Prop := ∀ x, x < n → 0 ≤ U.nt pl x → 0 ≤ U.nt ab x → ∀ d, DomR nx n d x → d = x ∨ DomR nx n d (U.nt ab x).toNat
variable (S : Sound nx n pl ab)
include S
theorem dom_up : ∀ (k x : Nat), U.nt pl x ≤ k → Df n pl ab x → ∀ d, DomR nx n d x → Up ab x d := by
  intro k
  induction k with
  | zero =>
    intro x hk hd d hD
    have : x = 0 := B.inj hd.1 B.hn hd.2.1 (by have := B.p0; have := hd.2.1; omega)
    subst this
    rw [dom_at_zero hD]; exact .refl _
  | succ k ih =>
    intro x hk hd d hD
    rcases hd.2.2 with e | h0
    · subst e; rw [dom_at_zero hD]; exact .refl _
    · rcases S x hd.1 hd.2.1 h0 d hD with e | q
      · subst e; exact .refl _
      · have h1 := df_up B T hd h0
        exact .step x d h0 (ih _ (by omega) h1.1 d q)
theorem dom_Up {x d : Nat} (hd : Df n pl ab x) (hD : DomR nx n d x) : Up ab x d := dom_up B T S (U.nt pl x).toNat x (by omega) hd d hD
/-- Where two meet. -/
theorem meet_ok : ∀ (k a b : Nat), Df n pl ab a → Df n pl ab b → U.nt pl a + U.nt pl b ≤ k → ∃ m : Nat, U.meetS ab pl k a b = m ∧ Df n pl ab m ∧ Up ab a m ∧ Up ab b m ∧ (∀ z, Up ab a z → Up ab b z → Up ab m z) ∧ ∀ d, DomR nx n d a → DomR nx n d b → DomR nx n d m := by
  intro k
  induction k with
  | zero =>
    intro a b ha hb hk
    have h1 := ha.2.1
    have h2 := hb.2.1
    have : a = b := B.inj ha.1 hb.1 h1 (by omega)
    subst this
    exact ⟨a, rfl, ha, .refl _, .refl _, fun z h _ => h, fun d h _ => h⟩
  | succ k ih =>
    intro a b ha hb hk
    unfold U.meetS
    by_cases e : a = b
    · subst e
      rw [if_pos rfl]
      exact ⟨a, rfl, ha, .refl _, .refl _, fun z h _ => h, fun d h _ => h⟩
    rw [if_neg (by omega), Int.toNat_natCast, Int.toNat_natCast]
    have hp0 := B.p0
    have h1 := ha.2.1
    have h2 := hb.2.1
    by_cases hc : U.nt pl a > U.nt pl b
    · rw [if_pos hc]
      have h0 : 0 ≤ U.nt ab a := by
        rcases ha.2.2 with q | q
        · subst q; omega
        · exact q
      obtain ⟨g1, g2⟩ := df_up B T ha h0
      obtain ⟨m, m1, m2, m3, m4, m5, m6⟩ := ih (U.nt ab a).toNat b g1 hb (by omega)
      rw [show (((U.nt ab a).toNat : Nat) : Int) = U.nt ab a by omega] at m1
      refine ⟨m, m1, m2, .step a m h0 m3, m4, fun z hz hz2 => ?_, fun d hd hd2 => ?_⟩
      · cases hz with
        | refl => have := up_le B T hz2 hb; omega
        | step _ _ _ hz => exact m5 z hz hz2
      · rcases S a ha.1 h1 h0 d hd with q | q
        · subst q
          have := up_le B T (dom_Up B T S hb hd2) hb
          omega
        · exact m6 d q hd2
    · rw [if_neg hc]
      have hne : U.nt pl a ≠ U.nt pl b := fun q => e (B.inj ha.1 hb.1 h1 q)
      have h0 : 0 ≤ U.nt ab b := by
        rcases hb.2.2 with q | q
        · subst q; omega
        · exact q
      obtain ⟨g1, g2⟩ := df_up B T hb h0
      obtain ⟨m, m1, m2, m3, m4, m5, m6⟩ := ih a (U.nt ab b).toNat ha g1 (by omega)
      rw [show (((U.nt ab b).toNat : Nat) : Int) = U.nt ab b by omega] at m1
      refine ⟨m, m1, m2, m3, .step b m h0 m4, fun z hz hz2 => ?_, fun d hd hd2 => ?_⟩
      · cases hz2 with
        | refl => have := up_le B T hz ha; omega
        | step _ _ _ hz2 => exact m5 z hz hz2
      · rcases S b hb.1 h2 h0 d hd2 with q | q
        · subst q
          have := up_le B T (dom_Up B T S ha hd) ha
          omega
        · exact m6 d hd q
omit B T S in
/-- Where all of some meet. -/
structure MeetOf (nx : Int → List Int) (n : Nat) (pl ab : List Int) (C : Nat → Prop) (m : Nat) : Prop where
  df : Df n pl ab m
  some : ∃ x, C x
  up : ∀ x, C x → Up ab x m
  least : ∀ z, (∀ x, C x → Up ab x z) → Up ab m z
  dom : ∀ d, (∀ x, C x → DomR nx n d x) → DomR nx n d m
omit B T S in
theorem MeetOf.congr {C C' : Nat → Prop} {m : Nat} (h : MeetOf nx n pl ab C m) (e : ∀ x, C x ↔ C' x) : MeetOf nx n pl ab C' m := by
  have : C = C' := funext fun x => propext (e x)
  rw [← this]; exact h
theorem next_ok (K : Nat) (hK : 2 * (od.length : Int) ≤ K) : ∀ (l : List Int) (r : Int) (C : Nat → Prop), (∀ a ∈ l, 0 ≤ a ∧ a < n) → (∀ x, C x → Df n pl ab x) → ((r = -1 ∧ ∀ x, ¬ C x) ∨ ∃ m : Nat, r = m ∧ MeetOf nx n pl ab C m) →
    (U.nextS ab pl K l r = -1 ∧ ∀ x, ¬ (C x ∨ ((x : Int) ∈ l ∧ Df n pl ab x))) ∨ ∃ m : Nat, U.nextS ab pl K l r = m ∧ MeetOf nx n pl ab (fun x => C x ∨ ((x : Int) ∈ l ∧ Df n pl ab x)) m
  | [], r, C, hl, hC, h => by
    rcases h with ⟨h1, h2⟩ | ⟨m, h1, h2⟩
    · exact .inl ⟨h1, fun x hx => by rcases hx with q | q; exact h2 x q; simp at q⟩
    · exact .inr ⟨m, h1, h2.congr fun x => by simp⟩
  | a :: l, r, C, hl, hC, h => by
    obtain ⟨a0, a1⟩ := hl a (by simp)
    obtain ⟨a, rfl⟩ := Int.eq_ofNat_of_zero_le a0
    have ha : a < n := by omega
    have hl' : ∀ x ∈ l, 0 ≤ x ∧ x < n := fun x hx => hl x (List.mem_cons_of_mem _ hx)
    unfold U.nextS
    cases hn : U.noDef pl ab a with
    | true =>
      have hna : ¬ Df n pl ab a := fun q => by rw [(noDef_iff ha).2 q] at hn; cases hn
      rw [if_pos rfl]
      have e : ∀ x, (C x ∨ ((x : Int) ∈ l ∧ Df n pl ab x)) ↔ (C x ∨ ((x : Int) ∈ (a : Int) :: l ∧ Df n pl ab x)) := fun x => by
        rw [List.mem_cons]
        constructor
        · rintro (q | ⟨q1, q2⟩)
          · exact .inl q
          · exact .inr ⟨.inr q1, q2⟩
        · rintro (q | ⟨q1 | q1, q2⟩)
          · exact .inl q
          · have : x = a := by omega
            subst this; exact absurd q2 hna
          · exact .inr ⟨q1, q2⟩
      rcases next_ok K hK l r C hl' hC h with ⟨q1, q2⟩ | ⟨m, q1, q2⟩
      · exact .inl ⟨q1, fun x hx => q2 x ((e x).2 hx)⟩
      · exact .inr ⟨m, q1, q2.congr e⟩
    | false =>
      have hda : Df n pl ab a := (noDef_iff ha).1 hn
      rw [if_neg (by simp)]
      have e : ∀ x, ((C x ∨ x = a) ∨ ((x : Int) ∈ l ∧ Df n pl ab x)) ↔ (C x ∨ ((x : Int) ∈ (a : Int) :: l ∧ Df n pl ab x)) := fun x => by
        rw [List.mem_cons]
        constructor
        · rintro ((q | q) | ⟨q1, q2⟩)
          · exact .inl q
          · subst q; exact .inr ⟨.inl rfl, hda⟩
          · exact .inr ⟨.inr q1, q2⟩
        · rintro (q | ⟨q1 | q1, q2⟩)
          · exact .inl (.inl q)
          · exact .inl (.inr (by omega))
          · exact .inr ⟨q1, q2⟩
      have hC' : ∀ x, (C x ∨ x = a) → Df n pl ab x := fun x hx => by
        rcases hx with q | q
        · exact hC x q
        · subst q; exact hda
      have hnew : ∃ m : Nat, (if r < 0 then (a : Int) else U.meetS ab pl K r a) = m ∧ MeetOf nx n pl ab (fun x => C x ∨ x = a) m := by
        rcases h with ⟨h1, h2⟩ | ⟨m, h1, h2⟩
        · refine ⟨a, by rw [if_pos (by omega)], hda, ⟨a, .inr rfl⟩, fun x hx => ?_, fun z hz => hz a (.inr rfl), fun d hd => hd a (.inr rfl)⟩
          rcases hx with q | q
          · exact absurd q (h2 x)
          · subst q; exact .refl _
        · have b1 := B.lt h2.df.1
          have b2 := B.lt ha
          obtain ⟨w, w1, w2, w3, w4, w5, w6⟩ := meet_ok B T S K m a h2.df hda (by omega)
          refine ⟨w, by rw [if_neg (by omega), h1]; exact w1, w2, ⟨a, .inr rfl⟩, fun x hx => ?_, fun z hz => ?_, fun d hd => ?_⟩
          · rcases hx with q | q
            · exact (h2.up x q).trans w3
            · subst q; exact w4
          · exact w5 z (h2.least z fun x hx => hz x (.inl hx)) (hz a (.inr rfl))
          · exact w6 d (h2.dom d fun x hx => hd x (.inl hx)) (hd a (.inr rfl))
      rcases next_ok K hK l _ (fun x => C x ∨ x = a) hl' hC' (.inr hnew) with ⟨q1, q2⟩ | ⟨m, q1, q2⟩
      · exact absurd (Or.inl (Or.inr rfl)) (q2 a)
      · exact .inr ⟨m, q1, q2.congr e⟩
end
end Go.Proofs.YtabdcfcnngnnoaaDoor.E
set_option linter.unusedVariables false
set_option linter.unusedSectionVars false
set_option linter.unusedSimpArgs false
namespace Go.Proofs.YtabdcfcnngnnoaaDoor.E
open Go
/-- A way from 0 that misses z, with at most so many edges that lead back in the order. -/
inductive WayZ (nx : Int → List Int) (n : Nat) (pl : List Int) (z : Nat) : Nat → Nat → Prop
  | zero (k : Nat) : z ≠ 0 → WayZ nx n pl z k 0
  | fwd (k x t : Nat) : WayZ nx n pl z k x → x < n → (t : Int) ∈ nx x → t < n → t ≠ z → U.nt pl x < U.nt pl t → WayZ nx n pl z k t
  | back (k x t : Nat) : WayZ nx n pl z k x → x < n → (t : Int) ∈ nx x → t < n → t ≠ z → U.nt pl t ≤ U.nt pl x → WayZ nx n pl z (k + 1) t
section
variable {nx : Int → List Int} {n : Nat} {od pl ab : List Int}
theorem WayZ.ne {z k x : Nat} (h : WayZ nx n pl z k x) : x ≠ z := by
  cases h with
  | zero _ h => exact fun e => h e.symm
  | fwd _ _ _ _ _ _ _ h => exact h
  | back _ _ _ _ _ _ _ h => exact h
theorem WayZ.wayA {z k x : Nat} (h : WayZ nx n pl z k x) : WayA nx n z x := by
  induction h with
  | zero _ h => exact ⟨h, .refl⟩
  | fwd k x t _ h1 h2 h3 h4 h5 ih =>
    refine ⟨ih.1, ?_⟩
    have := WayW.step x (t : Int) ih.2 h1 h2 (by omega) (by omega) (by omega)
    simpa using this
  | back k x t _ h1 h2 h3 h4 h5 ih =>
    refine ⟨ih.1, ?_⟩
    have := WayW.step x (t : Int) ih.2 h1 h2 (by omega) (by omega) (by omega)
    simpa using this
theorem WayZ.suc {z k x : Nat} (h : WayZ nx n pl z k x) : WayZ nx n pl z (k + 1) x := by
  induction h with
  | zero _ h => exact .zero _ h
  | fwd k x t _ h1 h2 h3 h4 h5 ih => exact .fwd _ x t ih h1 h2 h3 h4 h5
  | back k x t _ h1 h2 h3 h4 h5 ih => exact .back _ x t ih h1 h2 h3 h4 h5
theorem WayZ.mono {z k x : Nat} (h : WayZ nx n pl z k x) : ∀ d, WayZ nx n pl z (k + d) x
  | 0 => h
  | d + 1 => (WayZ.mono h d).suc
/-- It misses c, or there is such a way to c. -/
theorem WayZ.cut {z k x : Nat} (c : Nat) (h : WayZ nx n pl z k x) : WayZ nx n pl c k x ∨ WayZ nx n pl z k c := by
  induction h with
  | zero k h =>
    by_cases e : c = 0
    · subst e; exact .inr (.zero k h)
    · exact .inl (.zero k e)
  | fwd k x t h0 h1 h2 h3 h4 h5 ih =>
    rcases ih with q | q
    · by_cases e : t = c
      · subst e; exact .inr (.fwd k x t h0 h1 h2 h3 h4 h5)
      · exact .inl (.fwd k x t q h1 h2 h3 e h5)
    · exact .inr q
  | back k x t h0 h1 h2 h3 h4 h5 ih =>
    rcases ih with q | q
    · by_cases e : t = c
      · subst e; exact .inr (.back k x t h0 h1 h2 h3 h4 h5)
      · exact .inl (.back k x t q h1 h2 h3 e h5)
    · exact .inr q.suc
theorem wayZ_of {z x : Nat} (hn : 0 < n) (h : WayA nx n z x) : ∃ k, WayZ nx n pl z k x := by
  obtain ⟨h0, h1⟩ := h
  induction h1 with
  | refl => exact ⟨0, .zero 0 h0⟩
  | step x t hw hx ht t0 t1 t2 ih =>
    obtain ⟨k, hk⟩ := ih
    have e : ((t.toNat : Nat) : Int) = t := by omega
    by_cases hc : U.nt pl x < U.nt pl t.toNat
    · exact ⟨k, .fwd k x t.toNat hk hx (by rw [e]; exact ht) (by omega) (by omega) hc⟩
    · exact ⟨k + 1, .back k x t.toNat hk hx (by rw [e]; exact ht) (by omega) (by omega) (by omega)⟩
theorem bound_of {P : Nat → Nat → Prop} (hm : ∀ x k d, P x k → P x (k + d)) (Q : Nat → Prop) (h : ∀ x, Q x → ∃ k, P x k) : ∀ m, ∃ K, ∀ x, x < m → Q x → P x K
  | 0 => ⟨0, fun x hx => by omega⟩
  | m + 1 => by
    obtain ⟨K, hK⟩ := bound_of hm Q h m
    by_cases hq : Q m
    · obtain ⟨k, hk⟩ := h m hq
      refine ⟨K + k, fun x hx q => ?_⟩
      by_cases e : x = m
      · subst e; rw [Nat.add_comm]; exact hm x k K hk
      · exact hm x K k (hK x (by omega) q)
    · exact ⟨K, fun x hx q => by
        by_cases e : x = m
        · subst e; exact absurd q hq
        · exact hK x (by omega) q⟩
theorem wayZ_bound (hn : 0 < n) (pl : List Int) : ∃ K, ∀ z, z < n → ∀ x, x < n → WayA nx n z x → WayZ nx n pl z K x := by
  have h1 : ∀ z, ∃ K, ∀ x, x < n → WayA nx n z x → WayZ nx n pl z K x := fun z =>
    bound_of (P := fun x k => WayZ nx n pl z k x) (fun x k d h => h.mono d) (fun x => WayA nx n z x) (fun x h => wayZ_of hn h) n
  obtain ⟨K, hK⟩ := bound_of (P := fun z k => ∀ x, x < n → WayA nx n z x → WayZ nx n pl z k x) (fun z k d h x hx hw => (h x hx hw).mono d) (fun _ => True) (fun z _ => h1 z) n
  exact ⟨K, fun z hz => hK z hz trivial⟩
theorem nt_set {l : List Int} {i : Nat} (j : Nat) (v : Int) (hi : i < l.length) : U.nt (l.set i v) j = if j = i then v else U.nt l j := getD_set l i j v hi
/-- What leads to a block, and is in the tree. -/
def PredD (nx : Int → List Int) (n : Nat) (pl ab : List Int) (b x : Nat) : Prop := (b : Int) ∈ nx x ∧ Df n pl ab x
variable (B : Base nx n od pl) {pv : Int → List Int} (hpv : ∀ b : Nat, b < n → ∀ x : Int, x ∈ pv b ↔ ∃ c : Nat, c < n ∧ x = c ∧ (b : Int) ∈ nx c) {K : Nat} (hK : 2 * (od.length : Int) ≤ K)
include B
theorem WayZ.reach {z k x : Nat} (h : WayZ nx n pl z k x) : x < n ∧ 0 ≤ U.nt pl x := by
  have h1 := h.wayA
  have hx := h1.2.lt B.hn
  exact ⟨hx, (B.rch hx).2 h1.2.way⟩
include hpv hK
theorem next_at (T : Tr n pl ab) (S : Sound nx n pl ab) {b p : Nat} (hb : b < n) (hp : PredD nx n pl ab b p) : ∃ m : Nat, U.nextS ab pl K (pv b) (-1) = m ∧ MeetOf nx n pl ab (PredD nx n pl ab b) m := by
  have e : ∀ x : Nat, (False ∨ ((x : Int) ∈ pv b ∧ Df n pl ab x)) ↔ PredD nx n pl ab b x := fun x => by
    unfold PredD
    rw [hpv b hb]
    constructor
    · rintro (q | ⟨⟨c, q1, q2, q3⟩, q4⟩)
      · exact q.elim
      · have : x = c := by omega
        subst this; exact ⟨q3, q4⟩
    · rintro ⟨q1, q2⟩
      exact .inr ⟨⟨x, q2.1, rfl, q1⟩, q2⟩
  rcases next_ok B T S K hK (pv b) (-1) (fun _ => False) (fun a ha => by obtain ⟨c, q1, q2, _⟩ := (hpv b hb a).1 ha; omega) (fun x h => h.elim) (.inl ⟨rfl, fun x h => h⟩) with ⟨_, q2⟩ | ⟨m, q1, q2⟩
  · exact absurd ((e p).2 hp) (q2 p)
  · exact ⟨m, q1, q2.congr e⟩
omit hpv hK
/-! One block's next above is told anew. -/
section
variable (T : Tr n pl ab) (S : Sound nx n pl ab) {b m : Nat} (hb : b < n) (hb0 : b ≠ 0) (hbr : 0 ≤ U.nt pl b) (hm : Df n pl ab m) (hlt : U.nt pl m < U.nt pl b)
include T hb
omit B in
theorem set_at (j : Nat) : U.nt (ab.set b m) j = if j = b then (m : Int) else U.nt ab j := nt_set j (m : Int) (by rw [T.len]; exact hb)
omit B in
theorem df_set {x : Nat} (h : Df n pl ab x) : Df n pl (ab.set b m) x := by
  refine ⟨h.1, h.2.1, ?_⟩
  rw [set_at T hb]
  rcases h.2.2 with q | q
  · exact .inl q
  · right; split
    · omega
    · exact q
include hb0 hbr hm hlt
omit B in
theorem tr_set : Tr n pl (ab.set b m) := by
  refine ⟨by rw [List.length_set]; exact T.len, ?_, fun x hx hp => ?_, fun x hx h0 hp => ?_⟩
  · rw [set_at T hb, if_neg (fun e => hb0 e.symm)]; exact T.a0
  · rw [set_at T hb, if_neg (fun e => by subst e; omega)]; exact T.un x hx hp
  · rw [set_at T hb]
    by_cases e : x = b
    · subst e
      rw [if_pos rfl, Int.toNat_natCast]
      exact .inr ⟨by omega, df_set T hb hm, hlt⟩
    · rw [if_neg e]
      rcases T.dn x hx h0 hp with q | ⟨q1, q2, q3⟩
      · exact .inl q
      · exact .inr ⟨q1, df_set T hb q2, q3⟩
theorem up_old {x z : Nat} (h : Up (ab.set b m) x z) : U.nt pl x < U.nt pl b → Df n pl ab x → Up ab x z := by
  induction h with
  | refl x => exact fun _ _ => .refl x
  | step x y h0 _ ih =>
    intro hx hd
    have hne : x ≠ b := fun e => by subst e; omega
    rw [set_at T hb, if_neg hne] at h0 ih
    have h1 := df_up B T hd h0
    exact .step x y h0 (ih (by omega) h1.1)
theorem up_new {x z : Nat} (h : Up ab x z) : U.nt pl x < U.nt pl b → Df n pl ab x → Up (ab.set b m) x z := by
  induction h with
  | refl x => exact fun _ _ => .refl x
  | step x y h0 _ ih =>
    intro hx hd
    have hne : x ≠ b := fun e => by subst e; omega
    have h1 := df_up B T hd h0
    have := ih (by omega) h1.1
    refine .step x y ?_ ?_
    · rw [set_at T hb, if_neg hne]; exact h0
    · rw [set_at T hb, if_neg hne]; exact this
theorem up_mix {x z : Nat} (h : Up (ab.set b m) x z) : (x = b ∨ Df n pl ab x) → Up ab x z ∨ (Up ab x b ∧ Up ab m z) := by
  induction h with
  | refl x => exact fun _ => .inl (.refl x)
  | step x y h0 g ih =>
    intro hd
    by_cases e : x = b
    · subst e
      rw [set_at T hb, if_pos rfl, Int.toNat_natCast] at g
      exact .inr ⟨.refl x, up_old B T hb hb0 hbr hm hlt g hlt hm⟩
    · rw [set_at T hb, if_neg e] at h0 ih
      have hd' : Df n pl ab x := by
        rcases hd with q | q
        · exact absurd q e
        · exact q
      have h1 := df_up B T hd' h0
      rcases ih (.inr h1.1) with q | ⟨q1, q2⟩
      · exact .inl (.step x y h0 q)
      · exact .inr ⟨.step x b h0 q1, q2⟩
include S
theorem sound_set (hM : MeetOf nx n pl ab (PredD nx n pl ab b) m) : Sound nx n pl (ab.set b m) := fun x hx hr h0 d hd => by
  rw [set_at T hb] at h0 ⊢
  by_cases e : x = b
  · subst e
    rw [if_pos rfl, Int.toNat_natCast]
    by_cases hdx : d = x
    · exact .inl hdx
    · exact .inr (hM.dom d fun p hp => dom_pred hd hdx ((B.rch hp.2.1).1 hp.2.2.1) hp.2.1 hx hp.1)
  · rw [if_neg e] at h0 ⊢
    exact S x hx hr h0 d hd
end
/-- In the midst of a round: the places below J are told anew. -/
structure Mid (nx : Int → List Int) (n : Nat) (pl : List Int) (k J : Nat) (ab : List Int) : Prop where
  tr : Tr n pl ab
  sd : Sound nx n pl ab
  lo : ∀ x, x < n → 0 ≤ U.nt pl x → U.nt pl x < J → Df n pl ab x ∧ ∀ z, Up ab x z → ¬ WayZ nx n pl z k x
  hi : ∀ j, k = j + 1 → ∀ x, x < n → 0 ≤ U.nt pl x → Df n pl ab x ∧ (J ≤ U.nt pl x → ∀ z, Up ab x z → ¬ WayZ nx n pl z j x)
include hpv hK
theorem mid_step {k J : Nat} (M : Mid nx n pl k J ab) {b : Nat} (hb : b < n) (hJ : U.nt pl b = J) (h0 : 0 < J) : Mid nx n pl k (J + 1) (ab.set b (U.nextS ab pl K (pv b) (-1))) ∧ 0 ≤ U.nextS ab pl K (pv b) (-1) := by
  have T := M.tr
  have S := M.sd
  have hp0 := B.p0
  have hb0 : b ≠ 0 := fun e => by subst e; omega
  obtain ⟨a, a1, a2, a3, a4⟩ := B.par hb (by omega)
  have hda := (M.lo a a1 a2 (by omega)).1
  obtain ⟨m, m1, m2⟩ := next_at B hpv hK T S hb ⟨a4, hda⟩
  have hma : U.nt pl m ≤ U.nt pl a := up_le B T (m2.up a ⟨a4, hda⟩) hda
  have hlt : U.nt pl m < U.nt pl b := by omega
  have hbr : 0 ≤ U.nt pl b := by omega
  have hdm := m2.df
  rw [m1]
  have key : ∀ z, Up ab m z → ¬ WayZ nx n pl z k b := fun z hz hw => by
    cases hw with
    | zero => exact hb0 rfl
    | fwd _ p _ g1 g2 g3 g4 g5 g6 =>
      obtain ⟨p1, p2⟩ := g1.reach B
      obtain ⟨q1, q2⟩ := M.lo p p1 p2 (by omega)
      exact q2 z ((m2.up p ⟨g3, q1⟩).trans hz) g1
    | back j p _ g1 g2 g3 g4 g5 g6 =>
      obtain ⟨p1, p2⟩ := g1.reach B
      obtain ⟨q1, q2⟩ := M.hi j rfl p p1 p2
      exact q2 (by omega) z ((m2.up p ⟨g3, q1⟩).trans hz) g1
  refine ⟨⟨tr_set T hb hb0 hbr hdm hlt, sound_set B T S hb hb0 hbr hdm hlt m2, fun x hx hr hxJ => ?_, fun j hj x hx hr => ?_⟩, by omega⟩
  · by_cases e : x = b
    · subst e
      refine ⟨⟨hx, hr, .inr ?_⟩, fun z hz hw => ?_⟩
      · rw [set_at T hb, if_pos rfl]; omega
      · cases hz with
        | refl => exact hw.ne rfl
        | step _ _ g0 g =>
          rw [set_at T hb, if_pos rfl, Int.toNat_natCast] at g
          exact key z (up_old B T hb hb0 hbr hdm hlt g hlt hdm) hw
    · have hxJ' : U.nt pl x < J := by
        have : U.nt pl x ≠ J := fun q => e (B.inj hx hb hr (by omega))
        omega
      obtain ⟨q1, q2⟩ := M.lo x hx hr hxJ'
      exact ⟨df_set T hb q1, fun z hz => q2 z (up_old B T hb hb0 hbr hdm hlt hz (by omega) q1)⟩
  · obtain ⟨q1, q2⟩ := M.hi j hj x hx hr
    refine ⟨df_set T hb q1, fun hge z hz hw => ?_⟩
    rcases up_mix B T hb hb0 hbr hdm hlt hz (.inr q1) with g | ⟨g1, g2⟩
    · exact q2 (by omega) z g hw
    · rcases hw.cut b with g | g
      · exact q2 (by omega) b g1 g
      · subst hj
        exact key z g2 g.suc
theorem pass_mid (k : Nat) : ∀ (l pre : List Int) (s : List Int × Bool), od = pre ++ l → 0 < pre.length → Mid nx n pl k pre.length s.1 → Mid nx n pl k od.length (U.passS pv pl K l s).1
  | [], pre, s, h, h0, M => by
    rw [List.append_nil] at h
    rw [h]; exact M
  | b :: l, pre, s, h, h0, M => by
    obtain ⟨b0, b1⟩ := B.ord.ran b (by rw [h]; simp)
    have hp := B.pos pre b l h
    have hs := (mid_step B hpv hK M (b := b.toNat) (by omega) hp h0).1
    rw [show ((b.toNat : Nat) : Int) = b by omega] at hs
    have := pass_mid k l (pre ++ [b]) (s.1.set b.toNat (U.nextS s.1 pl K (pv b) (-1)), s.2 || decide (U.nextS s.1 pl K (pv b) (-1) ≠ U.nt s.1 b.toNat)) (by rw [h]; simp) (by simp) (by rw [List.length_append, List.length_singleton]; exact hs)
    exact this
omit hpv hK
/-- Behind so many rounds. -/
structure Lv (nx : Int → List Int) (n : Nat) (pl : List Int) (k : Nat) (ab : List Int) : Prop where
  tr : Tr n pl ab
  sd : Sound nx n pl ab
  hi : ∀ j, k = j + 1 → ∀ x, x < n → 0 ≤ U.nt pl x → Df n pl ab x ∧ ∀ z, Up ab x z → ¬ WayZ nx n pl z j x
theorem mid_of {k : Nat} (L : Lv nx n pl k ab) : Mid nx n pl k 1 ab := ⟨L.tr, L.sd, fun x hx h0 h1 => by
    have hp := B.p0
    have : x = 0 := B.inj hx B.hn h0 (by omega)
    subst this
    refine ⟨⟨hx, h0, .inl rfl⟩, fun z hz hw => ?_⟩
    cases hz with
    | refl => exact hw.ne rfl
    | step _ _ g _ => have := L.tr.a0; omega, fun j hj x hx hr => ⟨(L.hi j hj x hx hr).1, fun _ => (L.hi j hj x hx hr).2⟩⟩
theorem lv_of {k : Nat} (M : Mid nx n pl k od.length ab) : Lv nx n pl (k + 1) ab := ⟨M.tr, M.sd, fun j hj x hx hr => by
  have : j = k := by omega
  subst this
  exact M.lo x hx hr (B.lt hx)⟩
/-- The tree is what dominates. -/
structure Exact (nx : Int → List Int) (n : Nat) (pl ab : List Int) : Prop where
  tr : Tr n pl ab
  sd : Sound nx n pl ab
  all : ∀ x, x < n → 0 ≤ U.nt pl x → Df n pl ab x ∧ ∀ z, Up ab x z → DomR nx n z x
include hpv hK
theorem exact_next (X : Exact nx n pl ab) {b : Nat} (hb : b < n) (h0 : 0 < U.nt pl b) : U.nextS ab pl K (pv b) (-1) = U.nt ab b := by
  have T := X.tr
  have S := X.sd
  have hp0 := B.p0
  have hb0 : b ≠ 0 := fun e => by subst e; omega
  obtain ⟨a, a1, a2, a3, a4⟩ := B.par hb h0
  have hda := (X.all a a1 a2).1
  obtain ⟨m, m1, m2⟩ := next_at B hpv hK T S hb ⟨a4, hda⟩
  have hma : U.nt pl m ≤ U.nt pl a := up_le B T (m2.up a ⟨a4, hda⟩) hda
  have hdb := (X.all b hb (by omega)).1
  have hr := (B.rch hb).1 (by omega)
  have hab : 0 ≤ U.nt ab b := by
    rcases hdb.2.2 with q | q
    · exact absurd q hb0
    · exact q
  have hy := df_up B T hdb hab
  have hmb : DomR nx n m b := ⟨hr, fun q => by
    obtain ⟨q1, q2⟩ := q
    generalize hbb : b = bb at q2
    cases q2 with
    | refl => exact hb0 hbb
    | step p t g1 g2 g3 g4 g5 g6 =>
      have hpr := (B.rch g2).2 g1.way
      have hdp := (X.all p g2 hpr).1
      have e : ((b : Nat) : Int) = t := by omega
      have := m2.up p ⟨by rw [e]; exact g3, hdp⟩
      exact ((X.all p g2 hpr).2 m this).2 ⟨q1, g1⟩⟩
  have u1 : Up ab (U.nt ab b).toNat m := by
    have := dom_Up B T S hdb hmb
    cases this with
    | refl => omega
    | step _ _ _ g => exact g
  have hyb : DomR nx n (U.nt ab b).toNat b := (X.all b hb (by omega)).2 _ (.step b _ hab (.refl _))
  have u2 : Up ab m (U.nt ab b).toNat := m2.least _ fun p hp => dom_Up B T S hp.2 (dom_pred hyb (fun e => by rw [e] at hy; omega) ((B.rch hp.2.1).1 hp.2.2.1) hp.2.1 hb hp.1)
  have := up_anti B T u2 u1 m2.df
  omega
theorem exact_pass (X : Exact nx n pl ab) : ∀ (l pre : List Int) (c : Bool), od = pre ++ l → 0 < pre.length → U.passS pv pl K l (ab, c) = (ab, c)
  | [], pre, c, h, h0 => rfl
  | b :: l, pre, c, h, h0 => by
    obtain ⟨b0, b1⟩ := B.ord.ran b (by rw [h]; simp)
    have hp := B.pos pre b l h
    have e := exact_next B hpv hK X (b := b.toNat) (by omega) (by omega)
    rw [show ((b.toNat : Nat) : Int) = b by omega] at e
    unfold U.passS
    simp only
    rw [e]
    have e2 : ab.set b.toNat (U.nt ab b.toNat) = ab := by
      unfold U.nt
      rw [List.getD_eq_getElem?_getD, List.getElem?_eq_getElem (by rw [X.tr.len]; omega)]
      exact List.set_getElem_self _
    rw [e2, decide_eq_false (by simp), Bool.or_false]
    exact exact_pass X l (pre ++ [b]) c (by rw [h]; simp) (by simp)
omit B hpv hK in
theorem pass_still : ∀ (l : List Int) (s : List Int × Bool), (∀ b ∈ l, 0 ≤ b ∧ b.toNat < s.1.length) → (U.passS pv pl K l s).2 = false → s.2 = false ∧ (U.passS pv pl K l s).1 = s.1 ∧ ∀ b ∈ l, U.nextS s.1 pl K (pv b) (-1) = U.nt s.1 b.toNat
  | [], s, hl, h => ⟨h, rfl, fun b hb => by simp at hb⟩
  | b :: l, s, hl, h => by
    unfold U.passS at h ⊢
    obtain ⟨b0, b1⟩ := hl b (by simp)
    obtain ⟨h1, h2, h3⟩ := pass_still l _ (fun c hc => by rw [List.length_set]; exact hl c (List.mem_cons_of_mem _ hc)) h
    rw [Bool.or_eq_false_iff, decide_eq_false_iff_not] at h1
    have e : U.nextS s.1 pl K (pv b) (-1) = U.nt s.1 b.toNat := Classical.byContradiction h1.2
    have e2 : s.1.set b.toNat (U.nextS s.1 pl K (pv b) (-1)) = s.1 := by
      rw [e]
      unfold U.nt
      rw [List.getD_eq_getElem?_getD, List.getElem?_eq_getElem b1]
      exact List.set_getElem_self _
    simp only [e2] at h2 h3 ⊢
    refine ⟨h1.1, h2, fun c hc => ?_⟩
    rcases List.mem_cons.1 hc with rfl | hc
    · exact e
    · exact h3 c hc
theorem still_exact {k : Nat} (L : Lv nx n pl k ab) {l : List Int} (ho : od = 0 :: l) (h : (U.passS pv pl K l (ab, false)).2 = false) : (U.passS pv pl K l (ab, false)).1 = ab ∧ Exact nx n pl ab := by
  have hr : ∀ b ∈ l, 0 ≤ b ∧ b.toNat < ab.length := fun b hb => by
    obtain ⟨b0, b1⟩ := B.ord.ran b (by rw [ho]; exact List.mem_cons_of_mem _ hb)
    rw [L.tr.len]; omega
  obtain ⟨_, h2, h3⟩ := pass_still l (ab, false) hr h
  replace h2 : (U.passS pv pl K l (ab, false)).1 = ab := h2
  have M := pass_mid B hpv hK k l [0] (ab, false) (by rw [ho]; rfl) (by simp) (mid_of B L)
  rw [h2] at M
  have L' := lv_of B M
  have T := L'.tr
  have S := L'.sd
  refine ⟨h2, T, S, fun x hx hr => ?_⟩
  have hd := (L'.hi k rfl x hx hr).1
  refine ⟨hd, fun z hz => ⟨(B.rch hx).1 hr, fun hw => ?_⟩⟩
  have key : ∀ x, WayW nx n z 0 x → ¬ Up ab x z := by
    intro x hw'
    induction hw' with
    | refl =>
      intro q
      cases q with
      | refl => exact hw.1 rfl
      | step _ _ g _ => have := T.a0; omega
    | step p t g1 g2 g3 g4 g5 g6 ih =>
      intro q
      have htr := (B.rch (show t.toNat < n by omega)).2 (WayW.way (.step p t g1 g2 g3 g4 g5 g6))
      have hpr := (B.rch g2).2 g1.way
      have hdp := (L'.hi k rfl p g2 hpr).1
      cases q with
      | refl => omega
      | step _ _ q0 q =>
        have ht0 : t.toNat ≠ 0 := fun e => by rw [e] at q0; have := T.a0; omega
        have hpt : U.nt pl t.toNat ≠ 0 := fun e => ht0 (B.inj (by omega) B.hn (by omega) (by rw [e, B.p0]))
        have hmem : t ∈ l := by
          have : ((t.toNat : Nat) : Int) ∈ od := (B.ord.mem t.toNat).2 ((B.rch (by omega)).1 htr)
          rw [show ((t.toNat : Nat) : Int) = t by omega, ho] at this
          rcases List.mem_cons.1 this with e | e
          · omega
          · exact e
        have e := h3 t hmem
        simp only at e
        have ep : (b : Int) → b = t → PredD nx n pl ab t.toNat p := fun b _ => ⟨by rw [show ((t.toNat : Nat) : Int) = t by omega]; exact g3, hdp⟩
        obtain ⟨m, m1, m2⟩ := next_at B hpv hK T S (b := t.toNat) (by omega) (ep t rfl)
        rw [show ((t.toNat : Nat) : Int) = t by omega, e] at m1
        rw [m1, Int.toNat_natCast] at q
        exact ih ((m2.up p (ep t rfl)).trans q)
  exact key x hw.2 hz
theorem lv_exact {K0 k : Nat} (hb : ∀ z, z < n → ∀ x, x < n → WayA nx n z x → WayZ nx n pl z K0 x) (L : Lv nx n pl (k + 1) ab) (hk : K0 ≤ k) : Exact nx n pl ab := ⟨L.tr, L.sd, fun x hx hr => by
  obtain ⟨h1, h2⟩ := L.hi k rfl x hx hr
  refine ⟨h1, fun z hz => ⟨(B.rch hx).1 hr, fun hw => h2 z hz ?_⟩⟩
  have := (hb z (up_df B L.tr hz h1).1 x hx hw).mono (k - K0)
  rwa [show K0 + (k - K0) = k by omega] at this⟩
/-- A round: nothing changes, and the tree is what dominates; or it goes on, not too often. -/
theorem round {K0 k : Nat} (hb : ∀ z, z < n → ∀ x, x < n → WayA nx n z x → WayZ nx n pl z K0 x) (L : Lv nx n pl k ab) {l : List Int} (ho : od = 0 :: l) :
    (U.passS pv pl K l (ab, false) = (ab, false) ∧ Exact nx n pl ab) ∨ (∃ ab', U.passS pv pl K l (ab, false) = (ab', true) ∧ Lv nx n pl (k + 1) ab' ∧ k ≤ K0) := by
  cases hc : (U.passS pv pl K l (ab, false)).2 with
  | false =>
    obtain ⟨h1, h2⟩ := still_exact B hpv hK L ho hc
    exact .inl ⟨Prod.ext h1 hc, h2⟩
  | true =>
    right
    refine ⟨(U.passS pv pl K l (ab, false)).1, Prod.ext rfl hc, lv_of B (pass_mid B hpv hK k l [0] (ab, false) (by rw [ho]; rfl) (by simp) (mid_of B L)), ?_⟩
    refine Decidable.byContradiction fun q => ?_
    obtain ⟨k', rfl⟩ : ∃ k', k = k' + 1 := ⟨k - 1, by omega⟩
    have := exact_pass B hpv hK (lv_exact B hpv hK hb L (by omega)) l [0] false (by rw [ho]; rfl) (by simp)
    rw [this] at hc
    cases hc
end
end Go.Proofs.YtabdcfcnngnnoaaDoor.E
set_option linter.unusedVariables false
set_option linter.unusedSectionVars false
set_option linter.unusedSimpArgs false
namespace Go.Proofs.YtabdcfcnngnnoaaDoor.E
open Go
namespace U
def deepS (ab : List Int) : List Int → List Int → List Int
  | [], dp => dp
  | b :: l, dp => deepS ab l (dp.set b.toNat (nt dp (nt ab b.toNat).toNat + 1))
def climbS (ab dp : List Int) (a : Int) : Nat → Int → Int
  | 0, b => b
  | k + 1, b => if nt dp b.toNat > nt dp a.toNat then climbS ab dp a k (nt ab b.toNat) else b
end U
structure Deep (n : Nat) (pl ab dp : List Int) : Prop where
  len : dp.length = n
  un : ∀ x, x < n → U.nt pl x < 0 → U.nt dp x = -1
  z : U.nt dp 0 = 0
  up : ∀ x, x < n → x ≠ 0 → 0 ≤ U.nt pl x → U.nt dp x = U.nt dp (U.nt ab x).toNat + 1
structure DeepM (n : Nat) (pl ab : List Int) (J : Nat) (dp : List Int) : Prop where
  len : dp.length = n
  z : U.nt dp 0 = 0
  lo : ∀ x, x < n → x ≠ 0 → 0 ≤ U.nt pl x → U.nt pl x < J → U.nt dp x = U.nt dp (U.nt ab x).toNat + 1
  hi : ∀ x, x < n → (U.nt pl x < 0 ∨ J ≤ U.nt pl x) → U.nt dp x = -1
theorem nt_rep (n x : Nat) (v : Int) (h : x < n) : U.nt (List.replicate n v) x = v := by
  unfold U.nt
  rw [List.getD_eq_getElem?_getD, List.getElem?_replicate, if_pos h]; rfl
section
variable {nx : Int → List Int} {n : Nat} {od pl ab dp : List Int} (B : Base nx n od pl) (X : Exact nx n pl ab)
include B X
theorem deep_mid : ∀ (l pre dp : List Int), od = pre ++ l → 0 < pre.length → DeepM n pl ab pre.length dp → DeepM n pl ab od.length (U.deepS ab l dp)
  | [], pre, dp, h, h0, M => by
    rw [List.append_nil] at h
    rw [h]; exact M
  | b :: l, pre, dp, h, h0, M => by
    obtain ⟨b0, b1⟩ := B.ord.ran b (by rw [h]; simp)
    have hp := B.pos pre b l h
    have hb : b.toNat < n := by omega
    have hbne : b.toNat ≠ 0 := fun e => by rw [e] at hp; have := B.p0; omega
    have hd := (X.all b.toNat hb (by omega)).1
    have hab : 0 ≤ U.nt ab b.toNat := by
      rcases hd.2.2 with q | q
      · exact absurd q hbne
      · exact q
    have hy := df_up B X.tr hd hab
    have hlt : b.toNat < dp.length := by rw [M.len]; exact hb
    have hz0 : U.nt pl 0 = 0 := B.p0
    refine deep_mid l (pre ++ [b]) (dp.set b.toNat (U.nt dp (U.nt ab b.toNat).toNat + 1)) (by rw [h]; simp) (by simp) ⟨by rw [List.length_set]; exact M.len, ?_, fun x hx h1 h2 h3 => ?_, fun x hx h1 => ?_⟩
    · rw [nt_set _ _ hlt, if_neg (fun e => hbne e.symm)]; exact M.z
    · rw [List.length_append, List.length_singleton] at h3
      rw [nt_set _ _ hlt, nt_set _ _ hlt]
      by_cases e : x = b.toNat
      · rw [if_pos e, e, if_neg (fun e2 => by rw [e2] at hy; omega)]
      · have hxJ : U.nt pl x < pre.length := by
          have : U.nt pl x ≠ U.nt pl b.toNat := fun q => e (B.inj hx hb h2 q)
          omega
        have hdx := (X.all x hx h2).1
        have hax : 0 ≤ U.nt ab x := by
          rcases hdx.2.2 with q | q
          · exact absurd q h1
          · exact q
        have hyx := df_up B X.tr hdx hax
        rw [if_neg e, if_neg (fun e2 => by rw [e2] at hyx; omega)]
        exact M.lo x hx h1 h2 hxJ
    · rw [List.length_append, List.length_singleton] at h1
      rw [nt_set _ _ hlt, if_neg (fun e => by subst e; omega)]
      exact M.hi x hx (by omega)
theorem deep_ok {l : List Int} (ho : od = 0 :: l) : Deep n pl ab (U.deepS ab l ((List.replicate n (-1)).set 0 0)) := by
  have hz0 : U.nt pl 0 = 0 := B.p0
  have M := deep_mid B X l [0] ((List.replicate n (-1)).set 0 0) (by rw [ho]; rfl) (by simp) ⟨by simp, by rw [nt_set _ _ (by rw [List.length_replicate]; exact B.hn), if_pos rfl], fun x hx h1 h2 h3 => by
    have h3' : U.nt pl x < 1 := by simpa using h3
    have : x = 0 := B.inj hx B.hn h2 (by omega)
    exact absurd this h1, fun x hx h1 => by
    have h1' : U.nt pl x < 0 ∨ 1 ≤ U.nt pl x := by simpa using h1
    rw [nt_set _ _ (by rw [List.length_replicate]; exact B.hn), if_neg (fun e => by subst e; omega), nt_rep n x (-1) hx]⟩
  exact ⟨M.len, fun x hx h => M.hi x hx (.inl h), M.z, fun x hx h0 h => M.lo x hx h0 h (B.lt hx)⟩
variable (Q : Deep n pl ab dp)
include Q
theorem deep_rng : ∀ (k x : Nat), U.nt pl x ≤ k → x < n → 0 ≤ U.nt pl x → 0 ≤ U.nt dp x ∧ U.nt dp x ≤ U.nt pl x := by
  intro k
  induction k with
  | zero =>
    intro x hk hx h
    have hz0 : U.nt pl 0 = 0 := B.p0
    have : x = 0 := B.inj hx B.hn h (by omega)
    subst this
    have := Q.z
    omega
  | succ k ih =>
    intro x hk hx h
    by_cases e : x = 0
    · subst e
      have := Q.z
      omega
    · have hdx := (X.all x hx h).1
      have hax : 0 ≤ U.nt ab x := by
        rcases hdx.2.2 with q | q
        · exact absurd q e
        · exact q
      have hy := df_up B X.tr hdx hax
      have := ih (U.nt ab x).toNat (by omega) hy.1.1 hy.1.2.1
      have := Q.up x hx e h
      omega
theorem deep_at {x : Nat} (hx : x < n) (h : 0 ≤ U.nt pl x) : 0 ≤ U.nt dp x ∧ U.nt dp x ≤ U.nt pl x := deep_rng B X Q (U.nt pl x).toNat x (by omega) hx h
theorem there_iff {x : Nat} (hx : x < n) : 0 ≤ U.nt dp x ↔ 0 ≤ U.nt pl x := by
  constructor
  · intro h
    refine Decidable.byContradiction fun q => ?_
    have := Q.un x hx (by omega)
    omega
  · exact fun h => (deep_at B X Q hx h).1
theorem deep_up {x y : Nat} (h : Up ab x y) : Df n pl ab x → U.nt dp y ≤ U.nt dp x ∧ (y ≠ x → U.nt dp y < U.nt dp x) := by
  induction h with
  | refl x => exact fun _ => ⟨by omega, fun q => absurd rfl q⟩
  | step x y h0 _ ih =>
    intro hd
    have hx0 : x ≠ 0 := fun e => by subst e; have := X.tr.a0; omega
    have hy := df_up B X.tr hd h0
    have h1 := (ih hy.1).1
    have h2 := Q.up x hd.1 hx0 hd.2.1
    exact ⟨by omega, fun _ => by omega⟩
/-- Going up from b as long as it is deeper than a. -/
theorem climb_ok {a : Nat} (ha : Df n pl ab a) : ∀ (k b : Nat), Df n pl ab b → U.nt dp b - U.nt dp a ≤ k → ∃ c : Nat, U.climbS ab dp a k b = c ∧ Df n pl ab c ∧ ((a : Int) = c ↔ Up ab b a) := by
  have fin : ∀ b : Nat, Df n pl ab b → U.nt dp b ≤ U.nt dp a → ((a : Int) = b ↔ Up ab b a) := fun b hb h => by
    constructor
    · intro e
      have : a = b := by omega
      subst this; exact .refl _
    · intro g
      have := (deep_up B X Q g hb).2
      refine Decidable.byContradiction fun q => ?_
      have := this (by omega)
      omega
  intro k
  induction k with
  | zero => exact fun b hb h => ⟨b, rfl, hb, fin b hb (by omega)⟩
  | succ k ih =>
    intro b hb h
    unfold U.climbS
    rw [Int.toNat_natCast, Int.toNat_natCast]
    by_cases hc : U.nt dp b > U.nt dp a
    · rw [if_pos hc]
      have hb0 : b ≠ 0 := fun e => by
        subst e
        have := Q.z
        have := deep_at B X Q ha.1 ha.2.1
        omega
      have hab : 0 ≤ U.nt ab b := by
        rcases hb.2.2 with q | q
        · exact absurd q hb0
        · exact q
      have hy := df_up B X.tr hb hab
      have hq := Q.up b hb.1 hb0 hb.2.1
      obtain ⟨c, c1, c2, c3⟩ := ih (U.nt ab b).toNat hy.1 (by omega)
      rw [show (((U.nt ab b).toNat : Nat) : Int) = U.nt ab b by omega] at c1
      refine ⟨c, c1, c2, c3.trans ⟨fun g => .step b a hab g, fun g => ?_⟩⟩
      cases g with
      | refl => omega
      | step _ _ _ g => exact g
    · rw [if_neg hc]
      exact ⟨b, rfl, hb, fin b hb (by omega)⟩
omit Q
theorem up_iff {x z : Nat} (hx : x < n) (h : 0 ≤ U.nt pl x) : Up ab x z ↔ DomR nx n z x :=
  ⟨(X.all x hx h).2 z, dom_Up B X.tr X.sd (X.all x hx h).1⟩
end
/-! By the document: what is reached without a block. -/
namespace U
noncomputable def wiB (nx : Int → List Int) (n : Nat) (wo x : Int) : Bool := (withinB nx n 0 wo).getD x.toNat default
noncomputable def domB (nx : Int → List Int) (n : Nat) (a b : Int) : Bool :=
  !(decide (a < 0) || (decide (b < 0) || (decide (a ≥ n) || decide (b ≥ n)))) && (wiB nx n (-1) a && (wiB nx n (-1) b && ((a == b) || !(wiB nx n a b))))
end U
theorem domB_iff {nx : Int → List Int} {n : Nat} (hn : 0 < n) (a b : Int) : U.domB nx n a b = true ↔ 0 ≤ a ∧ 0 ≤ b ∧ a < n ∧ b < n ∧ DomR nx n a.toNat b.toNat := by
  have w : ∀ (wo : Int) (x : Nat), x < n → (U.wiB nx n wo x = true ↔ (0 : Int) ≠ wo ∧ WayW nx n wo 0 x) := fun wo x hx => by
    have := withinB_on nx n 0 wo x
    unfold U.wiB
    unfold on at this
    rw [Int.toNat_natCast, this]
    constructor
    · rintro ⟨_, _, _, h1, h2⟩; exact ⟨h1, h2⟩
    · rintro ⟨h1, h2⟩; exact ⟨hx, by omega, by omega, h1, h2⟩
  unfold U.domB
  rw [Bool.and_eq_true, Bool.and_eq_true, Bool.and_eq_true, Bool.or_eq_true]
  simp only [Bool.not_eq_true', Bool.or_eq_false_iff, decide_eq_false_iff_not, beq_iff_eq]
  constructor
  · rintro ⟨⟨h1, h2, h3, h4⟩, h5, h6, h7⟩
    obtain ⟨x, rfl⟩ := Int.eq_ofNat_of_zero_le (show 0 ≤ a by omega)
    obtain ⟨y, rfl⟩ := Int.eq_ofNat_of_zero_le (show 0 ≤ b by omega)
    have hx : x < n := by omega
    have hy : y < n := by omega
    refine ⟨by omega, by omega, by omega, by omega, ?_⟩
    rw [Int.toNat_natCast, Int.toNat_natCast]
    refine ⟨((w (-1) y hy).1 h6).2, fun q => ?_⟩
    rcases h7 with e | e
    · have : x = y := by omega
      subst this; exact q.ne rfl
    · have := (w x y hy).2 ⟨by have := q.1; omega, q.2⟩
      rw [this] at e; cases e
  · rintro ⟨h1, h2, h3, h4, h5⟩
    obtain ⟨x, rfl⟩ := Int.eq_ofNat_of_zero_le h1
    obtain ⟨y, rfl⟩ := Int.eq_ofNat_of_zero_le h2
    have hx : x < n := by omega
    have hy : y < n := by omega
    rw [Int.toNat_natCast, Int.toNat_natCast] at h5
    refine ⟨⟨by omega, by omega, by omega, by omega⟩, (w (-1) x hx).2 ⟨by omega, dom_way h5⟩, (w (-1) y hy).2 ⟨by omega, h5.1⟩, ?_⟩
    by_cases e : (x : Int) = y
    · exact .inl e
    · right
      cases hq : U.wiB nx n x y with
      | false => rfl
      | true =>
        have := (w x y hy).1 hq
        exact absurd ⟨by omega, this.2⟩ h5.2
theorem domB_no {nx : Int → List Int} {n : Nat} {a b : Int} (h : a < 0 ∨ b < 0 ∨ a ≥ n ∨ b ≥ n) : U.domB nx n a b = false := by
  unfold U.domB
  have : (!(decide (a < 0) || (decide (b < 0) || (decide (a ≥ n) || decide (b ≥ n))))) = false := by
    simp only [Bool.not_eq_false', Bool.or_eq_true, decide_eq_true_eq]
    omega
  rw [this, Bool.false_and]
end Go.Proofs.YtabdcfcnngnnoaaDoor.E
set_option linter.unusedVariables false
set_option linter.unusedSectionVars false
set_option linter.unusedSimpArgs false
namespace Go.Proofs.YtabdcfcnngnnoaaDoor.E
open Go
namespace U
/-- The numbers that p holds of, from i on. -/
def selP (p : Nat → Bool) : Nat → Nat → List Int
  | 0, _ => []
  | d + 1, i => (if p i then [(i : Int)] else []) ++ selP p d (i + 1)
/-- The first one of a list that all of l dominate. -/
def lowS (dm : Int → Int → Bool) (l : List Int) : List Int → Int
  | [] => -1
  | x :: r => if l.all (fun y => dm y x) then x else lowS dm l r
end U
theorem selP_mem (p : Nat → Bool) : ∀ (d i : Nat) (x : Int), x ∈ U.selP p d i ↔ ∃ y : Nat, x = y ∧ i ≤ y ∧ y < i + d ∧ p y = true
  | 0, i, x => by
    constructor
    · intro h; simp [U.selP] at h
    · rintro ⟨y, _, h1, h2, _⟩; omega
  | d + 1, i, x => by
    have ih := selP_mem p d (i + 1) x
    unfold U.selP
    rw [List.mem_append, ih]
    cases h : p i with
    | true =>
      rw [if_pos rfl, List.mem_singleton]
      constructor
      · rintro (rfl | ⟨y, h1, h2, h3, h4⟩)
        · exact ⟨i, rfl, Nat.le_refl _, by omega, h⟩
        · exact ⟨y, h1, by omega, by omega, h4⟩
      · rintro ⟨y, h1, h2, h3, h4⟩
        by_cases e : y = i
        · left; omega
        · exact .inr ⟨y, h1, by omega, by omega, h4⟩
    | false =>
      rw [if_neg (by simp)]
      constructor
      · rintro (h1 | ⟨y, h1, h2, h3, h4⟩)
        · simp at h1
        · exact ⟨y, h1, by omega, by omega, h4⟩
      · rintro ⟨y, h1, h2, h3, h4⟩
        by_cases e : y = i
        · subst e; rw [h] at h4; cases h4
        · exact .inr ⟨y, h1, by omega, by omega, h4⟩
theorem selP_congr {p q : Nat → Bool} : ∀ (d i : Nat), (∀ y, i ≤ y → y < i + d → p y = q y) → U.selP p d i = U.selP q d i
  | 0, i, h => rfl
  | d + 1, i, h => by
    unfold U.selP
    rw [h i (Nat.le_refl _) (by omega), selP_congr d (i + 1) (fun y h1 h2 => h y (by omega) (by omega))]
theorem selP_none {p : Nat → Bool} : ∀ (d i : Nat), (∀ y, i ≤ y → y < i + d → p y = false) → U.selP p d i = []
  | 0, i, h => rfl
  | d + 1, i, h => by
    unfold U.selP
    rw [h i (Nat.le_refl _) (by omega), selP_none d (i + 1) (fun y h1 h2 => h y (by omega) (by omega))]; rfl
theorem selP_more {p : Nat → Bool} (e : Nat) : ∀ (d i : Nat), (∀ y, i + d ≤ y → y < i + d + e → p y = false) → U.selP p (d + e) i = U.selP p d i
  | 0, i, h => by rw [Nat.zero_add]; exact selP_none e i (fun y h1 h2 => h y (by omega) (by omega))
  | d + 1, i, h => by
    rw [show d + 1 + e = (d + e) + 1 by omega]
    unfold U.selP
    rw [selP_more e d (i + 1) (fun y h1 h2 => h y (by omega) (by omega))]
/-- Lists of numbers of different reach. -/
theorem selP_eq {p q : Nat → Bool} (d e : Nat) (h : ∀ y, (y < d ∧ p y = true) ↔ (y < e ∧ q y = true)) : U.selP p d 0 = U.selP q e 0 := by
  have h1 : U.selP p (d + e) 0 = U.selP p d 0 ∨ True := .inr trivial
  let pp : Nat → Bool := fun y => decide (y < d) && p y
  let qq : Nat → Bool := fun y => decide (y < e) && q y
  have e1 : U.selP p d 0 = U.selP pp d 0 := selP_congr d 0 (fun y _ h2 => by show p y = (decide (y < d) && p y); rw [decide_eq_true (by omega)]; rfl)
  have e2 : U.selP q e 0 = U.selP qq e 0 := selP_congr e 0 (fun y _ h2 => by show q y = (decide (y < e) && q y); rw [decide_eq_true (by omega)]; rfl)
  have e3 : U.selP pp (d + e) 0 = U.selP pp d 0 := selP_more e d 0 (fun y h1 _ => by show (decide (y < d) && p y) = false; rw [decide_eq_false (by omega)]; rfl)
  have e4 : U.selP qq (e + d) 0 = U.selP qq e 0 := selP_more d e 0 (fun y h1 _ => by show (decide (y < e) && q y) = false; rw [decide_eq_false (by omega)]; rfl)
  rw [e1, e2, ← e3, ← e4, Nat.add_comm e d]
  refine selP_congr _ _ (fun y _ _ => ?_)
  show (decide (y < d) && p y) = (decide (y < e) && q y)
  rw [Bool.eq_iff_iff, Bool.and_eq_true, Bool.and_eq_true, decide_eq_true_eq, decide_eq_true_eq]
  exact h y
theorem selP_len (p : Nat → Bool) : ∀ (d i : Nat), (U.selP p d i).length ≤ d
  | 0, i => Nat.le_refl _
  | d + 1, i => by
    have := selP_len p d (i + 1)
    unfold U.selP
    rw [List.length_append]
    split
    · rw [List.length_singleton]; omega
    · rw [List.length_nil]; omega
theorem selP_sorted (p : Nat → Bool) : ∀ (d i : Nat), (U.selP p d i).Pairwise (· < ·)
  | 0, i => List.Pairwise.nil
  | d + 1, i => by
    unfold U.selP
    split
    · refine List.pairwise_cons.2 ⟨fun x hx => ?_, selP_sorted p d (i + 1)⟩
      obtain ⟨y, rfl, h1, _⟩ := (selP_mem p d (i + 1) x).1 hx
      omega
    · exact selP_sorted p d (i + 1)
theorem low_is {dm : Int → Int → Bool} {l : List Int} {m : Int} (hm : ∀ y ∈ l, dm y m = true) : ∀ l', m ∈ l' → (∀ x ∈ l', (∀ y ∈ l, dm y x = true) → x = m) → U.lowS dm l l' = m
  | [], h, _ => by simp at h
  | x :: r, h, hu => by
    unfold U.lowS
    cases hc : l.all (fun y => dm y x) with
    | true =>
      rw [if_pos rfl]
      exact hu x (by simp) (fun y hy => List.all_eq_true.1 hc y hy)
    | false =>
      rw [if_neg (by simp)]
      have hne : m ≠ x := fun e => by
        subst e
        have : l.all (fun y => dm y m) = true := List.all_eq_true.2 hm
        rw [this] at hc; cases hc
      rcases List.mem_cons.1 h with e | h
      · exact absurd e hne
      · exact low_is hm r h (fun z hz => hu z (List.mem_cons_of_mem _ hz))
namespace U
noncomputable def allD (nx : Int → List Int) (n : Nat) (b : Int) : List Int := selP (fun a => domB nx n a b) n 0
noncomputable def bothD (nx : Int → List Int) (n : Nat) (a b : Int) : List Int := selP (fun c => domB nx n c a && domB nx n c b) n 0
noncomputable def meetD (nx : Int → List Int) (n : Nat) (a b : Int) : Int := lowS (domB nx n) (bothD nx n a b) (bothD nx n a b)
noncomputable def othD (nx : Int → List Int) (n : Nat) (b : Int) : List Int := (allD nx n b).filter fun x => !(x == b)
noncomputable def aboveD (nx : Int → List Int) (n : Nat) (b : Int) : Int := lowS (domB nx n) (othD nx n b) (othD nx n b)
def kidsOf (ab : List Int) (b : Int) (n : Nat) : List Int := selP (fun k => (nt ab k == b) && decide (b ≥ 0)) n 0
def firstUp (ab : List Int) (h : Int → Bool) : Nat → Int → Int
  | 0, b => b
  | k + 1, b => if h b then b else firstUp ab h k (nt ab b.toNat)
end U
section
variable {nx : Int → List Int} {n : Nat} {od pl ab : List Int} (B : Base nx n od pl) (X : Exact nx n pl ab)
include B in
theorem domB_nat (a b : Nat) : U.domB nx n a b = true ↔ a < n ∧ b < n ∧ DomR nx n a b := by
  rw [domB_iff B.hn, Int.toNat_natCast, Int.toNat_natCast]
  constructor
  · rintro ⟨_, _, h1, h2, h3⟩; exact ⟨by omega, by omega, h3⟩
  · rintro ⟨h1, h2, h3⟩; exact ⟨by omega, by omega, by omega, by omega, h3⟩
include B X
theorem dom_anti {x y : Nat} (hx : x < n) (hy : y < n) (h : DomR nx n x y) (g : DomR nx n y x) : x = y := by
  have rx := (B.rch hx).2 g.1
  have ry := (B.rch hy).2 h.1
  exact up_anti B X.tr ((up_iff B X hx rx).2 g) ((up_iff B X hy ry).2 h) (X.all x hx rx).1
theorem dom_trans {x y z : Nat} (hx : x < n) (hy : y < n) (hz : z < n) (h : DomR nx n x y) (g : DomR nx n y z) : DomR nx n x z := by
  have ry := (B.rch hy).2 h.1
  have rz := (B.rch hz).2 g.1
  exact (up_iff B X hz rz).1 (((up_iff B X hz rz).2 g).trans ((up_iff B X hy ry).2 h))
theorem dom_lin {x y z : Nat} (hx : x < n) (hy : y < n) (hz : z < n) (h : DomR nx n x z) (g : DomR nx n y z) : DomR nx n x y ∨ DomR nx n y x := by
  have rz := (B.rch hz).2 g.1
  have rx := (B.rch hx).2 (dom_way h)
  have ry := (B.rch hy).2 (dom_way g)
  have ux := (up_iff B X hz rz).2 h
  have uy := (up_iff B X hz rz).2 g
  have dz := (X.all z hz rz).1
  rcases Int.le_total (U.nt pl x) (U.nt pl y) with q | q
  · exact .inl ((up_iff B X hy ry).1 (up_lin B X.tr ux uy dz q))
  · exact .inr ((up_iff B X hx rx).1 (up_lin B X.tr uy ux dz q))
/-- Where two meet. -/
theorem firstUp_ok {a b : Nat} (ha : Df n pl ab a) (hb : Df n pl ab b) (h : Int → Bool) (hh : ∀ x : Nat, h x = true ↔ Up ab a x) : ∀ (k c : Nat), Up ab b c → U.nt pl c < k → (∀ z, Up ab a z → Up ab b z → Up ab c z) →
    ∃ m : Nat, U.firstUp ab h k c = m ∧ Up ab a m ∧ Up ab b m ∧ ∀ z, Up ab a z → Up ab b z → Up ab m z := by
  intro k
  induction k with
  | zero =>
    intro c hc hk
    have := (up_df B X.tr hc hb).2.1
    omega
  | succ k ih =>
    intro c hc hk hz
    unfold U.firstUp
    cases hq : h c with
    | true => rw [if_pos rfl]; exact ⟨c, rfl, (hh c).1 hq, hc, hz⟩
    | false =>
      rw [if_neg (by simp), Int.toNat_natCast]
      have hdc := up_df B X.tr hc hb
      have hna : ¬ Up ab a c := fun q => by rw [(hh c).2 q] at hq; cases hq
      have hc0 : c ≠ 0 := fun e => by
        subst e
        exact hna (dom_Up B X.tr X.sd ha (dom_zero ((B.rch ha.1).1 ha.2.1)))
      have hab : 0 ≤ U.nt ab c := by
        rcases hdc.2.2 with q | q
        · exact absurd q hc0
        · exact q
      have hy := df_up B X.tr hdc hab
      obtain ⟨m, m1, m2⟩ := ih (U.nt ab c).toNat (hc.trans (.step c _ hab (.refl _))) (by omega) (fun z z1 z2 => by
        have := hz z z1 z2
        cases this with
        | refl => exact absurd z1 hna
        | step _ _ _ g => exact g)
      rw [show (((U.nt ab c).toNat : Nat) : Int) = U.nt ab c by omega] at m1
      exact ⟨m, m1, m2⟩
theorem meetD_is {a b m : Nat} (ha : a < n) (hb : b < n) (ra : 0 ≤ U.nt pl a) (rb : 0 ≤ U.nt pl b) (h1 : Up ab a m) (h2 : Up ab b m) (h3 : ∀ z, Up ab a z → Up ab b z → Up ab m z) : U.meetD nx n a b = m := by
  have hm := up_df B X.tr h1 (X.all a ha ra).1
  have hmem : ∀ x : Int, x ∈ U.bothD nx n a b ↔ ∃ y : Nat, x = y ∧ y < n ∧ DomR nx n y a ∧ DomR nx n y b := fun x => by
    unfold U.bothD
    rw [selP_mem]
    constructor
    · rintro ⟨y, h1, _, h3, h4⟩
      rw [Bool.and_eq_true, domB_nat B, domB_nat B] at h4
      exact ⟨y, h1, by omega, h4.1.2.2, h4.2.2.2⟩
    · rintro ⟨y, h1, h2, h3, h4⟩
      exact ⟨y, h1, by omega, by omega, by rw [Bool.and_eq_true, domB_nat B, domB_nat B]; exact ⟨⟨h2, ha, h3⟩, h2, hb, h4⟩⟩
  have top : ∀ y : Nat, y < n → DomR nx n y a → DomR nx n y b → DomR nx n y m := fun y hy y1 y2 =>
    (up_iff B X hm.1 hm.2.1).1 (h3 y ((up_iff B X ha ra).2 y1) ((up_iff B X hb rb).2 y2))
  have hma := (up_iff B X ha ra).1 h1
  have hmb := (up_iff B X hb rb).1 h2
  unfold U.meetD
  refine low_is (fun y hy => ?_) _ ((hmem m).2 ⟨m, rfl, hm.1, hma, hmb⟩) (fun x hx hall => ?_)
  · obtain ⟨z, rfl, z1, z2, z3⟩ := (hmem y).1 hy
    exact (domB_nat B z m).2 ⟨z1, hm.1, top z z1 z2 z3⟩
  · obtain ⟨z, rfl, z1, z2, z3⟩ := (hmem x).1 hx
    have := (domB_nat B m z).1 (hall m ((hmem m).2 ⟨m, rfl, hm.1, hma, hmb⟩))
    have := dom_anti B X z1 hm.1 (top z z1 z2 z3) this.2.2
    omega
omit X in
theorem meetD_no {a b : Int} (h : ¬ (0 ≤ a ∧ a < n ∧ 0 ≤ b ∧ b < n ∧ 0 ≤ U.nt pl a.toNat ∧ 0 ≤ U.nt pl b.toNat)) : U.meetD nx n a b = -1 := by
  have : U.bothD nx n a b = [] := by
    unfold U.bothD
    refine selP_none _ _ (fun y _ _ => ?_)
    cases hq : (U.domB nx n y a && U.domB nx n y b) with
    | false => rfl
    | true =>
      rw [Bool.and_eq_true, domB_iff B.hn, domB_iff B.hn] at hq
      obtain ⟨⟨_, h1, _, h2, h3⟩, _, h4, _, h5, h6⟩ := hq
      exact absurd ⟨h1, h2, h4, h5, (B.rch (by omega)).2 h3.1, (B.rch (by omega)).2 h6.1⟩ h
  unfold U.meetD
  rw [this]; rfl
/-- The next above of each. -/
theorem aboveD_is {b : Nat} (hb : b < n) : U.aboveD nx n b = U.nt ab b := by
  have hmem : ∀ x : Int, x ∈ U.othD nx n b ↔ ∃ y : Nat, x = y ∧ y < n ∧ DomR nx n y b ∧ y ≠ b := fun x => by
    unfold U.othD U.allD
    rw [List.mem_filter, selP_mem]
    constructor
    · rintro ⟨⟨y, h1, _, h3, h4⟩, h5⟩
      rw [domB_nat B] at h4
      exact ⟨y, h1, by omega, h4.2.2, fun e => by subst e; subst h1; simp at h5⟩
    · rintro ⟨y, h1, h2, h3, h4⟩
      refine ⟨⟨y, h1, by omega, by omega, (domB_nat B y b).2 ⟨h2, hb, h3⟩⟩, ?_⟩
      rw [Bool.not_eq_true', beq_eq_false_iff_ne]
      omega
  by_cases hr : 0 ≤ U.nt pl b
  · have hd := (X.all b hb hr).1
    by_cases hb0 : b = 0
    · subst hb0
      have : U.othD nx n (0 : Nat) = [] := List.eq_nil_iff_forall_not_mem.2 fun x hx => by
        obtain ⟨y, _, _, h3, h4⟩ := (hmem x).1 hx
        exact h4 (dom_at_zero h3)
      unfold U.aboveD
      rw [this, X.tr.a0]; rfl
    · have hab : 0 ≤ U.nt ab b := by
        rcases hd.2.2 with q | q
        · exact absurd q hb0
        · exact q
      have hy := df_up B X.tr hd hab
      have hyb : DomR nx n (U.nt ab b).toNat b := (X.all b hb hr).2 _ (.step b _ hab (.refl _))
      have hne : (U.nt ab b).toNat ≠ b := fun e => by rw [e] at hy; omega
      have hcast : (((U.nt ab b).toNat : Nat) : Int) = U.nt ab b := by omega
      have top : ∀ y : Nat, DomR nx n y b → y ≠ b → DomR nx n y (U.nt ab b).toNat := fun y h1 h2 => by
        rcases X.sd b hb hr hab y h1 with q | q
        · exact absurd q h2
        · exact q
      unfold U.aboveD
      refine low_is (fun y hy' => ?_) _ ((hmem _).2 ⟨(U.nt ab b).toNat, hcast.symm, hy.1.1, hyb, hne⟩) (fun x hx hall => ?_)
      · obtain ⟨z, rfl, z1, z2, z3⟩ := (hmem y).1 hy'
        rw [← hcast]
        exact (domB_nat B z _).2 ⟨z1, hy.1.1, top z z2 z3⟩
      · obtain ⟨z, rfl, z1, z2, z3⟩ := (hmem x).1 hx
        have h9 := hall (U.nt ab b) ((hmem _).2 ⟨(U.nt ab b).toNat, hcast.symm, hy.1.1, hyb, hne⟩)
        rw [← hcast, domB_nat B] at h9
        have := dom_anti B X z1 hy.1.1 (top z z2 z3) h9.2.2
        omega
  · have : U.othD nx n b = [] := List.eq_nil_iff_forall_not_mem.2 fun x hx => by
      obtain ⟨y, _, _, h3, h4⟩ := (hmem x).1 hx
      exact hr ((B.rch hb).2 h3.1)
    unfold U.aboveD
    rw [this, X.tr.un b hb (by omega)]; rfl
end
end Go.Proofs.YtabdcfcnngnnoaaDoor.E
set_option linter.unusedVariables false
set_option linter.unusedSectionVars false
set_option linter.unusedSimpArgs false
namespace Go.Proofs.YtabdcfcnngnnoaaDoor.E
open Go
namespace U
def placeS : List Int → Nat → List Int → List Int
  | [], _, l => l
  | b :: r, i, l => placeS r (i + 1) (l.set b.toNat (i : Int))
end U
theorem placeS_len : ∀ (r : List Int) (i : Nat) (l : List Int), (U.placeS r i l).length = l.length
  | [], i, l => rfl
  | b :: r, i, l => by unfold U.placeS; rw [placeS_len r, List.length_set]
theorem placeS_non : ∀ (r : List Int) (i : Nat) (l : List Int) (x : Nat), (∀ b ∈ r, 0 ≤ b ∧ b < l.length) → (x : Int) ∉ r → U.nt (U.placeS r i l) x = U.nt l x
  | [], i, l, x, hr, hx => rfl
  | b :: r, i, l, x, hr, hx => by
    unfold U.placeS
    obtain ⟨b0, b1⟩ := hr b (by simp)
    rw [placeS_non r (i + 1) _ x (fun c hc => by rw [List.length_set]; exact hr c (List.mem_cons_of_mem _ hc)) (fun q => hx (List.mem_cons_of_mem _ q)), nt_set _ _ (by omega), if_neg (fun e => hx (by rw [List.mem_cons]; left; omega))]
theorem placeS_pos : ∀ (l1 : List Int) (x : Int) (l2 : List Int) (i : Nat) (l : List Int), (∀ b ∈ l1 ++ x :: l2, 0 ≤ b ∧ b < l.length) → (l1 ++ x :: l2).Nodup → U.nt (U.placeS (l1 ++ x :: l2) i l) x.toNat = ((i + l1.length : Nat) : Int)
  | [], x, l2, i, l, hr, hn => by
    obtain ⟨b0, b1⟩ := hr x (by simp)
    show U.nt (U.placeS l2 (i + 1) (l.set x.toNat (i : Int))) x.toNat = _
    rw [placeS_non l2 (i + 1) _ x.toNat (fun c hc => by rw [List.length_set]; exact hr c (by simp [hc])) (fun q => by
      rw [show ((x.toNat : Nat) : Int) = x by omega] at q
      rw [List.nil_append, List.nodup_cons] at hn
      exact hn.1 q), nt_set _ _ (by omega), if_pos rfl]
    simp
  | b :: l1, x, l2, i, l, hr, hn => by
    show U.nt (U.placeS (l1 ++ x :: l2) (i + 1) (l.set b.toNat (i : Int))) x.toNat = _
    rw [placeS_pos l1 x l2 (i + 1) _ (fun c hc => by rw [List.length_set]; exact hr c (List.mem_cons_of_mem _ hc)) (by
      rw [List.cons_append, List.nodup_cons] at hn
      exact hn.2), List.length_cons]
    omega
theorem base_of {nx : Int → List Int} {n : Nat} (hnx : ∀ x : Int, 0 ≤ x → x < n → ∀ y ∈ nx x, 0 ≤ y ∧ y < n) (hn : 0 < n) : Base nx n (U.left nx n).reverse (U.placeS (U.left nx n).reverse 0 (List.replicate n (-1))) := by
  have O := ord_of hnx hn
  have hr : ∀ b ∈ (U.left nx n).reverse, 0 ≤ b ∧ b < (List.replicate n (-1 : Int)).length := fun b hb => by rw [List.length_replicate]; exact O.ran b hb
  refine ⟨hn, hnx, O, by rw [placeS_len, List.length_replicate], fun l1 x l2 h => ?_, fun x hx hm => ?_⟩
  · have := placeS_pos l1 x l2 0 (List.replicate n (-1)) (by rw [← h]; exact hr) (by rw [← h]; exact O.nd)
    rw [← h, Nat.zero_add] at this
    exact this
  · rw [placeS_non _ _ _ _ hr hm, nt_rep n x (-1) hx]
theorem lv_zero {nx : Int → List Int} {n : Nat} {od pl : List Int} (B : Base nx n od pl) : Lv nx n pl 0 (List.replicate n (-1)) :=
  ⟨⟨by simp, nt_rep n 0 (-1) B.hn, fun x hx _ => nt_rep n x (-1) hx, fun x hx _ _ => .inl (nt_rep n x (-1) hx)⟩, fun x hx _ h => by rw [nt_rep n x (-1) hx] at h; omega, fun j hj => by omega⟩
end Go.Proofs.YtabdcfcnngnnoaaDoor.E
