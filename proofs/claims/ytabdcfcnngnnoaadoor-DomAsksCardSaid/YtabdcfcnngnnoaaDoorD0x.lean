/- Walks through a graph: definitions, and what a walk comes to. No program here. -/
import Derived.Test.YtabdcfcnngnnoaaDoorC0
import Derived.Test.YtabdcfcnngnnoaaDoorS0
set_option linter.unusedVariables false
set_option linter.unusedSimpArgs false
namespace Go.Proofs.YtabdcfcnngnnoaaDoor.E
open Go
namespace U
def skip (m : List Bool) (b : Int) : Bool := decide (b < 0) || (decide (b ≥ m.length) || m.getD b.toNat default)
def walkS (nx : Int → List Int) : Nat → Int → List Bool × List Int → List Bool × List Int
  | 0, _, s => s
  | k + 1, b, s => if skip s.1 b then s else (((nx b).foldl (fun s t => walkS nx k t s) (s.1.set b.toNat true, s.2)).1, ((nx b).foldl (fun s t => walkS nx k t s) (s.1.set b.toNat true, s.2)).2 ++ [b])
def unm (m : List Bool) : Nat := m.count false
end U
def on (m : List Bool) (i : Nat) : Prop := m.getD i default = true
theorem on_set {m : List Bool} {i : Nat} (j : Nat) (hi : i < m.length) : on (m.set i true) j ↔ on m j ∨ j = i := by
  unfold on
  rw [getD_set m i j true hi]
  by_cases e : j = i
  · rw [if_pos e]; simp [e]
  · rw [if_neg e]; simp [e]
theorem on_lt {m : List Bool} {i : Nat} (h : on m i) : i < m.length := Decidable.byContradiction fun q => by
  unfold on at h
  rw [List.getD_eq_getElem?_getD, List.getElem?_eq_none (by omega)] at h
  cases h
theorem on_false (n x : Nat) : ¬ on (List.replicate n false) x := by
  unfold on
  rw [List.getD_eq_getElem?_getD, List.getElem?_replicate]
  split <;> simp
theorem skip_no {m : List Bool} {b : Int} (h : U.skip m b = false) : 0 ≤ b ∧ b < m.length ∧ ¬ on m b.toNat ∧ m.getD b.toNat default = false := by
  unfold U.skip at h
  simp only [Bool.or_eq_false_iff, decide_eq_false_iff_not] at h
  refine ⟨by omega, by omega, ?_, h.2.2⟩
  unfold on
  rw [h.2.2]; simp
theorem skip_in {m : List Bool} {b : Int} (h : U.skip m b = true) (h0 : 0 ≤ b) (h1 : b < m.length) : on m b.toNat := by
  unfold U.skip at h
  simp only [Bool.or_eq_true, decide_eq_true_eq] at h
  rcases h with h | h | h
  · omega
  · omega
  · exact h
theorem unm_set : ∀ (m : List Bool) (i : Nat), i < m.length → m.getD i default = false → U.unm (m.set i true) + 1 = U.unm m
  | [], i, h, _ => by simp at h
  | x :: m, 0, _, h => by
    have hx : x = false := h
    subst hx
    unfold U.unm
    simp [List.count_cons]
  | x :: m, i + 1, h, h1 => by
    have ih := unm_set m i (by simpa using h) h1
    unfold U.unm at *
    rw [List.set_cons_succ, List.count_cons, List.count_cons]
    omega
theorem unm_zero {m : List Bool} (h : U.unm m = 0) (b : Int) : U.skip m b = true := by
  cases hs : U.skip m b with
  | true => rfl
  | false =>
    obtain ⟨h0, h1, _, h3⟩ := skip_no hs
    have := unm_set m b.toNat (by omega) h3
    omega
variable {nx : Int → List Int}
/-- What a step keeps a row of steps keeps. -/
theorem fold_keeps {α β : Type} (Q : α → α → Prop) (f : α → β → α) (refl : ∀ s, Q s s) (trans : ∀ a b c, Q a b → Q b c → Q a c) (step : ∀ s t, Q s (f s t)) : ∀ (l : List β) (s : α), Q s (l.foldl f s)
  | [], s => refl s
  | t :: l, s => trans _ _ _ (step s t) (fold_keeps Q f refl trans step l (f s t))
/-- How far on a state is. -/
structure Far0 (s s' : List Bool × List Int) : Prop where
  len : s'.1.length = s.1.length
  cap : s'.2.length + U.unm s'.1 ≤ s.2.length + U.unm s.1
  unm : U.unm s'.1 ≤ U.unm s.1
  mono : ∀ x, on s.1 x → on s'.1 x
theorem Far0.refl (s : List Bool × List Int) : Far0 s s := ⟨rfl, Nat.le_refl _, Nat.le_refl _, fun _ h => h⟩
theorem Far0.trans {a b c : List Bool × List Int} (h : Far0 a b) (g : Far0 b c) : Far0 a c := ⟨g.len.trans h.len, Nat.le_trans g.cap h.cap, Nat.le_trans g.unm h.unm, fun x hx => g.mono x (h.mono x hx)⟩
theorem walkS_far : ∀ (k : Nat) (b : Int) (s : List Bool × List Int), Far0 s (U.walkS nx k b s)
  | 0, b, s => Far0.refl s
  | k + 1, b, s => by
    unfold U.walkS
    cases hs : U.skip s.1 b with
    | true => exact Far0.refl s
    | false =>
      obtain ⟨h0, h1, h2, h3⟩ := skip_no hs
      have hu := unm_set s.1 b.toNat (by omega) h3
      have hf := fold_keeps Far0 (fun s t => U.walkS nx k t s) Far0.refl (fun _ _ _ => Far0.trans) (fun s t => walkS_far k t s) (nx b) (s.1.set b.toNat true, s.2)
      have e1 := hf.len
      have e2 := hf.cap
      have e3 := hf.unm
      simp only [List.length_set] at e1
      simp only at e2 e3
      refine ⟨e1, ?_, ?_, fun x hx => hf.mono x ((on_set x (by omega)).2 (.inl hx))⟩
      · simp only [Bool.false_eq_true, if_false, List.length_append, List.length_singleton]; omega
      · simp only [Bool.false_eq_true, if_false]; omega
theorem fold_far (k : Nat) (l : List Int) (s : List Bool × List Int) : Far0 s (l.foldl (fun s t => U.walkS nx k t s) s) :=
  fold_keeps Far0 _ Far0.refl (fun _ _ _ => Far0.trans) (fun s t => walkS_far k t s) l s
end Go.Proofs.YtabdcfcnngnnoaaDoor.E
set_option linter.unusedVariables false
set_option linter.unusedSimpArgs false
namespace Go.Proofs.YtabdcfcnngnnoaaDoor.E
open Go
/-- A way, along which wo isn't met. -/
inductive WayW (nx : Int → List Int) (n : Nat) (wo : Int) (a : Nat) : Nat → Prop
  | refl : WayW nx n wo a a
  | step (x : Nat) (t : Int) : WayW nx n wo a x → x < n → t ∈ nx x → 0 ≤ t → t < n → t ≠ wo → WayW nx n wo a t.toNat
def ClosedW (nx : Int → List Int) (n : Nat) (wo : Int) (S : Nat → Prop) : Prop := ∀ j : Nat, j < n → S j → ∀ t ∈ nx j, 0 ≤ t → t < n → t ≠ wo → S t.toNat
theorem WayW.closed {nx : Int → List Int} {n : Nat} {wo : Int} {a : Nat} : ClosedW nx n wo (WayW nx n wo a) := fun j hj h t ht h0 h1 h2 => .step j t h hj ht h0 h1 h2
theorem WayW.least {nx : Int → List Int} {n : Nat} {wo : Int} {a : Nat} {S : Nat → Prop} (hS : ClosedW nx n wo S) (ha : S a) {x : Nat} (h : WayW nx n wo a x) : S x := by
  induction h with
  | refl => exact ha
  | step x t _ hx ht h0 h1 h2 ih => exact hS x hx ih t ht h0 h1 h2
theorem WayW.trans {nx : Int → List Int} {n : Nat} {wo : Int} {a b c : Nat} (h : WayW nx n wo a b) (g : WayW nx n wo b c) : WayW nx n wo a c := by
  induction g with
  | refl => exact h
  | step x t _ hx ht h0 h1 h2 ih => exact .step x t ih hx ht h0 h1 h2
section
variable {nx : Int → List Int} {n : Nat}
abbrev Way (nx : Int → List Int) (n : Nat) : Nat → Nat → Prop := fun a b => WayW nx n (-1) a b
structure DInv (nx : Int → List Int) (n : Nat) (s : List Bool × List Int) : Prop where
  len : s.1.length = n
  ran : ∀ x ∈ s.2, 0 ≤ x ∧ x < n ∧ on s.1 x.toNat
  nd : s.2.Nodup
  good : ∀ (l1 : List Int) (x : Int) (l2 : List Int), s.2 = l1 ++ x :: l2 → ∀ y ∈ nx x, y ∈ l1 ∨ Way nx n y.toNat x.toNat
structure DPost (nx : Int → List Int) (n : Nat) (src : List Int) (s s' : List Bool × List Int) (ext : List Int) : Prop where
  inv : DInv nx n s'
  eq : s'.2 = s.2 ++ ext
  onx : ∀ j : Nat, on s'.1 j ↔ on s.1 j ∨ (j : Int) ∈ ext
  fresh : ∀ x ∈ ext, ¬ on s.1 x.toNat
  clo : ∀ x ∈ ext, ∀ y ∈ nx x, on s'.1 y.toNat
  way : ∀ S : Nat → Prop, ClosedW nx n (-1) S → (∀ t ∈ src, S t.toNat) → ∀ x ∈ ext, S x.toNat
  tar : ∀ t ∈ src, on s'.1 t.toNat
def Gray (nx : Int → List Int) (n : Nat) (s : List Bool × List Int) (b : Int) : Prop := ∀ j : Nat, on s.1 j → (j : Int) ∉ s.2 → Way nx n j b.toNat
theorem gray_post {src : List Int} {s s' : List Bool × List Int} {ext : List Int} (h : DPost nx n src s s' ext) {b : Int} (g : Gray nx n s b) : Gray nx n s' b := fun j hj hn => by
  rw [h.eq] at hn
  have h1 : (j : Int) ∉ s.2 := fun q => hn (List.mem_append.2 (.inl q))
  rcases (h.onx j).1 hj with hj | hj
  · exact g j hj h1
  · exact absurd (List.mem_append.2 (.inr hj)) hn
theorem mono_post {src : List Int} {s s' : List Bool × List Int} {ext : List Int} (h : DPost nx n src s s' ext) {j : Nat} (hj : on s.1 j) : on s'.1 j := (h.onx j).2 (.inl hj)
theorem fold_ok (k : Nat) (ih : ∀ (b : Int) (s : List Bool × List Int), DInv nx n s → U.unm s.1 ≤ k → 0 ≤ b → b < n → Gray nx n s b → ∃ ext, DPost nx n [b] s (U.walkS nx k b s) ext) :
    ∀ (l : List Int) (s : List Bool × List Int), DInv nx n s → U.unm s.1 ≤ k → (∀ t ∈ l, 0 ≤ t ∧ t < n ∧ Gray nx n s t) → ∃ ext, DPost nx n l s (l.foldl (fun s t => U.walkS nx k t s) s) ext
  | [], s, hi, _, _ => ⟨[], hi, by simp, by simp, fun x hx => by simp at hx, fun x hx => by simp at hx, fun S _ _ x hx => by simp at hx, fun t ht => by simp at ht⟩
  | t :: l, s, hi, hu, hl => by
    obtain ⟨t0, t1, tg⟩ := hl t (by simp)
    obtain ⟨e1, p1⟩ := ih t s hi hu t0 t1 tg
    have hf := walkS_far (nx := nx) k t s
    obtain ⟨e2, p2⟩ := fold_ok k ih l (U.walkS nx k t s) p1.inv (by have := hf.unm; omega) (fun u hu' => ⟨(hl u (List.mem_cons_of_mem _ hu')).1, (hl u (List.mem_cons_of_mem _ hu')).2.1, gray_post p1 (hl u (List.mem_cons_of_mem _ hu')).2.2⟩)
    refine ⟨e1 ++ e2, p2.inv, by rw [List.foldl_cons, p2.eq, p1.eq, List.append_assoc], fun j => ?_, fun x hx => ?_, fun x hx y hy => ?_, fun S hS hsrc x hx => ?_, fun u hu' => ?_⟩
    · rw [List.foldl_cons, p2.onx j, p1.onx j, List.mem_append, or_assoc]
    · rcases List.mem_append.1 hx with hx | hx
      · exact p1.fresh x hx
      · exact fun q => p2.fresh x hx (mono_post p1 q)
    · rcases List.mem_append.1 hx with hx | hx
      · exact mono_post p2 (p1.clo x hx y hy)
      · exact p2.clo x hx y hy
    · rcases List.mem_append.1 hx with hx | hx
      · exact p1.way S hS (fun u hu' => hsrc u (by rw [List.mem_singleton.1 hu']; simp)) x hx
      · exact p2.way S hS (fun u hu' => hsrc u (List.mem_cons_of_mem _ hu')) x hx
    · rcases List.mem_cons.1 hu' with rfl | hu'
      · exact mono_post p2 (p1.tar u (by simp))
      · exact p2.tar u hu'
theorem walk_ok (hnx : ∀ x : Int, 0 ≤ x → x < n → ∀ y ∈ nx x, 0 ≤ y ∧ y < n) : ∀ (k : Nat) (b : Int) (s : List Bool × List Int), DInv nx n s → U.unm s.1 ≤ k → 0 ≤ b → b < n → Gray nx n s b → ∃ ext, DPost nx n [b] s (U.walkS nx k b s) ext := by
  have skipc : ∀ (k : Nat) (b : Int) (s : List Bool × List Int), DInv nx n s → 0 ≤ b → b < n → U.skip s.1 b = true → ∃ ext, DPost nx n [b] s s ext := fun k b s hi b0 b1 hs =>
    ⟨[], hi, by simp, by simp, fun x hx => by simp at hx, fun x hx => by simp at hx, fun S _ _ x hx => by simp at hx, fun t ht => by
      rw [List.mem_singleton.1 ht]
      exact skip_in hs b0 (by rw [hi.len]; exact b1)⟩
  intro k
  induction k with
  | zero =>
    intro b s hi hu b0 b1 g
    exact skipc 0 b s hi b0 b1 (unm_zero (by omega) b)
  | succ k ih =>
    intro b s hi hu b0 b1 g
    unfold U.walkS
    cases hs : U.skip s.1 b with
    | true => exact skipc 0 b s hi b0 b1 hs
    | false =>
      obtain ⟨_, h1, h2, h3⟩ := skip_no hs
      have hset := unm_set s.1 b.toNat (by omega) h3
      have hon : ∀ j, on (s.1.set b.toNat true) j ↔ on s.1 j ∨ j = b.toNat := fun j => on_set j (by omega)
      have hb2 : b ∉ s.2 := fun q => h2 (hi.ran b q).2.2
      have hi0 : DInv nx n (s.1.set b.toNat true, s.2) := ⟨by rw [List.length_set]; exact hi.len, fun x hx => ⟨(hi.ran x hx).1, (hi.ran x hx).2.1, (hon _).2 (.inl (hi.ran x hx).2.2)⟩, hi.nd, hi.good⟩
      have hgray : ∀ t ∈ nx b, Gray nx n (s.1.set b.toNat true, s.2) t := fun t ht j hj hn => by
        have htr := hnx b b0 b1 t ht
        have hbc : ((b.toNat : Nat) : Int) = b := by omega
        have one : Way nx n b.toNat t.toNat := WayW.step b.toNat t .refl (by omega) (by rw [hbc]; exact ht) htr.1 htr.2 (by omega)
        rcases (hon j).1 hj with hj | rfl
        · exact (g j hj hn).trans one
        · exact one
      obtain ⟨ext, p⟩ := fold_ok k ih (nx b) (s.1.set b.toNat true, s.2) hi0 (by simp only; omega) (fun t ht => ⟨(hnx b b0 b1 t ht).1, (hnx b b0 b1 t ht).2, hgray t ht⟩)
      generalize (nx b).foldl (fun s t => U.walkS nx k t s) (s.1.set b.toNat true, s.2) = s1 at p
      have hbe : b ∉ ext := fun q => p.fresh b q ((hon _).2 (.inr rfl))
      have hbn : b ∉ s1.2 := by
        rw [p.eq]
        intro q
        rcases List.mem_append.1 q with q | q
        · exact hb2 q
        · exact hbe q
      have hb1 : on s1.1 b.toNat := mono_post p ((hon _).2 (.inr rfl))
      simp only [Bool.false_eq_true, if_false]
      refine ⟨ext ++ [b], ⟨p.inv.len, fun x hx => ?_, ?_, fun l1 x l2 he y hy => ?_⟩, ?_, fun j => ?_, fun x hx => ?_, fun x hx y hy => ?_, fun S hS hsrc x hx => ?_, fun t ht => ?_⟩
      · rcases List.mem_append.1 hx with hx | hx
        · exact p.inv.ran x hx
        · rw [List.mem_singleton.1 hx]; exact ⟨b0, b1, hb1⟩
      · rw [List.nodup_append]
        refine ⟨p.inv.nd, by simp, fun x hx y hy e => ?_⟩
        rw [List.mem_singleton.1 hy] at e
        exact hbn (e ▸ hx)
      · simp only at he
        rcases List.eq_nil_or_concat l2 with rfl | ⟨l2', z, rfl⟩
        · obtain ⟨rfl, hx⟩ := List.append_inj' he rfl
          obtain rfl : b = x := by simpa using hx
          by_cases hyl : y ∈ s1.2
          · exact .inl hyl
          · right
            have hyr := hnx b b0 b1 y hy
            have hyc : ((y.toNat : Nat) : Int) = y := by omega
            have hyo := p.tar y hy
            have hye : y ∉ s.2 ∧ y ∉ ext := by rw [p.eq] at hyl; exact ⟨fun q => hyl (List.mem_append.2 (.inl q)), fun q => hyl (List.mem_append.2 (.inr q))⟩
            rcases (p.onx y.toNat).1 hyo with q | q
            · rcases (hon _).1 q with q | q
              · exact g y.toNat q (by rw [hyc]; exact hye.1)
              · rw [q]; exact .refl
            · rw [hyc] at q; exact absurd q hye.2
        · have he2 : s1.2 ++ [b] = (l1 ++ x :: l2') ++ [z] := by rw [he]; simp
          obtain ⟨he3, _⟩ := List.append_inj' he2 rfl
          exact p.inv.good l1 x l2' he3 y hy
      · simp only; rw [p.eq, List.append_assoc]
      · rw [p.onx j, hon j, List.mem_append, List.mem_singleton]
        have : j = b.toNat ↔ (j : Int) = b := by omega
        rw [this, or_assoc, or_comm (a := (j : Int) = b)]
      · rcases List.mem_append.1 hx with hx | hx
        · exact fun q => p.fresh x hx ((hon _).2 (.inl q))
        · rw [List.mem_singleton.1 hx]; exact h2
      · rcases List.mem_append.1 hx with hx | hx
        · exact p.clo x hx y hy
        · rw [List.mem_singleton.1 hx] at hy; exact p.tar y hy
      · have hSb : S b.toNat := hsrc b (by simp)
        rcases List.mem_append.1 hx with hx | hx
        · refine p.way S hS (fun t ht => ?_) x hx
          have htr := hnx b b0 b1 t ht
          exact hS b.toNat (by omega) hSb t (by rw [show ((b.toNat : Nat) : Int) = b by omega]; exact ht) htr.1 htr.2 (by omega)
        · rw [List.mem_singleton.1 hx]; exact hSb
      · rw [List.mem_singleton.1 ht]; exact hb1
/-- The blocks in the order in which they are left. -/
def U.left (nx : Int → List Int) (n : Nat) : List Int := (U.walkS nx n 0 (List.replicate n false, [])).2
theorem unm_rep (n : Nat) : U.unm (List.replicate n false) = n := by unfold U.unm; simp
theorem left_len (n : Nat) : (U.left nx n).length ≤ n := by
  have h := (walkS_far (nx := nx) n 0 (List.replicate n false, [])).cap
  rw [unm_rep] at h
  simp only [List.length_nil] at h
  unfold U.left
  omega
/-- What a walk from 0 on comes to. -/
structure Left (nx : Int → List Int) (n : Nat) (l : List Int) : Prop where
  ran : ∀ x ∈ l, 0 ≤ x ∧ x < n
  nd : l.Nodup
  mem : ∀ x : Nat, (x : Int) ∈ l ↔ Way nx n 0 x
  good : ∀ (l1 : List Int) (x : Int) (l2 : List Int), l = l1 ++ x :: l2 → ∀ y ∈ nx x, y ∈ l1 ∨ Way nx n y.toNat x.toNat
  last : ∃ e, l = e ++ [0]
theorem left_ok (hnx : ∀ x : Int, 0 ≤ x → x < n → ∀ y ∈ nx x, 0 ≤ y ∧ y < n) (hn : 0 < n) : Left nx n (U.left nx n) := by
  have hi : DInv nx n (List.replicate n false, []) := ⟨by simp, fun x hx => by simp at hx, by simp, fun l1 x l2 he => by simp at he⟩
  obtain ⟨ext, p⟩ := walk_ok hnx n 0 (List.replicate n false, []) hi (by rw [unm_rep]; exact Nat.le_refl _) (Int.le_refl _) (by omega) (fun j hj => absurd hj (on_false n j))
  have he : U.left nx n = ext := by have := p.eq; rw [List.nil_append] at this; exact this
  have hinv := p.inv
  have hl0 : (U.walkS nx n 0 (List.replicate n false, [])).2 = ext := he
  have hon : ∀ j : Nat, on (U.walkS nx n 0 (List.replicate n false, [])).1 j ↔ (j : Int) ∈ ext := fun j => by
    rw [p.onx j]
    exact ⟨fun h => h.elim (fun q => absurd q (on_false n j)) id, .inr⟩
  rw [he]
  refine ⟨fun x hx => ?_, ?_, fun x => ⟨fun hx => ?_, fun hx => ?_⟩, fun l1 x l2 e y hy => ?_, ?_⟩
  · have := hinv.ran x (by rw [hl0]; exact hx)
    exact ⟨this.1, this.2.1⟩
  · rw [← hl0]; exact hinv.nd
  · exact p.way (Way nx n 0) WayW.closed (fun t ht => by rw [List.mem_singleton.1 ht]; exact .refl) (x : Int) hx
  · refine (hon x).1 (hx.least (S := fun x => on (U.walkS nx n 0 (List.replicate n false, [])).1 x) (fun j hj hs t ht h0 h1 _ => ?_) ?_)
    · exact p.clo (j : Int) ((hon j).1 hs) t ht
    · exact p.tar 0 (by simp)
  · exact hinv.good l1 x l2 (by rw [hl0]; exact e) y hy
  · obtain ⟨m, rfl⟩ : ∃ m, n = m + 1 := ⟨n - 1, by omega⟩
    have hs : U.skip (List.replicate (m + 1) false) 0 = false := by
      unfold U.skip
      simp
    rw [← he]
    unfold U.left U.walkS
    rw [if_neg (by rw [hs]; simp)]
    exact ⟨_, rfl⟩
end
/-- The numbers that are on, from i on. -/
def onL (m : List Bool) : Nat → Nat → List Int
  | 0, _ => []
  | d + 1, i => if m.getD i default then (i : Int) :: onL m d (i + 1) else onL m d (i + 1)
theorem onL_mem (m : List Bool) : ∀ (d i : Nat) (x : Int), x ∈ onL m d i ↔ ∃ y : Nat, x = y ∧ i ≤ y ∧ y < i + d ∧ on m y
  | 0, i, x => by simp [onL]; omega
  | d + 1, i, x => by
    have ih := onL_mem m d (i + 1) x
    unfold onL
    by_cases h : m.getD i default = true
    · rw [if_pos h, List.mem_cons, ih]
      constructor
      · rintro (rfl | ⟨y, h1, h2, h3, h4⟩)
        · exact ⟨i, rfl, Nat.le_refl _, by omega, h⟩
        · exact ⟨y, h1, by omega, by omega, h4⟩
      · rintro ⟨y, h1, h2, h3, h4⟩
        by_cases e : y = i
        · left; omega
        · exact .inr ⟨y, h1, by omega, by omega, h4⟩
    · rw [if_neg h, ih]
      constructor
      · rintro ⟨y, h1, h2, h3, h4⟩
        exact ⟨y, h1, by omega, by omega, h4⟩
      · rintro ⟨y, h1, h2, h3, h4⟩
        by_cases e : y = i
        · subst e; exact absurd h4 h
        · exact ⟨y, h1, by omega, by omega, h4⟩
theorem onL_sorted (m : List Bool) : ∀ (d i : Nat), (onL m d i).Pairwise (· < ·)
  | 0, i => List.Pairwise.nil
  | d + 1, i => by
    unfold onL
    split
    · refine List.pairwise_cons.2 ⟨fun x hx => ?_, onL_sorted m d (i + 1)⟩
      obtain ⟨y, rfl, h1, _⟩ := (onL_mem m d (i + 1) x).1 hx
      omega
    · exact onL_sorted m d (i + 1)
theorem onL_len (m : List Bool) : ∀ (d i : Nat), (onL m d i).length ≤ d
  | 0, i => Nat.le_refl _
  | d + 1, i => by
    have := onL_len m d (i + 1)
    unfold onL
    split
    · rw [List.length_cons]; omega
    · omega
def cntT (m : List Bool) : Nat := m.count true
theorem cnt_mono : ∀ (a b : List Bool), a.length = b.length → (∀ x, on a x → on b x) → cntT a ≤ cntT b ∧ (cntT a = cntT b → a = b)
  | [], [], _, _ => ⟨Nat.le_refl _, fun _ => rfl⟩
  | [], _ :: _, h, _ => by simp at h
  | _ :: _, [], h, _ => by simp at h
  | p :: a, q :: b, h, hm => by
    obtain ⟨i1, i2⟩ := cnt_mono a b (by simpa using h) (fun x hx => hm (x + 1) hx)
    have h0 : p = true → q = true := fun e => hm 0 e
    unfold cntT at *
    cases p <;> cases q
    · simp only [List.count_cons]; simp; exact ⟨i1, fun e => i2 e⟩
    · simp only [List.count_cons]; simp; exact ⟨by omega, by omega⟩
    · exact absurd (h0 rfl) (by simp)
    · simp only [List.count_cons]; simp; exact ⟨i1, fun e => i2 e⟩
theorem cnt_all {m : List Bool} (h : m.length ≤ cntT m) : ∀ x, x < m.length → on m x := fun x hx => by
  have h2 := List.count_le_length (a := true) (l := m)
  have hall := List.count_eq_length.1 (show m.count true = m.length by unfold cntT at h; omega)
  exact (hall _ (getD_mem hx)).symm
open Classical in
/-- The blocks that are reached from one, without another one. -/
noncomputable def U.withinB (nx : Int → List Int) (n : Nat) (fr wo : Int) : List Bool := (List.range n).map fun x => decide (0 ≤ fr ∧ fr < n ∧ fr ≠ wo ∧ WayW nx n wo fr.toNat x)
theorem withinB_len (nx : Int → List Int) (n : Nat) (fr wo : Int) : (U.withinB nx n fr wo).length = n := by unfold U.withinB; simp
theorem withinB_on (nx : Int → List Int) (n : Nat) (fr wo : Int) (x : Nat) : on (U.withinB nx n fr wo) x ↔ x < n ∧ 0 ≤ fr ∧ fr < n ∧ fr ≠ wo ∧ WayW nx n wo fr.toNat x := by
  unfold on U.withinB
  rw [List.getD_eq_getElem?_getD, List.getElem?_map]
  by_cases h : x < n
  · rw [List.getElem?_eq_getElem (by simpa using h)]
    simp [h]
  · rw [List.getElem?_eq_none (by simpa using h)]
    simp [h]
theorem on_ext {a b : List Bool} (hl : a.length = b.length) (h : ∀ x, x < a.length → (on a x ↔ on b x)) : a = b := by
  apply List.ext_getElem hl
  intro i h1 h2
  have := h i h1
  unfold on at this
  rw [List.getD_eq_getElem?_getD, List.getD_eq_getElem?_getD, List.getElem?_eq_getElem h1, List.getElem?_eq_getElem h2] at this
  simp only [Option.getD_some] at this
  cases ha : a[i] <;> cases hb : b[i] <;> simp_all
/-- The reached blocks, in order, are those of the walk. -/
theorem left_sorted {nx : Int → List Int} {n : Nat} (hnx : ∀ x : Int, 0 ≤ x → x < n → ∀ y ∈ nx x, 0 ≤ y ∧ y < n) (hn : 0 < n) : U.isort (U.left nx n).reverse = onL (U.withinB nx n 0 (-1)) n 0 := by
  have hL := left_ok hnx hn
  have hnd : (U.left nx n).reverse.Nodup := (List.reverse_perm _).nodup_iff.2 hL.nd
  have hnd2 : (onL (U.withinB nx n 0 (-1)) n 0).Nodup := (onL_sorted _ _ _).imp (fun h => by omega)
  refine sorted_unique ?_ (isort_sorted _) ((onL_sorted _ _ _).imp (fun h => by omega))
  refine (isort_perm _).trans ?_
  rw [List.perm_ext_iff_of_nodup hnd hnd2]
  intro x
  rw [List.mem_reverse, onL_mem]
  constructor
  · intro hx
    obtain ⟨x0, x1⟩ := hL.ran x hx
    refine ⟨x.toNat, by omega, Nat.zero_le _, by omega, (withinB_on nx n 0 (-1) x.toNat).2 ⟨by omega, by omega, by omega, by omega, ?_⟩⟩
    exact (hL.mem x.toNat).1 (by rw [show ((x.toNat : Nat) : Int) = x by omega]; exact hx)
  · rintro ⟨y, rfl, _, _, hy⟩
    exact (hL.mem y).2 ((withinB_on nx n 0 (-1) y).1 hy).2.2.2.2
end Go.Proofs.YtabdcfcnngnnoaaDoor.E
