/- What is kept: sets with their bases. The plain law; no program here. -/
import Derived.Test.YtdnekkkpngnmkaaDoorB1x
import Derived.Test.YtdnekkkpngnmkaaDoorB5
set_option linter.unusedVariables false
set_option linter.unusedSimpArgs false
namespace Go.Proofs.YtdnekkkpngnmkaaDoor.E
open Go
/-- What is known of a function's variables. -/
structure KOk (K Bs : List Int) : Prop where
  len : K.length ≤ 48
  blen : Bs.length = K.length
  base : ∀ i, i < K.length → U.nt K i = 2 → 0 ≤ U.nt Bs i ∧ U.nt Bs i < K.length ∧ U.nt K (U.nt Bs i).toNat = 1
namespace U
def refL (K : List Int) (c : Int) (s : List Int) : List Int := selP (fun v => (nt K v == c) && Bit.tb s v) K.length 0
def inL (K s : List Int) : List Int := selP (fun v => Bit.tb s v) K.length 0
def addB (Bs : List Int) (l o : List Int) : List Int := l.foldl (fun o d => withL o [nt Bs d.toNat]) o
def closeL (K Bs s : List Int) : List Int := addB Bs (refL K 2 s) (withL [] (inL K s))
def closeF (K Bs s : List Int) : Nat → Nat → List Int → List Int
  | 0, _, o => o
  | d + 1, v, o => closeF K Bs s d (v + 1) (if Bit.tb s v then (if nt K v == 2 then withL (withL o [(v : Int)]) [nt Bs v] else withL o [(v : Int)]) else o)
def delK (K : List Int) (c v : Int) : Bool := decide (v ≥ (K.length : Int)) || !(nt K v.toNat == c)
def delA (K : List Int) (v : Int) : Bool := decide (v ≥ (K.length : Int))
end U
theorem wdW {s l : List Int} (h : Bit.Wd s) : Bit.Wd (U.withL s l) := Bit.neatL_Wd (Bit.puts_Wd l s h)
theorem tbW (s l : List Int) (m : Nat) : Bit.tb (U.withL s l) m = (Bit.tb s m || (decide ((m : Int) ∈ l) && decide ((m : Int) < 4096))) := by
  unfold U.withL; rw [Bit.tb_neatL, Bit.tb_puts]
theorem lenW (s l : List Int) (h : s.length ≤ 1000) : (U.withL s l).length ≤ 1000 := by
  have h1 := puts_len l s h
  have h2 := Bit.neatL_length_le (l.foldl Bit.putL s)
  unfold U.withL; omega
theorem neatW (s l : List Int) : Bit.neatL (U.withL s l) = U.withL s l := by unfold U.withL; exact Bit.neatL_neatL _
theorem selP_filter (p : Nat → Bool) (f : Int → Bool) : ∀ (d i : Nat), (U.selP p d i).filter f = U.selP (fun y => p y && f (y : Int)) d i
  | 0, i => rfl
  | d + 1, i => by
    unfold U.selP
    rw [List.filter_append, selP_filter p f d (i + 1)]
    cases hp : p i with
    | false => rfl
    | true =>
      cases hf : f (i : Int) with
      | true => simp [hf]
      | false => simp [hf]
theorem selP_add {p r q : Nat → Bool} (h1 : ∀ y, p y = true → q y = true ∧ r y = false) (h2 : ∀ y, r y = true → q y = true) : ∀ (d i : Nat), (U.selP p d i).length + (U.selP r d i).length ≤ (U.selP q d i).length
  | 0, i => Nat.le_refl _
  | d + 1, i => by
    have ih := selP_add h1 h2 d (i + 1)
    unfold U.selP
    rw [List.length_append, List.length_append, List.length_append]
    cases hp : p i with
    | true =>
      obtain ⟨g1, g2⟩ := h1 i hp
      rw [g1, g2]
      simp only [if_true, List.length_singleton, Bool.false_eq_true, if_false, List.length_nil]
      omega
    | false =>
      cases hr : r i with
      | true =>
        rw [h2 i hr]
        simp only [if_true, List.length_singleton, Bool.false_eq_true, if_false, List.length_nil]
        omega
      | false =>
        simp only [Bool.false_eq_true, if_false, List.length_nil]
        omega
theorem some_ref (K : List Int) (c : Int) (s : List Int) : (Bit.toI (Bit.numsL s s.length)).filter (fun m => !U.delK K c m) = U.refL K c s := by
  rw [Bit.nums_sel, selP_filter]
  unfold U.refL
  refine selP_eq _ _ (fun y => ?_)
  unfold U.delK
  rw [Int.toNat_natCast]
  constructor
  · rintro ⟨h1, h2⟩
    rw [Bool.and_eq_true, Bool.not_eq_true', Bool.or_eq_false_iff, decide_eq_false_iff_not] at h2
    exact ⟨by omega, by rw [Bool.and_eq_true]; exact ⟨by simpa using h2.2.2, h2.1⟩⟩
  · rintro ⟨h1, h2⟩
    rw [Bool.and_eq_true] at h2
    refine ⟨?_, ?_⟩
    · refine Decidable.byContradiction fun q => ?_
      have := Bit.tb_ge (l := s) (n := y) (by omega)
      rw [this] at h2; cases h2.2
    · rw [Bool.and_eq_true, Bool.not_eq_true', Bool.or_eq_false_iff, decide_eq_false_iff_not]
      exact ⟨h2.2, by omega, by rw [h2.1]; rfl⟩
theorem some_in (K : List Int) (s : List Int) : (Bit.toI (Bit.numsL s s.length)).filter (fun m => !U.delA K m) = U.inL K s := by
  rw [Bit.nums_sel, selP_filter]
  unfold U.inL
  refine selP_eq _ _ (fun y => ?_)
  unfold U.delA
  constructor
  · rintro ⟨h1, h2⟩
    rw [Bool.and_eq_true, Bool.not_eq_true', decide_eq_false_iff_not] at h2
    exact ⟨by omega, h2.1⟩
  · rintro ⟨h1, h2⟩
    refine ⟨?_, ?_⟩
    · refine Decidable.byContradiction fun q => ?_
      have := Bit.tb_ge (l := s) (n := y) (by omega)
      rw [this] at h2; cases h2
    · rw [Bool.and_eq_true, Bool.not_eq_true', decide_eq_false_iff_not]
      exact ⟨h2, by omega⟩
/-- What a set with its bases has. -/
def InC (K Bs s : List Int) (x : Nat) : Prop := (x < K.length ∧ Bit.tb s x = true) ∨ ∃ d : Nat, d < K.length ∧ U.nt K d = 2 ∧ Bit.tb s d = true ∧ U.nt Bs d = x
section
variable {K Bs : List Int} (O : KOk K Bs)
theorem addB_ok (Bs : List Int) : ∀ (l o : List Int), Bit.Wd o → o.length ≤ 1000 → Bit.neatL o = o → (∀ d ∈ l, 0 ≤ d ∧ U.nt Bs d.toNat < 4096) →
    Bit.Wd (U.addB Bs l o) ∧ (U.addB Bs l o).length ≤ 1000 ∧ Bit.neatL (U.addB Bs l o) = U.addB Bs l o ∧ ∀ m, Bit.tb (U.addB Bs l o) m = true ↔ Bit.tb o m = true ∨ ∃ d ∈ l, U.nt Bs d.toNat = m
  | [], o, hw, hl, hn, _ => ⟨hw, hl, hn, fun m => by
      show Bit.tb o m = true ↔ _
      simp⟩
  | d :: l, o, hw, hl, hn, hd => by
    obtain ⟨h1, h2, h3, h4⟩ := addB_ok Bs l (U.withL o [U.nt Bs d.toNat]) (wdW hw) (lenW _ _ hl) (neatW _ _) (fun x hx => hd x (List.mem_cons_of_mem _ hx))
    refine ⟨h1, h2, h3, fun m => ?_⟩
    refine (h4 m).trans ?_
    rw [tbW, Bool.or_eq_true, Bool.and_eq_true, decide_eq_true_eq, decide_eq_true_eq, List.mem_singleton]
    have := (hd d (by simp)).2
    constructor
    · rintro ((q | q) | ⟨e, q1, q2⟩)
      · exact .inl q
      · exact .inr ⟨d, by simp, q.1.symm⟩
      · exact .inr ⟨e, List.mem_cons_of_mem _ q1, q2⟩
    · rintro (q | ⟨e, q1, q2⟩)
      · exact .inl (.inl q)
      · rcases List.mem_cons.1 q1 with rfl | q1
        · exact .inl (.inr ⟨q2.symm, by omega⟩)
        · exact .inr ⟨e, q1, q2⟩
include O
theorem closeL_ok (s : List Int) : Bit.Wd (U.closeL K Bs s) ∧ (U.closeL K Bs s).length ≤ 1000 ∧ Bit.neatL (U.closeL K Bs s) = U.closeL K Bs s ∧ ∀ m, Bit.tb (U.closeL K Bs s) m = true ↔ InC K Bs s m := by
  have hK := O.len
  have hm : ∀ x : Int, x ∈ U.refL K 2 s ↔ ∃ y : Nat, x = y ∧ y < K.length ∧ U.nt K y = 2 ∧ Bit.tb s y = true := fun x => by
    unfold U.refL
    rw [selP_mem]
    constructor
    · rintro ⟨y, h1, _, h3, h4⟩
      rw [Bool.and_eq_true, beq_iff_eq] at h4
      exact ⟨y, h1, by omega, h4.1, h4.2⟩
    · rintro ⟨y, h1, h2, h3, h4⟩
      exact ⟨y, h1, by omega, by omega, by rw [Bool.and_eq_true, beq_iff_eq]; exact ⟨h3, h4⟩⟩
  obtain ⟨h1, h2, h3, h4⟩ := addB_ok Bs (U.refL K 2 s) (U.withL [] (U.inL K s)) (wdW Bit.Wd.nil) (lenW _ _ (by simp)) (neatW _ _) (fun d hd => by
    obtain ⟨y, rfl, y1, y2, y3⟩ := (hm d).1 hd
    have := O.base y y1 y2
    rw [Int.toNat_natCast]
    omega)
  refine ⟨h1, h2, h3, fun m => ?_⟩
  refine (h4 m).trans ?_
  rw [tbW, Bit.tb_nil, Bool.false_or, Bool.and_eq_true, decide_eq_true_eq, decide_eq_true_eq]
  unfold U.inL InC
  rw [selP_mem]
  constructor
  · rintro (⟨⟨y, q1, _, q2, q3⟩, _⟩ | ⟨d, q1, q2⟩)
    · have : m = y := by omega
      subst this
      exact .inl ⟨by omega, q3⟩
    · obtain ⟨y, rfl, y1, y2, y3⟩ := (hm d).1 q1
      rw [Int.toNat_natCast] at q2
      exact .inr ⟨y, y1, y2, y3, q2⟩
  · rintro (⟨q1, q2⟩ | ⟨d, q1, q2, q3, q4⟩)
    · exact .inl ⟨⟨m, rfl, Nat.zero_le _, by omega, q2⟩, by omega⟩
    · exact .inr ⟨d, (hm d).2 ⟨d, rfl, q1, q2, q3⟩, by rw [Int.toNat_natCast]; exact q4⟩
theorem closeF_ok (s : List Int) : ∀ (d v : Nat) (o : List Int), v + d = K.length → Bit.Wd o → o.length ≤ 1000 →
    Bit.Wd (U.closeF K Bs s d v o) ∧ (U.closeF K Bs s d v o).length ≤ 1000 ∧ ∀ m, Bit.tb (U.closeF K Bs s d v o) m = true ↔ Bit.tb o m = true ∨ (v ≤ m ∧ m < K.length ∧ Bit.tb s m = true) ∨ ∃ e : Nat, v ≤ e ∧ e < K.length ∧ U.nt K e = 2 ∧ Bit.tb s e = true ∧ U.nt Bs e = m
  | 0, v, o, hd, hw, hl => ⟨hw, hl, fun m => ⟨.inl, fun h => by
      rcases h with h | ⟨h1, h2, _⟩ | ⟨e, h1, h2, _⟩
      · exact h
      · omega
      · omega⟩⟩
  | d + 1, v, o, hd, hw, hl => by
    have hK := O.len
    unfold U.closeF
    cases ht : Bit.tb s v with
    | false =>
      rw [if_neg (by simp)]
      obtain ⟨h1, h2, h3⟩ := closeF_ok s d (v + 1) o (by omega) hw hl
      refine ⟨h1, h2, fun m => (h3 m).trans ?_⟩
      constructor
      · rintro (q | ⟨q1, q2⟩ | ⟨e, q1, q2⟩)
        · exact .inl q
        · exact .inr (.inl ⟨by omega, q2⟩)
        · exact .inr (.inr ⟨e, by omega, q2⟩)
      · rintro (q | ⟨q1, q2, q3⟩ | ⟨e, q1, q2, q3, q4, q5⟩)
        · exact .inl q
        · refine .inr (.inl ⟨?_, q2, q3⟩)
          have : m ≠ v := fun e => by subst e; rw [ht] at q3; cases q3
          omega
        · refine .inr (.inr ⟨e, ?_, q2, q3, q4, q5⟩)
          have : e ≠ v := fun e2 => by subst e2; rw [ht] at q4; cases q4
          omega
    | true =>
      rw [if_pos rfl]
      by_cases h2 : U.nt K v = 2
      · rw [if_pos (beq_iff_eq.2 h2)]
        have hb := O.base v (by omega) h2
        obtain ⟨g1, g2, g3⟩ := closeF_ok s d (v + 1) (U.withL (U.withL o [(v : Int)]) [U.nt Bs v]) (by omega) (wdW (wdW hw)) (lenW _ _ (lenW _ _ hl))
        refine ⟨g1, g2, fun m => (g3 m).trans ?_⟩
        rw [tbW, tbW]
        simp only [Bool.or_eq_true, Bool.and_eq_true, decide_eq_true_eq, List.mem_singleton]
        constructor
        · rintro (((q | q) | q) | ⟨q1, q2⟩ | ⟨e, q1, q2⟩)
          · exact .inl q
          · have : m = v := by omega
            subst this; exact .inr (.inl ⟨Nat.le_refl _, by omega, ht⟩)
          · exact .inr (.inr ⟨v, Nat.le_refl _, by omega, h2, ht, q.1.symm⟩)
          · exact .inr (.inl ⟨by omega, q2⟩)
          · exact .inr (.inr ⟨e, by omega, q2⟩)
        · rintro (q | ⟨q1, q2, q3⟩ | ⟨e, q1, q2, q3, q4, q5⟩)
          · exact .inl (.inl (.inl q))
          · by_cases e : m = v
            · subst e; exact .inl (.inl (.inr ⟨rfl, by omega⟩))
            · exact .inr (.inl ⟨by omega, q2, q3⟩)
          · by_cases e2 : e = v
            · subst e2; exact .inl (.inr ⟨q5.symm, by omega⟩)
            · exact .inr (.inr ⟨e, by omega, q2, q3, q4, q5⟩)
      · rw [if_neg (by rw [beq_iff_eq]; exact h2)]
        obtain ⟨g1, g2, g3⟩ := closeF_ok s d (v + 1) (U.withL o [(v : Int)]) (by omega) (wdW hw) (lenW _ _ hl)
        refine ⟨g1, g2, fun m => (g3 m).trans ?_⟩
        rw [tbW]
        simp only [Bool.or_eq_true, Bool.and_eq_true, decide_eq_true_eq, List.mem_singleton]
        constructor
        · rintro ((q | q) | ⟨q1, q2⟩ | ⟨e, q1, q2⟩)
          · exact .inl q
          · have : m = v := by omega
            subst this; exact .inr (.inl ⟨Nat.le_refl _, by omega, ht⟩)
          · exact .inr (.inl ⟨by omega, q2⟩)
          · exact .inr (.inr ⟨e, by omega, q2⟩)
        · rintro (q | ⟨q1, q2, q3⟩ | ⟨e, q1, q2, q3, q4, q5⟩)
          · exact .inl (.inl q)
          · by_cases e : m = v
            · subst e; exact .inl (.inr ⟨rfl, by omega⟩)
            · exact .inr (.inl ⟨by omega, q2, q3⟩)
          · by_cases e2 : e = v
            · subst e2; exact absurd q3 h2
            · exact .inr (.inr ⟨e, by omega, q2, q3, q4, q5⟩)
/-- The document's way tells the same. -/
theorem close_eq (s : List Int) : Bit.neatL (U.closeF K Bs s K.length 0 []) = U.closeL K Bs s := by
  obtain ⟨a1, a2, a3, a4⟩ := closeL_ok O s
  obtain ⟨b1, b2, b3⟩ := closeF_ok O s K.length 0 [] (by omega) Bit.Wd.nil (by simp)
  refine Bit.neat_ext (Bit.neatL_Wd b1) a1 (Bit.neatL_neatL _) a3 (fun n => ?_)
  rw [Bit.tb_neatL, Bool.eq_iff_iff, b3 n, a4 n, Bit.tb_nil]
  unfold InC
  constructor
  · rintro (q | ⟨_, q⟩ | ⟨e, _, q⟩)
    · cases q
    · exact .inl q
    · exact .inr ⟨e, q⟩
  · rintro (q | ⟨e, q⟩)
    · exact .inr (.inl ⟨Nat.zero_le _, q⟩)
    · exact .inr (.inr ⟨e, Nat.zero_le _, q⟩)
theorem inC_lt {s : List Int} {x : Nat} (h : InC K Bs s x) : x < K.length := by
  rcases h with h | ⟨d, h1, h2, _, h4⟩
  · exact h.1
  · have := O.base d h1 h2; omega
/-- A set with its bases is one already. -/
theorem close_close (s : List Int) : U.closeL K Bs (U.closeL K Bs s) = U.closeL K Bs s := by
  obtain ⟨a1, a2, a3, a4⟩ := closeL_ok O s
  obtain ⟨b1, b2, b3, b4⟩ := closeL_ok O (U.closeL K Bs s)
  refine Bit.neat_ext b1 a1 b3 a3 (fun n => ?_)
  rw [Bool.eq_iff_iff, b4 n, a4 n]
  constructor
  · rintro (⟨_, q⟩ | ⟨d, q1, q2, q3, q4⟩)
    · exact (a4 n).1 q
    · rcases (a4 d).1 q3 with ⟨_, r⟩ | ⟨e, r1, r2, r3, r4⟩
      · exact .inr ⟨d, q1, q2, r, q4⟩
      · have := O.base e r1 r2
        rw [r4, Int.toNat_natCast, q2] at this
        omega
  · intro h
    exact .inl ⟨inC_lt O h, (a4 n).2 h⟩
theorem close_count (s : List Int) : (U.refL K 1 (U.closeL K Bs s)).length + (U.refL K 2 (U.closeL K Bs s)).length ≤ (Bit.toI (Bit.numsL (U.closeL K Bs s) (U.closeL K Bs s).length)).length := by
  obtain ⟨a1, a2, a3, a4⟩ := closeL_ok O s
  have e : Bit.toI (Bit.numsL (U.closeL K Bs s) (U.closeL K Bs s).length) = U.inL K (U.closeL K Bs s) := by
    rw [Bit.nums_sel]
    unfold U.inL
    refine selP_eq _ _ (fun y => ?_)
    constructor
    · rintro ⟨_, q⟩; exact ⟨inC_lt O ((a4 y).1 q), q⟩
    · rintro ⟨_, q⟩
      refine ⟨?_, q⟩
      refine Decidable.byContradiction fun h => ?_
      have := Bit.tb_ge (l := U.closeL K Bs s) (n := y) (by omega)
      rw [this] at q; cases q
  rw [e]
  unfold U.refL U.inL
  refine selP_add (fun y h => ?_) (fun y h => ?_) _ _
  · rw [Bool.and_eq_true, beq_iff_eq] at h
    exact ⟨h.2, by rw [h.1]; rfl⟩
  · rw [Bool.and_eq_true] at h
    exact h.2
end
end Go.Proofs.YtdnekkkpngnmkaaDoor.E
