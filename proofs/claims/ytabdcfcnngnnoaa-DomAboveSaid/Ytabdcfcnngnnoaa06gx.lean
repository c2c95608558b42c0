/- The statements of layer 6: what they ask about; each reached block but 0 is just one block's kid. -/
import Derived.Test.Ytabdcfcnngnnoaa06d
import Derived.Test.Ytabdcfcnngnnoaa06i
import Derived.Test.Ytabdcfcnngnnoaa06f
set_option linter.unusedVariables false
set_option linter.unusedSectionVars false
set_option linter.unusedSimpArgs false
set_option maxRecDepth 100000
namespace Go.Proofs.Ytabdcfcnngnnoaa.E
open Go

namespace U
def mxn2 (a b : Int) : Int := if a < b then b else a
def mxn (a : List XF) : Nat → Nat → Int → Int
  | 0, i, n => n
  | d + 1, i, n => mxn a d (i + 1) (mxn2 n ((fun_ a i).blocks.length : Int))
def out06 (p : XP) : Bool := decide (mxn p.funcs (min p.funcs.length 9) 0 0 > 20) || (great p || !okProg p.funcs)
end U
theorem loopn30_3 (a : List XF) (ha : Long a.length) : ∀ (d i : Nat) (n : Int), i + d = min a.length 9 →
    LoopTo Try.prog H (H 30) 0 (loopOf Try.prog 30 3) (mkS 36 [(1, .pt 0 0 0), (3, goI n), (4, goI i)] [.box [.sl (a.map encF)]]) (.exit 0, mkS 36 [(1, .pt 0 0 0), (3, goI (U.mxn a d i n))] [.box [.sl (a.map encF)]])
  | 0, i, n, hd => by
    refine turnK (tn30_3 a n i _) ?_
    rw [List.length_map]
    by_cases h : (i : Int) < a.length
    · rw [decide_eq_true h, decide_eq_false (show ¬ (i : Int) < 9 by omega)]; exact rfl
    · rw [decide_eq_false h]; exact rfl
  | d + 1, i, n, hd => by
    have hi : i < a.length := by omega
    have ih := loopn30_3 a ha d (i + 1) (U.mxn2 n ((U.fun_ a i).blocks.length : Int)) (by omega)
    refine turnK (tn30_3 a n i _) ?_
    rw [List.length_map, decide_eq_true (show (i : Int) < a.length by omega), decide_eq_true (show (i : Int) < 9 by omega), wrapS (show i < 9 by omega) (by omega), rowF hi, getF hi]
    simp only [encF, rdI, rdL, slOf, List.getD_cons_zero, List.getD_cons_succ, int_goI, List.length_map, if_true]
    exact ⟨⟨by omega, by trivial⟩, ih⟩
theorem wn30 (p : XP) (hp : HandP p) : Wf Try.prog H 30 [.agg (encP p)] [] = some (goB (U.out06 p), [], []) := by
  refine runK (tn30 p.funcs (U.mxn p.funcs (min p.funcs.length 9) 0 0) (U.great p) (if U.okProg p.funcs then 0 else 5) _) ⟨loopn30_3 p.funcs hp.1 (min p.funcs.length 9) 0 0 (by omega), ?_⟩
  unfold U.out06
  cases decide (U.mxn p.funcs (min p.funcs.length 9) 0 0 > 20) with
  | true => exact rfl
  | false =>
    refine ⟨wf43 p hp, ?_⟩
    cases hg : U.great p with
    | true => exact rfl
    | false =>
      obtain ⟨h1, h2⟩ := small_of hg
      refine ⟨wf44 p.funcs h1 h2, ?_⟩
      cases U.okProg p.funcs with
      | true => exact rfl
      | false => exact rfl
/-- What is known of a program that is asked about. -/
structure AskedN (a : List XF) : Prop where
  len : a.length ≤ 3000
  small : ∀ f ∈ a, SmallF f
  ok : U.okProg a = true
theorem askedN_of {p : XP} (h : U.out06 p = false) : AskedN p.funcs := by
  unfold U.out06 at h
  rw [Bool.or_eq_false_iff, Bool.or_eq_false_iff] at h
  obtain ⟨h1, h2, h3⟩ := h
  obtain ⟨g1, g2⟩ := small_of h2
  exact ⟨g1, g2, by simpa using h3⟩
theorem codeOk_of {f : XF} (h : SmallF f) : CodeOk f.blocks := fun b hb => (h.2.2.2 b hb).1
theorem domW_map (bl : List XB) (a b : Int) : U.domW (bl.map encB) a b = U.domB (U.nextAt bl) bl.length a b := by unfold U.domW; rw [decBs_map, List.length_map]
theorem meetW_map (bl : List XB) (a b : Int) : U.meetW (bl.map encB) a b = U.meetD (U.nextAt bl) bl.length a b := by unfold U.meetW; rw [decBs_map, List.length_map]
theorem kidW_map (bl : List XB) (b : Int) : U.kidW (bl.map encB) b = U.kidsD bl b := by unfold U.kidW; rw [decBs_map]
theorem aboW_map (bl : List XB) : U.aboW (bl.map encB) = U.aboveL bl := by unfold U.aboW; rw [decBs_map]
/-- The tree of a function. -/
structure TreeN (bl : List XB) (od pl : List Int) : Prop where
  b : Base (U.nextAt bl) bl.length od pl
  x : Exact (U.nextAt bl) bl.length pl (U.aboveL bl)
  len : od.length ≤ bl.length
theorem tree_of (bl : List XB) (hc : CodeOk bl) (hl : bl.length ≤ 3000) (h0 : 0 < bl.length) (hT : TgtOk bl) : ∃ od pl, TreeN bl od pl := by
  obtain ⟨od, pl, ab, dp, w, B, ho, X, Q⟩ := wd48 [] [] 0 0 bl hc hl h0 hT
  have e := ab_is hl B X Q
  subst e
  have hll := left_len (nx := U.nextAt bl) bl.length
  exact ⟨od, pl, B, X, by rw [ho, List.length_reverse]; omega⟩
section
variable {bl : List XB} {od pl : List Int} (T : TreeN bl od pl)
include T
/-- A block's next above is one above it. -/
theorem TreeN.up {x : Nat} (hx : x < bl.length) (h : 0 ≤ U.nt (U.aboveL bl) x) : x ≠ 0 ∧ 0 ≤ U.nt pl x ∧ (U.nt (U.aboveL bl) x).toNat < bl.length ∧ U.nt pl (U.nt (U.aboveL bl) x).toNat < U.nt pl x := by
  have hp : 0 ≤ U.nt pl x := by
    refine Decidable.byContradiction fun q => ?_
    have := T.x.tr.un x hx (by omega)
    omega
  have hd := (T.x.all x hx hp).1
  have hy := df_up T.b T.x.tr hd h
  exact ⟨fun e => by subst e; have := T.x.tr.a0; omega, hp, hy.1.1, hy.2⟩
theorem TreeN.reach {x : Nat} (hx : x < bl.length) : U.domB (U.nextAt bl) bl.length x x = true ↔ 0 ≤ U.nt pl x := by
  rw [domB_nat T.b]
  constructor
  · exact fun h => (T.b.rch hx).2 h.2.2.1
  · exact fun h => ⟨hx, hx, dom_refl ((T.b.rch hx).1 h)⟩
theorem TreeN.above {x : Nat} (hx : x < bl.length) (h0 : x ≠ 0) : 0 ≤ U.nt (U.aboveL bl) x ↔ 0 ≤ U.nt pl x := by
  constructor
  · exact fun h => (T.up hx h).2.1
  · intro h
    rcases (T.x.all x hx h).1.2.2 with q | q
    · exact absurd q h0
    · exact q
theorem TreeN.kid (b : Int) (x : Int) : x ∈ U.kidsD bl b ↔ ∃ y : Nat, x = y ∧ y < bl.length ∧ U.nt (U.aboveL bl) y = b ∧ 0 ≤ b := by
  unfold U.kidsD U.kidsOf
  rw [selP_mem]
  constructor
  · rintro ⟨y, h1, _, h2, h3⟩
    rw [Bool.and_eq_true, beq_iff_eq, decide_eq_true_iff] at h3
    exact ⟨y, h1, by omega, h3.1, h3.2⟩
  · rintro ⟨y, h1, h2, h3, h4⟩
    refine ⟨y, h1, Nat.zero_le _, by omega, ?_⟩
    rw [Bool.and_eq_true, beq_iff_eq, decide_eq_true_iff]
    exact ⟨h3, h4⟩
omit T in
theorem kids_len (b : Int) : (U.kidsD bl b).length ≤ bl.length := selP_len _ _ _
omit T in
theorem kids_nd (b : Int) : (U.kidsD bl b).Nodup := (selP_sorted _ bl.length 0).imp fun h => by omega
end
namespace U
def inc (c : List Int) (k : Int) : List Int := c.set k.toNat (nt c k.toNat + 1)
end U
theorem inc_len (l : List Int) : ∀ c : List Int, (l.foldl U.inc c).length = c.length := by
  induction l with
  | nil => intro c; rfl
  | cons k l ih => intro c; rw [List.foldl_cons, ih]; unfold U.inc; rw [List.length_set]
theorem inc_at : ∀ (l c : List Int) (x : Nat), (∀ y ∈ l, 0 ≤ y ∧ y < c.length) → l.Nodup → U.nt (l.foldl U.inc c) x = U.nt c x + if (x : Int) ∈ l then 1 else 0
  | [], c, x, _, _ => by simp
  | k :: l, c, x, h, hn => by
    obtain ⟨k0, k1⟩ := h k (by simp)
    rw [List.nodup_cons] at hn
    rw [List.foldl_cons, inc_at l (U.inc c k) x (fun y hy => by unfold U.inc; rw [List.length_set]; exact h y (List.mem_cons_of_mem _ hy)) hn.2]
    unfold U.inc
    rw [nt_set _ _ (by omega)]
    by_cases e : x = k.toNat
    · have hx : (x : Int) = k := by omega
      rw [if_pos e, hx, if_neg hn.1, if_pos (by simp), ← e]; omega
    · rw [if_neg e]
      have : ((x : Int) ∈ k :: l) = ((x : Int) ∈ l) := by
        rw [List.mem_cons, eq_iff_iff]
        exact ⟨fun h => h.resolve_left (by omega), .inr⟩
      simp only [this]
theorem loopn15 (X Y : List AV) (i n b : Nat) (hn : n ≤ 3000) (l : List Int) (hll : l.length ≤ 3000) (hr : ∀ x ∈ l, 1 ≤ x ∧ x < n) : ∀ (d k : Nat) (c : List Int), k + d = l.length → c.length = n → (∀ x, x < n → 0 ≤ U.nt c x ∧ U.nt c x ≤ 3000 + k) →
    LoopTo Try.prog H (H 11) 0 (loopOf Try.prog 11 15) (mkS 90 [(1, .pt 0 0 0), (3, goI i), (4, .pt 1 0 0), (5, .os 2 0 n), (6, goI b), (7, .sl (l.map encI)), (8, goI k)] [.box X, .box Y, .arr 1 (c.map encI)])
      (.exit 4, mkS 90 [(1, .pt 0 0 0), (3, goI i), (4, .pt 1 0 0), (5, .os 2 0 n), (6, goI b)] [.box X, .box Y, .arr 1 (((l.drop k).foldl U.inc c).map encI)])
  | 0, k, c, hd, hcl, hcr => by
    rw [List.drop_of_length_le (by omega)]
    refine turnK (tn11_15 X Y i n b k c l _) ?_
    rw [List.length_map, decide_eq_false (by omega)]
    exact rfl
  | d + 1, k, c, hd, hcl, hcr => by
    have hk : k < l.length := by omega
    have ed : l.drop k = U.nt l k :: l.drop (k + 1) := drop_cons' l hk
    obtain ⟨y0, y1⟩ := hr (U.nt l k) (getD_mem hk)
    have e1 : rdI (rowAt (l.map encI) k) 0 = U.nt l k := by rw [rowI hk]; rfl
    have hg := getI hk
    generalize U.nt l k = y at ed y0 y1 e1 hg
    obtain ⟨y, rfl⟩ := Int.eq_ofNat_of_zero_le (show 0 ≤ y by omega)
    have hy : y < c.length := by omega
    obtain ⟨v0, v1⟩ := hcr y (by omega)
    have ih := loopn15 X Y i n b hn l hll hr d (k + 1) (U.inc c y) (by omega) (by unfold U.inc; rw [List.length_set]; exact hcl) (fun x hx => by
      obtain ⟨q1, q2⟩ := hcr x hx
      unfold U.inc
      rw [Int.toNat_natCast, nt_set _ _ hy]
      split <;> omega)
    have e2 : rdI (rowAt (c.map encI) y) 0 = U.nt c y := by rw [rowI hy]; rfl
    have hin : 0 ≤ (y : Int) ∧ (y : Int) < (n : Int) ∧ y < (c.map encI).length := ⟨by omega, by omega, by rw [List.length_map]; exact hy⟩
    rw [ed, List.foldl_cons]
    refine turnK (tn11_15 X Y i n b k c l _) ?_
    rw [show (l.map encI).length = l.length from List.length_map _, decide_eq_true (show (k : Int) < l.length by omega), e1, hg, decide_eq_false (show ¬ (y : Int) < 1 by omega), decide_eq_false (show ¬ (y : Int) ≥ n by omega), Int.toNat_natCast, Nat.zero_add, e2, getI hy, wrapS hk (by omega), wrap64 (by omega) (by omega), set_mapI]
    exact ⟨⟨by omega, rfl⟩, ⟨by omega, rfl⟩, ⟨by omega, rfl⟩, hin, rfl, hin, rfl, ih⟩
/-- So often was each block counted, behind the kids of the blocks below b. -/
def CntN (bl : List XB) (b : Nat) (c : List Int) : Prop := c.length = bl.length ∧ ∀ x, x < bl.length → U.nt c x = if 0 ≤ U.nt (U.aboveL bl) x ∧ U.nt (U.aboveL bl) x < b then 1 else 0
section
variable (X ks bs : List (List AV)) (p q : Int) (bl : List XB) (hc : CodeOk bl) (hl : bl.length ≤ 3000) (h0 : 0 < bl.length) (hT : TgtOk bl)
include hc hl h0 hT
theorem loopn11 (i : Nat) {od pl : List Int} (T : TreeN bl od pl) : ∀ (d b : Nat) (c : List Int), b + d = bl.length → CntN bl b c → ∃ c2,
    LoopTo Try.prog H (H 11) 0 (loopOf Try.prog 11 11) (mkS 90 [(1, .pt 0 0 0), (3, goI i), (4, .pt 1 0 0), (5, .os 2 0 bl.length), (6, goI b)] [.box [.sl X], .box [.sl ks, .sl bs, goI p, goI q, .sl (bl.map encB)], .arr 1 (c.map encI)])
      (.exit 2, mkS 90 [(1, .pt 0 0 0), (3, goI i), (4, .pt 1 0 0), (5, .os 2 0 bl.length)] [.box [.sl X], .box [.sl ks, .sl bs, goI p, goI q, .sl (bl.map encB)], .arr 1 (c2.map encI)]) ∧ CntN bl bl.length c2 := by
  intro d
  induction d with
  | zero =>
    intro b c hd C
    have : b = bl.length := by omega
    subst this
    refine ⟨c, turnK (tn11_11 X p q ks bs bl i bl.length bl.length c [] _) ?_, C⟩
    rw [List.length_map, decide_eq_false (by omega)]
    exact rfl
  | succ d ih =>
    intro b c hd C
    have hb : b < bl.length := by omega
    have hkr : ∀ x ∈ U.kidsD bl b, 1 ≤ x ∧ x < bl.length := fun x hx => by
      obtain ⟨y, h1, h2, h3, h4⟩ := (T.kid b x).1 hx
      have := (T.up h2 (by omega)).1
      omega
    have C2 : CntN bl (b + 1) ((U.kidsD bl b).foldl U.inc c) := by
      refine ⟨by rw [inc_len]; exact C.1, fun x hx => ?_⟩
      rw [inc_at _ _ _ (fun y hy => by have := hkr y hy; rw [C.1]; omega) (kids_nd _), C.2 x hx]
      have hm : ((x : Int) ∈ U.kidsD bl b) ↔ U.nt (U.aboveL bl) x = b := by
        rw [T.kid]
        constructor
        · rintro ⟨y, h1, h2, h3, _⟩
          have : x = y := by omega
          subst this; exact h3
        · exact fun h => ⟨x, rfl, hx, h, by omega⟩
      by_cases e : U.nt (U.aboveL bl) x = b
      · rw [if_pos (hm.2 e), if_neg (by omega), if_pos (by omega)]; rfl
      · rw [if_neg (fun h => e (hm.1 h))]
        by_cases g : 0 ≤ U.nt (U.aboveL bl) x ∧ U.nt (U.aboveL bl) x < b
        · rw [if_pos g, if_pos (by omega)]; rfl
        · rw [if_neg g, if_neg (by omega)]; rfl
    obtain ⟨c2, w1, w2⟩ := ih (b + 1) _ (by omega) C2
    have hkl := kids_len (bl := bl) (b : Int)
    have lp := loopn15 [.sl X] [.sl ks, .sl bs, goI p, goI q, .sl (bl.map encB)] i bl.length b hl (U.kidsD bl b) (by omega) hkr (U.kidsD bl b).length 0 c (by omega) C.1 (fun x hx => by rw [C.2 x hx]; split <;> omega)
    rw [List.drop_zero] at lp
    have w := wd34 ks bs p q bl hc hl h0 hT b
    refine ⟨c2, turnK (tn11_11 X p q ks bs bl i bl.length b c ((U.kidsD bl b).foldl U.inc c) _) ?_, w2⟩
    rw [List.length_map, decide_eq_true (show (b : Int) < bl.length by omega), kidW_map, take_map, wrapS hb (by omega)]
    exact ⟨w, lp, w1⟩
theorem loopn21 (i : Nat) {od pl : List Int} (T : TreeN bl od pl) (c : List Int) (C : CntN bl bl.length c) : ∀ (d b : Nat), b + d = bl.length →
    LoopTo Try.prog H (H 11) 0 (loopOf Try.prog 11 21) (mkS 90 [(1, .pt 0 0 0), (3, goI i), (4, .pt 1 0 0), (5, .os 2 0 bl.length), (9, goI b)] [.box [.sl X], .box [.sl ks, .sl bs, goI p, goI q, .sl (bl.map encB)], .arr 1 (c.map encI)])
      (.exit 6, mkS 90 [(1, .pt 0 0 0), (3, goI i)] [.box [.sl X], .dead, .dead])
  | 0, b, hd => by
    refine turnK (tn11_21 X p q ks bs bl i bl.length b c _) ?_
    rw [decide_eq_false (by omega)]
    exact rfl
  | d + 1, b, hd => by
    have hb : b < bl.length := by omega
    have ih := loopn21 i T c C d (b + 1) (by omega)
    have hbc : b < c.length := by rw [C.1]; exact hb
    have e2 : rdI (rowAt (c.map encI) b) 0 = U.nt c b := by rw [rowI hbc]; rfl
    have hin : 0 ≤ (b : Int) ∧ (b : Int) < (bl.length : Int) ∧ b < (c.map encI).length := ⟨by omega, by omega, by rw [List.length_map]; exact hbc⟩
    have hcb := C.2 b hb
    refine turnK (tn11_21 X p q ks bs bl i bl.length b c _) ?_
    rw [decide_eq_true (show (b : Int) < bl.length by omega), Nat.zero_add, e2, getI hbc, wrapS hb (by omega), domW_map]
    by_cases hb0 : b = 0
    · subst hb0
      have h1 : U.nt c 0 = 0 := by rw [hcb, T.x.tr.a0]; rfl
      rw [decide_eq_false (by omega), h1]
      exact ⟨hin, rfl, ih⟩
    · rw [decide_eq_true (show ((b : Nat) : Int) > 0 by omega)]
      refine ⟨wd31 ks bs p q bl hc hl h0 hT b b, ?_⟩
      cases hD : U.domB (U.nextAt bl) bl.length b b with
      | true =>
        have h2 := (T.above hb hb0).2 ((T.reach hb).1 hD)
        have h3 := (T.up hb h2).2.2.1
        have h1 : U.nt c b = 1 := by rw [hcb, if_pos (by omega)]
        rw [h1]
        exact ⟨hin, rfl, ih⟩
      | false =>
        have h2 : ¬ 0 ≤ U.nt (U.aboveL bl) b := fun h => by
          rw [(T.reach hb).2 ((T.above hb hb0).1 h)] at hD; cases hD
        have h1 : U.nt c b = 0 := by rw [hcb, if_neg (by omega)]
        rw [h1]
        exact ⟨hin, rfl, ih⟩
end
theorem loopn6 (a : List XF) (K : AskedN a) : ∀ (d i : Nat), i + d = a.length →
    LoopTo Try.prog H (H 11) 0 (loopOf Try.prog 11 6) (mkS 90 [(1, .pt 0 0 0), (3, goI i)] [.box [.sl (a.map encF)], .dead, .dead]) (.exit 0, mkS 90 [] [.dead, .dead, .dead])
  | 0, i, hd => by
    refine turnK (tn11_6 a i 0 [] _) ?_
    rw [List.length_map, decide_eq_false (by omega)]
    exact rfl
  | d + 1, i, hd => by
    have hi : i < a.length := by omega
    have ih := loopn6 a K d (i + 1) (by omega)
    have hlen := K.len
    have hf := K.small _ (fun_mem hi)
    have hc := codeOk_of hf
    have hl : (U.fun_ a i).blocks.length ≤ 3000 := hf.2.2.1
    have h0 : 0 < (U.fun_ a i).blocks.length := (funcOk_of (okFunc_at K.ok (fun_mem hi))).blocks.1
    have hT := tgtOk_of K.ok hi
    obtain ⟨od, pl, T⟩ := tree_of (U.fun_ a i).blocks hc hl h0 hT
    have C0 : CntN (U.fun_ a i).blocks 0 (List.replicate (U.fun_ a i).blocks.length 0) := ⟨by simp, fun x hx => by rw [nt_rep _ _ _ hx, if_neg (by omega)]⟩
    obtain ⟨c2, l1, C2⟩ := loopn11 (a.map encF) ((U.fun_ a i).kinds.map encI) ((U.fun_ a i).base.map encI) (U.fun_ a i).params (U.fun_ a i).result (U.fun_ a i).blocks hc hl h0 hT i T (U.fun_ a i).blocks.length 0 _ (by omega) C0
    have l2 := loopn21 (a.map encF) ((U.fun_ a i).kinds.map encI) ((U.fun_ a i).base.map encI) (U.fun_ a i).params (U.fun_ a i).result (U.fun_ a i).blocks hc hl h0 hT i T c2 C2 (U.fun_ a i).blocks.length 0 (by omega)
    have er : (List.replicate (U.fun_ a i).blocks.length (0 : Int)).map encI = List.replicate (U.fun_ a i).blocks.length [goI 0] := by rw [List.map_replicate]; rfl
    rw [er] at l1
    refine turnK (tn11_6 a i (U.fun_ a i).blocks.length c2 _) ?_
    rw [show (a.map encF).length = a.length from List.length_map _, decide_eq_true (show (i : Int) < a.length by omega), wrapS hi (by omega), rowF hi, getF hi]
    simp only [encF, rdI, rdL, slOf, List.getD_cons_zero, List.getD_cons_succ, int_goI, List.length_map, List.length_replicate]
    exact ⟨⟨by omega, by trivial⟩, ⟨by omega, by omega, by omega⟩, l1, l2, ih⟩
theorem wn11 (p : XP) (hp : HandP p) : Wf Try.prog H 11 [.agg (encP p)] [] = some (goB true, [], []) := by
  refine runK (tn11 p.funcs (U.out06 p) _) ⟨wn29, wn30 p hp, ?_⟩
  cases ho : U.out06 p with
  | true => exact rfl
  | false => exact ⟨loopn6 p.funcs (askedN_of ho) p.funcs.length 0 (by omega), rfl⟩
end Go.Proofs.Ytabdcfcnngnnoaa.E
set_option linter.unusedVariables false
set_option linter.unusedSectionVars false
set_option linter.unusedSimpArgs false
set_option maxRecDepth 100000
namespace Go.Proofs.Ytabdcfcnngnnoaa.E
open Go
theorem remN_in {u n : Int} (hu : 0 ≤ u ∧ u ≤ 255) (hn : 0 < n) : IntKind.i64.wrap u = u ∧ 0 ≤ Int.tmod u n ∧ Int.tmod u n < n := by
  refine ⟨by rw [wrap64] <;> omega, Int.tmod_nonneg _ hu.1, Int.tmod_lt_of_pos _ hn⟩
section
variable {bl : List XB} {od pl : List Int} (T : TreeN bl od pl)
include T
theorem TreeN.dom {a x : Nat} (hx : x < bl.length) : U.domB (U.nextAt bl) bl.length a x = true ↔ 0 ≤ U.nt pl x ∧ Up (U.aboveL bl) x a := by
  rw [domB_nat T.b]
  constructor
  · intro h
    have hr := (T.b.rch hx).2 h.2.2.1
    exact ⟨hr, (up_iff T.b T.x hx hr).2 h.2.2⟩
  · intro h
    have hd := (up_iff T.b T.x hx h.1).1 h.2
    exact ⟨(up_df T.b T.x.tr h.2 (T.x.all x hx h.1).1).1, hx, hd⟩
theorem TreeN.zero {x : Nat} (hx : x < bl.length) : U.domB (U.nextAt bl) bl.length 0 x = true ↔ 0 ≤ U.nt pl x := by
  show U.domB (U.nextAt bl) bl.length ((0 : Nat) : Int) x = true ↔ _
  rw [T.dom hx]
  exact ⟨fun h => h.1, fun h => ⟨h, (up_iff T.b T.x hx h).2 (dom_zero ((T.b.rch hx).1 h))⟩⟩
theorem TreeN.meet {a b : Nat} (ha : a < bl.length) (hb : b < bl.length) (ra : 0 ≤ U.nt pl a) (rb : 0 ≤ U.nt pl b) : ∃ m : Nat, U.meetD (U.nextAt bl) bl.length a b = m ∧ U.meetD (U.nextAt bl) bl.length b a = m ∧ Up (U.aboveL bl) a m ∧ Up (U.aboveL bl) b m ∧ ∀ z, Up (U.aboveL bl) a z → Up (U.aboveL bl) b z → Up (U.aboveL bl) m z := by
  have da := (T.x.all a ha ra).1
  have db := (T.x.all b hb rb).1
  classical
  obtain ⟨m, _, m2, m3, m4⟩ := firstUp_ok T.b T.x da db (fun x => decide (Up (U.aboveL bl) a x.toNat)) (fun x => by rw [decide_eq_true_iff, Int.toNat_natCast]) (U.nt pl b + 1).toNat b (.refl _) (by omega) (fun z _ h => h)
  exact ⟨m, meetD_is T.b T.x ha hb ra rb m2 m3 m4, meetD_is T.b T.x hb ha rb ra m3 m2 (fun z h1 h2 => m4 z h2 h1), m2, m3, m4⟩
end
section
variable (X ks bs : List (List AV)) (u v p q : Int) (bl : List XB) (hc : CodeOk bl) (hl : bl.length ≤ 3000) (h0 : 0 < bl.length) (hT : TgtOk bl)
include hc hl h0 hT
theorem loopn18 (i : Nat) (A B : Int) (l : List Int) (hll : l.length ≤ 3000) (hno : ∀ x ∈ l, ¬ (U.domB (U.nextAt bl) bl.length x A = true ∧ U.domB (U.nextAt bl) bl.length x B = true)) : ∀ (d k : Nat), k + d = l.length →
    LoopTo Try.prog H (H 10) 0 (loopOf Try.prog 10 18) (mkS 103 [(2, .pt 0 0 0), (3, .pt 1 0 0), (5, goI i), (6, .pt 2 0 0), (7, goI A), (8, goI B), (10, .sl (l.map encI)), (11, goI k)] [.box [.sl X], .box [u8 u, u8 v], .box [.sl ks, .sl bs, goI p, goI q, .sl (bl.map encB)]])
      (.exit 2, mkS 103 [(2, .pt 0 0 0), (3, .pt 1 0 0), (5, goI i)] [.box [.sl X], .box [u8 u, u8 v], .dead])
  | 0, k, hd => by
    refine turnK (tn10_18 X u v A B p q ks bs bl i l k _) ?_
    rw [List.length_map, decide_eq_false (by omega)]
    exact rfl
  | d + 1, k, hd => by
    have hk : k < l.length := by omega
    have ih := loopn18 i A B l hll hno d (k + 1) (by omega)
    have hn := hno (U.nt l k) (getD_mem hk)
    have e1 : rdI (rowAt (l.map encI) k) 0 = U.nt l k := by rw [rowI hk]; rfl
    have hg := getI hk
    generalize U.nt l k = y at hn e1 hg
    have w1 := wd31 ks bs p q bl hc hl h0 hT y A
    have w2 := wd31 ks bs p q bl hc hl h0 hT y B
    refine turnK (tn10_18 X u v A B p q ks bs bl i l k _) ?_
    rw [List.length_map, decide_eq_true (show (k : Int) < l.length by omega), e1, hg, domW_map, domW_map, wrapS hk (by omega)]
    refine ⟨⟨by omega, rfl⟩, w1, ?_⟩
    cases h1 : U.domB (U.nextAt bl) bl.length y A with
    | false => exact ih
    | true =>
      refine ⟨⟨by omega, rfl⟩, w2, ?_⟩
      cases h2 : U.domB (U.nextAt bl) bl.length y B with
      | false => exact ih
      | true => exact absurd ⟨h1, h2⟩ hn
end
theorem loopn10 (a : List XF) (u v : Int) (hu : 0 ≤ u ∧ u ≤ 255) (hv : 0 ≤ v ∧ v ≤ 255) (K : AskedN a) : ∀ (d i : Nat), i + d = a.length →
    LoopTo Try.prog H (H 10) 0 (loopOf Try.prog 10 6) (mkS 103 [(2, .pt 0 0 0), (3, .pt 1 0 0), (5, goI i)] [.box [.sl (a.map encF)], .box [u8 u, u8 v], .dead]) (.exit 0, mkS 103 [] [.dead, .dead, .dead])
  | 0, i, hd => by
    refine turnK (tn10_6 a u v i _) ?_
    rw [List.length_map, decide_eq_false (by omega)]
    exact rfl
  | d + 1, i, hd => by
    have hi : i < a.length := by omega
    have ih := loopn10 a u v hu hv K d (i + 1) (by omega)
    have hlen := K.len
    have hf := K.small _ (fun_mem hi)
    have hc := codeOk_of hf
    have hl : (U.fun_ a i).blocks.length ≤ 3000 := hf.2.2.1
    have h0 : 0 < (U.fun_ a i).blocks.length := (funcOk_of (okFunc_at K.ok (fun_mem hi))).blocks.1
    have hT := tgtOk_of K.ok hi
    obtain ⟨od, pl, T⟩ := tree_of (U.fun_ a i).blocks hc hl h0 hT
    obtain ⟨e1, a1, a2⟩ := remN_in (n := (U.fun_ a i).blocks.length) hu (by omega)
    obtain ⟨e2, b1, b2⟩ := remN_in (n := (U.fun_ a i).blocks.length) hv (by omega)
    refine turnK (tn10_6 a u v i _) ?_
    rw [List.length_map, decide_eq_true (show (i : Int) < a.length by omega), wrapS hi (by omega), rowF hi, getF hi, e1, e2]
    simp only [encF, rdI, rdL, slOf, List.getD_cons_zero, List.getD_cons_succ, int_goI, domW_map, meetW_map, kidW_map, take_map]
    rw [List.length_map]
    generalize Int.tmod u (U.fun_ a i).blocks.length = A at a1 a2 ⊢
    generalize Int.tmod v (U.fun_ a i).blocks.length = B at b1 b2 ⊢
    obtain ⟨A, rfl⟩ := Int.eq_ofNat_of_zero_le a1
    obtain ⟨B, rfl⟩ := Int.eq_ofNat_of_zero_le b1
    have hA : A < (U.fun_ a i).blocks.length := by omega
    have hB : B < (U.fun_ a i).blocks.length := by omega
    have wM := wd36 ((U.fun_ a i).kinds.map encI) ((U.fun_ a i).base.map encI) (U.fun_ a i).params (U.fun_ a i).result (U.fun_ a i).blocks hc hl h0 hT
    have wD := wd31 ((U.fun_ a i).kinds.map encI) ((U.fun_ a i).base.map encI) (U.fun_ a i).params (U.fun_ a i).result (U.fun_ a i).blocks hc hl h0 hT
    have wK := wd34 ((U.fun_ a i).kinds.map encI) ((U.fun_ a i).base.map encI) (U.fun_ a i).params (U.fun_ a i).result (U.fun_ a i).blocks hc hl h0 hT
    refine ⟨⟨by omega, by trivial⟩, by decide, by omega, by decide, by omega, wM A B, wD 0 A, ?_⟩
    cases hA0 : U.domB (U.nextAt (U.fun_ a i).blocks) (U.fun_ a i).blocks.length 0 A with
    | false =>
      have e : U.meetD (U.nextAt (U.fun_ a i).blocks) (U.fun_ a i).blocks.length A B = -1 := meetD_no T.b fun h => by
        rw [(T.zero hA).2 h.2.2.2.2.1] at hA0; cases hA0
      rw [e]
      exact ih
    | true =>
      refine ⟨wD 0 B, ?_⟩
      cases hB0 : U.domB (U.nextAt (U.fun_ a i).blocks) (U.fun_ a i).blocks.length 0 B with
      | false =>
        have e : U.meetD (U.nextAt (U.fun_ a i).blocks) (U.fun_ a i).blocks.length A B = -1 := meetD_no T.b fun h => by
          rw [(T.zero hB).2 h.2.2.2.2.2] at hB0; cases hB0
        rw [e]
        exact ih
      | true =>
        have rA := (T.zero hA).1 hA0
        have rB := (T.zero hB).1 hB0
        obtain ⟨m, m1, m2, m3, m4, m5⟩ := T.meet hA hB rA rB
        have wM2 := wM B A
        have wK2 := wK m
        have dA := (T.dom (a := m) hA).2 ⟨rA, m3⟩
        have dB := (T.dom (a := m) hB).2 ⟨rB, m4⟩
        have wA := wD m A
        have wB := wD m B
        have hkl := kids_len (bl := (U.fun_ a i).blocks) (m : Int)
        have lp := loopn18 (a.map encF) ((U.fun_ a i).kinds.map encI) ((U.fun_ a i).base.map encI) u v (U.fun_ a i).params (U.fun_ a i).result (U.fun_ a i).blocks hc hl h0 hT i A B (U.kidsD (U.fun_ a i).blocks m) (by omega) (fun x hx h => by
          obtain ⟨y, y1, y2, y3, y4⟩ := (T.kid m x).1 hx
          subst y1
          have u1 := ((T.dom hA).1 h.1).2
          have u2 := ((T.dom hB).1 h.2).2
          have := up_le T.b T.x.tr (m5 y u1 u2) (up_df T.b T.x.tr m3 (T.x.all A hA rA).1)
          have hy := T.up y2 (by omega)
          rw [y3, Int.toNat_natCast] at hy
          omega) (U.kidsD (U.fun_ a i).blocks m).length 0 (by omega)
        rw [m2] at wM2
        rw [dA] at wA
        rw [dB] at wB
        rw [m1, m2, dA, dB]
        refine ⟨wA, wB, wM2, ?_⟩
        rw [show ((m : Int) == (m : Int)) = true by simp]
        exact ⟨wK2, lp, ih⟩
theorem wn10 (p : XP) (u v : Int) (hu : 0 ≤ u ∧ u ≤ 255) (hv : 0 ≤ v ∧ v ≤ 255) (hp : HandP p) : Wf Try.prog H 10 [.agg (encP p), .agg [.v (.int .u8 u), .v (.int .u8 v)]] [] = some (goB true, [], []) := by
  refine runK (tn10 p.funcs u v (U.out06 p) _) ⟨wn29, wn30 p hp, ?_⟩
  cases ho : U.out06 p with
  | true => exact rfl
  | false => exact ⟨loopn10 p.funcs u v hu hv (askedN_of ho) p.funcs.length 0 (by omega), rfl⟩
end Go.Proofs.Ytabdcfcnngnnoaa.E
set_option linter.unusedVariables false
set_option linter.unusedSectionVars false
set_option linter.unusedSimpArgs false
set_option maxRecDepth 100000
namespace Go.Proofs.Ytabdcfcnngnnoaa.E
open Go
def encBo2 (b : Bool) : List AV := [goB b]
namespace U
noncomputable def domR (bl : List (List AV)) (a b : Int) : Bool := domB (nextAt (bl.map decB)) bl.length a b
noncomputable def wiR (bl : List (List AV)) (wo : Int) : List (List AV) := (withinB (nextAt (bl.map decB)) bl.length 0 wo).map encBo
end U
noncomputable def Fd64 : CallT := fun f args sto => match f, args with
 | 28, [.agg [_, _, _, _, .sl bl], _, .v (.int _ wo)] => .is (.os 0 0 bl.length, [.arr 1 (U.wiR bl wo)], [])
 | 64, [.agg [_, _, _, _, .sl bl], .v (.int _ a), .v (.int _ b)] => .is (goB (U.domR bl a b), [], [])
 | _, _ => .no
set_option maxHeartbeats 4000000
def Ld50 (l : List Int) : Nat → St → LT := fun id st => .is (.exit 0) (mkS 23 [(5, .os 1 0 l.length)] [.dead, .arr 1 (l.map encI)])
def Ld51 (l : List Int) (c : Bool) (x : Int) (i : Nat) (al : Bool) : Nat → St → LT := fun id st => match id with
 | 2 => .by c (.is .ret (mkS 38 [(4, goI x)] [.dead])) (.is (.exit 0) (mkS 38 [] [.dead]))
 | 6 => .is (.exit 2) (mkS 38 [(1, .sl (l.map encI)), (2, .pt 0 0 0), (5, goI i), (6, goB al)] st.2)
 | _ => .no
def Fd33 (l : List Int) (x : Int) (ab : List Int) : CallT := fun f args sto => match f with
 | 50 => .is (.os 0 0 l.length, [.arr 1 (l.map encI)], [])
 | 51 => .is (goI x, [], [])
 | 33 => .is (.os 0 0 ab.length, [.arr 1 (ab.map encI)], [])
 | _ => .no
def Ld33 (ou : List Int) (b : Int) (al : List Int) (ot : List Int) : Nat → St → LT := fun id st => match id, st.2 with
 | 3, _ => .is (.exit 0) (mkS 44 [(3, .os 1 0 ou.length)] [.dead, .arr 1 (ou.map encI), .dead])
 | 8, [x, y, _] => .is (.exit 2) (mkS 44 [(1, .pt 0 0 0), (3, st.1.getD 3 .dead), (4, goI b), (6, .os 2 0 ot.length)] [x, y, .arr 1 (ot.map encI)])
 | _, _ => .no
def Ld35 (l : List Int) : Nat → St → LT := fun id st => .is (.exit 0) (mkS 31 [(5, .os 1 0 l.length)] [.dead, .arr 1 (l.map encI)])

theorem td64 (ks : List (List AV)) (bs : List (List AV)) (p : Int) (q : Int) (bl : List XB) (a : Int) (b : Int) (r : AV × List Row × List Nat) : (runT Try.prog H Fd64 L0 false 64 [AV.agg [AV.sl ks, AV.sl bs, goI p, goI q, AV.sl (List.map encB bl)], goI a, goI b] []
 fun q => q = r) = (TB (decide (a < 0)) ((goB false, [], []) = r)
 (TB (decide (b < 0)) ((goB false, [], []) = r)
 (TB (decide (a ≥ (↑(List.length (List.map encB bl)) : Int))) ((goB false, [], []) = r)
 (TB (decide (b ≥ (↑(List.length (List.map encB bl)) : Int))) ((goB false, [], []) = r)
 (Wf Try.prog H 28 [AV.agg [AV.sl ks, AV.sl bs, goI p, goI q, AV.sl (List.map encB bl)], goI 0, goI (-1)] [] =
 some (AV.os 0 0 (List.length (List.map encB bl)), [Row.arr 1 (U.wiR (List.map encB bl) (-1))], []) ∧
 (0 ≤ a ∧
 (List.take (List.length (List.map encB bl)) (List.drop 0 (U.wiR (List.map encB bl) (-1))))[Int.toNat a]? =
 some
 [goB
 (rdB
 (rowAt
 (List.take (List.length (List.map encB bl)) (List.drop 0 (U.wiR (List.map encB bl) (-1))))
 (Int.toNat a))
 0)]) ∧
 TB
 (rdB
 (rowAt (List.take (List.length (List.map encB bl)) (List.drop 0 (U.wiR (List.map encB bl) (-1))))
 (Int.toNat a))
 0)
 ((0 ≤ b ∧
 (List.take (List.length (List.map encB bl))
 (List.drop 0 (U.wiR (List.map encB bl) (-1))))[Int.toNat b]? =
 some
 [goB
 (rdB
 (rowAt
 (List.take (List.length (List.map encB bl)) (List.drop 0 (U.wiR (List.map encB bl) (-1))))
 (Int.toNat b))
 0)]) ∧
 TB
 (rdB
 (rowAt (List.take (List.length (List.map encB bl)) (List.drop 0 (U.wiR (List.map encB bl) (-1))))
 (Int.toNat b))
 0)
 (TB (a == b) ((goB true, [], []) = r)
 (Wf Try.prog H 28
 [AV.agg [AV.sl ks, AV.sl bs, goI p, goI q, AV.sl (List.map encB bl)], goI 0, goI a] [] =
 some
 (AV.os 0 0 (List.length (List.map encB bl)), [Row.arr 1 (U.wiR (List.map encB bl) a)], []) ∧
 (0 ≤ b ∧
 (List.take (List.length (List.map encB bl))
 (List.drop 0 (U.wiR (List.map encB bl) a)))[Int.toNat b]? =
 some
 [goB
 (rdB
 (rowAt
 (List.take (List.length (List.map encB bl))
 (List.drop 0 (U.wiR (List.map encB bl) a)))
 (Int.toNat b))
 0)]) ∧
 (goB
 !rdB
 (rowAt
 (List.take (List.length (List.map encB bl))
 (List.drop 0 (U.wiR (List.map encB bl) a)))
 (Int.toNat b))
 0,
 [], []) =
 r))
 ((goB false, [], []) = r))
 ((goB false, [], []) = r)))))) := by kernel_rfl
theorem td50 (ks : List (List AV)) (bs : List (List AV)) (p : Int) (q : Int) (bl : List XB) (b : Int) (l : List Int) (r : AV × List Row × List Nat) : (runT Try.prog H Fd64 (Ld50 l) false 50 [AV.agg [AV.sl ks, AV.sl bs, goI p, goI q, AV.sl (List.map encB bl)], goI b] []
 fun q => q = r) = (LoopTo Try.prog H (H 50) 0 (loopOf Try.prog 50 3)
 (mkS 23 [(1, goI b), (2, AV.pt 0 0 0), (5, AV.os 1 0 0), (6, goI 0)]
 [Row.box [AV.sl ks, AV.sl bs, goI p, goI q, AV.sl (List.map encB bl)], Row.arr 1 []])
 (Ex.exit 0, mkS 23 [(5, AV.os 1 0 (List.length l))] [Row.dead, Row.arr 1 (List.map encI l)]) ∧
 (AV.os 0 0 (List.length l), [Row.arr 1 (List.map encI l)], []) = r) := by kernel_rfl
theorem td50_3 (ks : List (List AV)) (bs : List (List AV)) (p : Int) (q : Int) (bl : List XB) (b : Int) (l : List Int) (i : Nat) (r : Ex × St) : (turnT Try.prog H Fd64 L0 false (H 50) 0 (loopOf Try.prog 50 3)
 (mkS 23 [(1, goI b), (2, AV.pt 0 0 0), (5, AV.os 1 0 (List.length l)), (6, goI (↑i : Int))]
 [Row.box [AV.sl ks, AV.sl bs, goI p, goI q, AV.sl (List.map encB bl)], Row.arr 1 (List.map encI l)])
 r) = (TB (decide ((↑i : Int) < (↑(List.length (List.map encB bl)) : Int)))
 (Wf Try.prog H 64 [AV.agg [AV.sl ks, AV.sl bs, goI p, goI q, AV.sl (List.map encB bl)], goI (↑i : Int), goI b] [] =
 some (goB (U.domR (List.map encB bl) (↑i : Int) b), [], []) ∧
 TB (U.domR (List.map encB bl) (↑i : Int) b)
 (true = true ∧
 (List.length l = List.length (List.map encI l) ∧ List.length l + 1 ≤ 1000000) ∧
 LoopTo Try.prog H (H 50) 0 (loopOf Try.prog 50 3)
 (mkS 23
 [(1, goI b), (2, AV.pt 0 0 0), (5, AV.os 1 0 (List.length l + 1)),
 (6, goI (IntKind.wrap IntKind.i64 ((↑i : Int) + 1)))]
 [Row.box [AV.sl ks, AV.sl bs, goI p, goI q, AV.sl (List.map encB bl)],
 Row.arr 1 (List.map encI l ++ [[goI (↑i : Int)]])])
 r)
 (LoopTo Try.prog H (H 50) 0 (loopOf Try.prog 50 3)
 (mkS 23
 [(1, goI b), (2, AV.pt 0 0 0), (5, AV.os 1 0 (List.length l)),
 (6, goI (IntKind.wrap IntKind.i64 ((↑i : Int) + 1)))]
 [Row.box [AV.sl ks, AV.sl bs, goI p, goI q, AV.sl (List.map encB bl)], Row.arr 1 (List.map encI l)])
 r))
 ((Ex.exit 0, mkS 23 [(5, AV.os 1 0 (List.length l))] [Row.dead, Row.arr 1 (List.map encI l)]) = r)) := by kernel_rfl
theorem td51 (ks : List (List AV)) (bs : List (List AV)) (p : Int) (q : Int) (bl : List XB) (l : List Int) (c : Bool) (x : Int) (r : AV × List Row × List Nat) : (runT Try.prog H Fd64 (Ld51 l c x 0 false) false 51
 [AV.agg [AV.sl ks, AV.sl bs, goI p, goI q, AV.sl (List.map encB bl)], AV.sl (List.map encI l)] [] fun q => q = r) = (TB c
 (LoopTo Try.prog H (H 51) 0 (loopOf Try.prog 51 2)
 (mkS 38 [(1, AV.sl (List.map encI l)), (2, AV.pt 0 0 0), (5, goI 0)]
 [Row.box [AV.sl ks, AV.sl bs, goI p, goI q, AV.sl (List.map encB bl)]])
 (Ex.ret, mkS 38 [(4, goI x)] [Row.dead]) ∧
 (goI x, [], []) = r)
 (LoopTo Try.prog H (H 51) 0 (loopOf Try.prog 51 2)
 (mkS 38 [(1, AV.sl (List.map encI l)), (2, AV.pt 0 0 0), (5, goI 0)]
 [Row.box [AV.sl ks, AV.sl bs, goI p, goI q, AV.sl (List.map encB bl)]])
 (Ex.exit 0, mkS 38 [] [Row.dead]) ∧
 (goI (-1), [], []) = r)) := by kernel_rfl
theorem td51_2 (ks : List (List AV)) (bs : List (List AV)) (p : Int) (q : Int) (bl : List XB) (l : List Int) (i : Nat) (al : Bool) (r : Ex × St) : (turnT Try.prog H Fd64 (Ld51 l false 0 i al) false (H 51) 0 (loopOf Try.prog 51 2)
 (mkS 38 [(1, AV.sl (List.map encI l)), (2, AV.pt 0 0 0), (5, goI (↑i : Int))]
 [Row.box [AV.sl ks, AV.sl bs, goI p, goI q, AV.sl (List.map encB bl)]])
 r) = (TB (decide ((↑i : Int) < (↑(List.length (List.map encI l)) : Int)))
 (LoopTo Try.prog H (H 51) 0 (loopOf Try.prog 51 6)
 (mkS 38 [(1, AV.sl (List.map encI l)), (2, AV.pt 0 0 0), (5, goI (↑i : Int)), (6, goB true), (7, goI 0)]
 [Row.box [AV.sl ks, AV.sl bs, goI p, goI q, AV.sl (List.map encB bl)]])
 (Ex.exit 2,
 mkS 38 [(1, AV.sl (List.map encI l)), (2, AV.pt 0 0 0), (5, goI (↑i : Int)), (6, goB al)]
 [Row.box [AV.sl ks, AV.sl bs, goI p, goI q, AV.sl (List.map encB bl)]]) ∧
 TB al
 ((0 ≤ (↑i : Int) ∧ (List.map encI l)[i]? = some [goI (rdI (rowAt (List.map encI l) i) 0)]) ∧
 (Ex.ret, mkS 38 [(4, goI (rdI (rowAt (List.map encI l) i) 0))] [Row.dead]) = r)
 (LoopTo Try.prog H (H 51) 0 (loopOf Try.prog 51 2)
 (mkS 38 [(1, AV.sl (List.map encI l)), (2, AV.pt 0 0 0), (5, goI (IntKind.wrap IntKind.i64 ((↑i : Int) + 1)))]
 [Row.box [AV.sl ks, AV.sl bs, goI p, goI q, AV.sl (List.map encB bl)]])
 r))
 ((Ex.exit 0, mkS 38 [] [Row.dead]) = r)) := by kernel_rfl
theorem td51_6 (ks : List (List AV)) (bs : List (List AV)) (p : Int) (q : Int) (bl : List XB) (l : List Int) (i : Nat) (al : Bool) (k : Nat) (r : Ex × St) : (turnT Try.prog H Fd64 L0 false (H 51) 0 (loopOf Try.prog 51 6)
 (mkS 38 [(1, AV.sl (List.map encI l)), (2, AV.pt 0 0 0), (5, goI (↑i : Int)), (6, goB al), (7, goI (↑k : Int))]
 [Row.box [AV.sl ks, AV.sl bs, goI p, goI q, AV.sl (List.map encB bl)]])
 r) = (TB (decide ((↑k : Int) < (↑(List.length (List.map encI l)) : Int)))
 (TB al
 ((0 ≤ (↑k : Int) ∧ (List.map encI l)[k]? = some [goI (rdI (rowAt (List.map encI l) k) 0)]) ∧
 (0 ≤ (↑i : Int) ∧ (List.map encI l)[i]? = some [goI (rdI (rowAt (List.map encI l) i) 0)]) ∧
 Wf Try.prog H 64
 [AV.agg [AV.sl ks, AV.sl bs, goI p, goI q, AV.sl (List.map encB bl)],
 goI (rdI (rowAt (List.map encI l) k) 0), goI (rdI (rowAt (List.map encI l) i) 0)]
 [] =
 some
 (goB (U.domR (List.map encB bl) (rdI (rowAt (List.map encI l) k) 0) (rdI (rowAt (List.map encI l) i) 0)),
 [], []) ∧
 LoopTo Try.prog H (H 51) 0 (loopOf Try.prog 51 6)
 (mkS 38
 [(1, AV.sl (List.map encI l)), (2, AV.pt 0 0 0), (5, goI (↑i : Int)),
 (6,
 goB
 (U.domR (List.map encB bl) (rdI (rowAt (List.map encI l) k) 0)
 (rdI (rowAt (List.map encI l) i) 0))),
 (7, goI (IntKind.wrap IntKind.i64 ((↑k : Int) + 1)))]
 [Row.box [AV.sl ks, AV.sl bs, goI p, goI q, AV.sl (List.map encB bl)]])
 r)
 (LoopTo Try.prog H (H 51) 0 (loopOf Try.prog 51 6)
 (mkS 38
 [(1, AV.sl (List.map encI l)), (2, AV.pt 0 0 0), (5, goI (↑i : Int)), (6, goB false),
 (7, goI (IntKind.wrap IntKind.i64 ((↑k : Int) + 1)))]
 [Row.box [AV.sl ks, AV.sl bs, goI p, goI q, AV.sl (List.map encB bl)]])
 r))
 ((Ex.exit 2,
 mkS 38 [(1, AV.sl (List.map encI l)), (2, AV.pt 0 0 0), (5, goI (↑i : Int)), (6, goB al)]
 [Row.box [AV.sl ks, AV.sl bs, goI p, goI q, AV.sl (List.map encB bl)]]) =
 r)) := by kernel_rfl
theorem td33 (ks : List (List AV)) (bs : List (List AV)) (p : Int) (q : Int) (bl : List XB) (ou : List Int) (r : AV × List Row × List Nat) : (runT Try.prog H (fun f args sto => CT.of (F0 f args sto)) (Ld33 ou 0 [] []) false 33
 [AV.agg [AV.sl ks, AV.sl bs, goI p, goI q, AV.sl (List.map encB bl)]] [] fun q => q = r) = (LoopTo Try.prog H (H 33) 0 (loopOf Try.prog 33 3)
 (mkS 44 [(1, AV.pt 0 0 0), (3, AV.os 1 0 0), (4, goI 0)]
 [Row.box [AV.sl ks, AV.sl bs, goI p, goI q, AV.sl (List.map encB bl)], Row.arr 1 [], Row.dead])
 (Ex.exit 0, mkS 44 [(3, AV.os 1 0 (List.length ou))] [Row.dead, Row.arr 1 (List.map encI ou), Row.dead]) ∧
 (AV.os 0 0 (List.length ou), [Row.arr 1 (List.map encI ou)], []) = r) := by kernel_rfl
theorem td33_3 (ks : List (List AV)) (bs : List (List AV)) (p : Int) (q : Int) (bl : List XB) (ou : List Int) (b : Nat) (l : List Int) (ot : List Int) (x : Int) (r : Ex × St) : (turnT Try.prog H (Fd33 l x []) (Ld33 [] (↑b : Int) l ot) false (H 33) 0 (loopOf Try.prog 33 3)
 (mkS 44 [(1, AV.pt 0 0 0), (3, AV.os 1 0 (List.length ou)), (4, goI (↑b : Int))]
 [Row.box [AV.sl ks, AV.sl bs, goI p, goI q, AV.sl (List.map encB bl)], Row.arr 1 (List.map encI ou), Row.dead])
 r) = (TB (decide ((↑b : Int) < (↑(List.length (List.map encB bl)) : Int)))
 (Wf Try.prog H 50 [AV.agg [AV.sl ks, AV.sl bs, goI p, goI q, AV.sl (List.map encB bl)], goI (↑b : Int)] [] =
 some (AV.os 0 0 (List.length l), [Row.arr 1 (List.map encI l)], []) ∧
 LoopTo Try.prog H (H 33) 0 (loopOf Try.prog 33 8)
 (mkS 44
 [(1, AV.pt 0 0 0), (3, AV.os 1 0 (List.length ou)), (4, goI (↑b : Int)),
 (5, AV.sl (List.take (List.length l) (List.drop 0 (List.map encI l)))), (6, AV.os 2 0 0), (7, goI 0)]
 [Row.box [AV.sl ks, AV.sl bs, goI p, goI q, AV.sl (List.map encB bl)], Row.arr 1 (List.map encI ou),
 Row.arr 1 []])
 (Ex.exit 2,
 mkS 44
 [(1, AV.pt 0 0 0), (3, AV.os 1 0 (List.length ou)), (4, goI (↑b : Int)), (6, AV.os 2 0 (List.length ot))]
 [Row.box [AV.sl ks, AV.sl bs, goI p, goI q, AV.sl (List.map encB bl)], Row.arr 1 (List.map encI ou),
 Row.arr 1 (List.map encI ot)]) ∧
 Wf Try.prog H 51
 [AV.agg [AV.sl ks, AV.sl bs, goI p, goI q, AV.sl (List.map encB bl)],
 AV.sl (List.take (List.length ot) (List.drop 0 (List.map encI ot)))]
 [] =
 some (goI x, [], []) ∧
 true = true ∧
 (List.length ou = List.length (List.map encI ou) ∧ List.length ou + 1 ≤ 1000000) ∧
 LoopTo Try.prog H (H 33) 0 (loopOf Try.prog 33 3)
 (mkS 44
 [(1, AV.pt 0 0 0), (3, AV.os 1 0 (List.length ou + 1)),
 (4, goI (IntKind.wrap IntKind.i64 ((↑b : Int) + 1)))]
 [Row.box [AV.sl ks, AV.sl bs, goI p, goI q, AV.sl (List.map encB bl)],
 Row.arr 1 (List.map encI ou ++ [[goI x]]), Row.dead])
 r)
 ((Ex.exit 0, mkS 44 [(3, AV.os 1 0 (List.length ou))] [Row.dead, Row.arr 1 (List.map encI ou), Row.dead]) = r)) := by kernel_rfl
theorem td33_8 (ks : List (List AV)) (bs : List (List AV)) (p : Int) (q : Int) (bl : List XB) (ou : List Int) (b : Int) (l : List Int) (ot : List Int) (k : Nat) (r : Ex × St) : (turnT Try.prog H (fun f args sto => CT.of (F0 f args sto)) L0 false (H 33) 0 (loopOf Try.prog 33 8)
 (mkS 44
 [(1, AV.pt 0 0 0), (3, AV.os 1 0 (List.length ou)), (4, goI b), (5, AV.sl (List.map encI l)),
 (6, AV.os 2 0 (List.length ot)), (7, goI (↑k : Int))]
 [Row.box [AV.sl ks, AV.sl bs, goI p, goI q, AV.sl (List.map encB bl)], Row.arr 1 (List.map encI ou),
 Row.arr 1 (List.map encI ot)])
 r) = (TB (decide ((↑k : Int) < (↑(List.length (List.map encI l)) : Int)))
 ((0 ≤ (↑k : Int) ∧ (List.map encI l)[k]? = some [goI (rdI (rowAt (List.map encI l) k) 0)]) ∧
 TB (!rdI (rowAt (List.map encI l) k) 0 == b)
 ((0 ≤ (↑k : Int) ∧ (List.map encI l)[k]? = some [goI (rdI (rowAt (List.map encI l) k) 0)]) ∧
 true = true ∧
 (List.length ot = List.length (List.map encI ot) ∧ List.length ot + 1 ≤ 1000000) ∧
 LoopTo Try.prog H (H 33) 0 (loopOf Try.prog 33 8)
 (mkS 44
 [(1, AV.pt 0 0 0), (3, AV.os 1 0 (List.length ou)), (4, goI b), (5, AV.sl (List.map encI l)),
 (6, AV.os 2 0 (List.length ot + 1)), (7, goI (IntKind.wrap IntKind.i64 ((↑k : Int) + 1)))]
 [Row.box [AV.sl ks, AV.sl bs, goI p, goI q, AV.sl (List.map encB bl)], Row.arr 1 (List.map encI ou),
 Row.arr 1 (List.map encI ot ++ [[goI (rdI (rowAt (List.map encI l) k) 0)]])])
 r)
 (LoopTo Try.prog H (H 33) 0 (loopOf Try.prog 33 8)
 (mkS 44
 [(1, AV.pt 0 0 0), (3, AV.os 1 0 (List.length ou)), (4, goI b), (5, AV.sl (List.map encI l)),
 (6, AV.os 2 0 (List.length ot)), (7, goI (IntKind.wrap IntKind.i64 ((↑k : Int) + 1)))]
 [Row.box [AV.sl ks, AV.sl bs, goI p, goI q, AV.sl (List.map encB bl)], Row.arr 1 (List.map encI ou),
 Row.arr 1 (List.map encI ot)])
 r))
 ((Ex.exit 2,
 mkS 44 [(1, AV.pt 0 0 0), (3, AV.os 1 0 (List.length ou)), (4, goI b), (6, AV.os 2 0 (List.length ot))]
 [Row.box [AV.sl ks, AV.sl bs, goI p, goI q, AV.sl (List.map encB bl)], Row.arr 1 (List.map encI ou),
 Row.arr 1 (List.map encI ot)]) =
 r)) := by kernel_rfl
theorem td35 (ks : List (List AV)) (bs : List (List AV)) (p : Int) (q : Int) (bl : List XB) (b : Int) (ab : List Int) (l : List Int) (r : AV × List Row × List Nat) : (runT Try.prog H (Fd33 [] 0 ab) (Ld35 l) false 35
 [AV.agg [AV.sl ks, AV.sl bs, goI p, goI q, AV.sl (List.map encB bl)], goI b] [] fun q => q = r) = (Wf Try.prog H 33 [AV.agg [AV.sl ks, AV.sl bs, goI p, goI q, AV.sl (List.map encB bl)]] [] =
 some (AV.os 0 0 (List.length ab), [Row.arr 1 (List.map encI ab)], []) ∧
 LoopTo Try.prog H (H 35) 0 (loopOf Try.prog 35 4)
 (mkS 31
 [(1, goI b), (5, AV.os 1 0 0), (6, AV.sl (List.take (List.length ab) (List.drop 0 (List.map encI ab)))),
 (7, goI 0)]
 [Row.dead, Row.arr 1 []])
 (Ex.exit 0, mkS 31 [(5, AV.os 1 0 (List.length l))] [Row.dead, Row.arr 1 (List.map encI l)]) ∧
 (AV.os 0 0 (List.length l), [Row.arr 1 (List.map encI l)], []) = r) := by kernel_rfl
theorem td35_4 (b : Int) (ab : List Int) (l : List Int) (i : Nat) (r : Ex × St) : (turnT Try.prog H (fun f args sto => CT.of (F0 f args sto)) L0 false (H 35) 0 (loopOf Try.prog 35 4)
 (mkS 31 [(1, goI b), (5, AV.os 1 0 (List.length l)), (6, AV.sl (List.map encI ab)), (7, goI (↑i : Int))]
 [Row.dead, Row.arr 1 (List.map encI l)])
 r) = (TB (decide ((↑i : Int) < (↑(List.length (List.map encI ab)) : Int)))
 ((0 ≤ (↑i : Int) ∧ (List.map encI ab)[i]? = some [goI (rdI (rowAt (List.map encI ab) i) 0)]) ∧
 TB (rdI (rowAt (List.map encI ab) i) 0 == b)
 (TB (decide (b ≥ 0))
 (true = true ∧
 (List.length l = List.length (List.map encI l) ∧ List.length l + 1 ≤ 1000000) ∧
 LoopTo Try.prog H (H 35) 0 (loopOf Try.prog 35 4)
 (mkS 31
 [(1, goI b), (5, AV.os 1 0 (List.length l + 1)), (6, AV.sl (List.map encI ab)),
 (7, goI (IntKind.wrap IntKind.i64 ((↑i : Int) + 1)))]
 [Row.dead, Row.arr 1 (List.map encI l ++ [[goI (↑i : Int)]])])
 r)
 (LoopTo Try.prog H (H 35) 0 (loopOf Try.prog 35 4)
 (mkS 31
 [(1, goI b), (5, AV.os 1 0 (List.length l)), (6, AV.sl (List.map encI ab)),
 (7, goI (IntKind.wrap IntKind.i64 ((↑i : Int) + 1)))]
 [Row.dead, Row.arr 1 (List.map encI l)])
 r))
 (LoopTo Try.prog H (H 35) 0 (loopOf Try.prog 35 4)
 (mkS 31
 [(1, goI b), (5, AV.os 1 0 (List.length l)), (6, AV.sl (List.map encI ab)),
 (7, goI (IntKind.wrap IntKind.i64 ((↑i : Int) + 1)))]
 [Row.dead, Row.arr 1 (List.map encI l)])
 r))
 ((Ex.exit 0, mkS 31 [(5, AV.os 1 0 (List.length l))] [Row.dead, Row.arr 1 (List.map encI l)]) = r)) := by kernel_rfl
end Go.Proofs.Ytabdcfcnngnnoaa.E
set_option linter.unusedVariables false
set_option linter.unusedSectionVars false
set_option linter.unusedSimpArgs false
set_option maxRecDepth 100000
namespace Go.Proofs.Ytabdcfcnngnnoaa.E
open Go
noncomputable def FN9 (o : Bool) : CallT := fun f args sto => match f, args with
 | 29, _ => .is (goB true, [], [])
 | 30, _ => .is (goB o, [], [])
 | 34, [.agg [_, _, _, _, .sl bl], .v (.int _ b)] => .is (.os 0 0 (U.kidW bl b).length, [.arr 1 ((U.kidW bl b).map encI)], [])
 | 32, [.agg [_, _, _, _, .sl bl]] => .is (.os 0 0 bl.length, [.arr 1 ((U.aboW bl).map encI)], [])
 | 35, [.agg [_, _, _, _, .sl bl], .v (.int _ b)] => .is (.os 0 0 (U.kidW bl b).length, [.arr 1 ((U.kidW bl b).map encI)], [])
 | 33, [.agg [_, _, _, _, .sl bl]] => .is (.os 0 0 (U.aboW bl).length, [.arr 1 ((U.aboW bl).map encI)], [])
 | 14, _ => .is (goB true, [], [])
 | _, _ => .no

theorem tn9 (a : List XF) (b : Int) (o : Bool) (r : AV × List Row × List Nat) : (runT Try.prog H (FN9 o) (fun id st => LT.is (Ex.exit 0) (mkS 39 [] [Row.dead, Row.dead])) false 9
 [AV.agg [AV.sl (List.map encF a)], goI b] [] fun q => q = r) = (Wf Try.prog H 29 [] [] = some (goB true, [], []) ∧
 Wf Try.prog H 30 [AV.agg [AV.sl (List.map encF a)]] [] = some (goB o, [], []) ∧
 TB o ((goB true, [], []) = r)
 (LoopTo Try.prog H (H 9) 0 (loopOf Try.prog 9 6)
 (mkS 39 [(1, goI b), (2, AV.pt 0 0 0), (5, goI 0)] [Row.box [AV.sl (List.map encF a)], Row.dead])
 (Ex.exit 0, mkS 39 [] [Row.dead, Row.dead]) ∧
 (goB true, [], []) = r)) := by kernel_rfl
theorem tn9_6 (a : List XF) (b : Int) (i : Nat) (r : Ex × St) : (turnT Try.prog H (FN9 false) L0 false (H 9) 0 (loopOf Try.prog 9 6)
 (mkS 39 [(1, goI b), (2, AV.pt 0 0 0), (5, goI (↑i : Int))] [Row.box [AV.sl (List.map encF a)], Row.dead]) r) = (TB (decide ((↑i : Int) < (↑(List.length (List.map encF a)) : Int)))
 ((0 ≤ (↑i : Int) ∧
 (List.map encF a)[i]? =
 some
 [AV.sl (rdL (rowAt (List.map encF a) i) 0), AV.sl (rdL (rowAt (List.map encF a) i) 1),
 goI (rdI (rowAt (List.map encF a) i) 2), goI (rdI (rowAt (List.map encF a) i) 3),
 AV.sl (rdL (rowAt (List.map encF a) i) 4)]) ∧
 Wf Try.prog H 32
 [AV.agg
 [AV.sl (rdL (rowAt (List.map encF a) i) 0), AV.sl (rdL (rowAt (List.map encF a) i) 1),
 goI (rdI (rowAt (List.map encF a) i) 2), goI (rdI (rowAt (List.map encF a) i) 3),
 AV.sl (rdL (rowAt (List.map encF a) i) 4)]]
 [] =
 some
 (AV.os 0 0 (List.length (rdL (rowAt (List.map encF a) i) 4)),
 [Row.arr 1 (List.map encI (U.aboW (rdL (rowAt (List.map encF a) i) 4)))], []) ∧
 Wf Try.prog H 33
 [AV.agg
 [AV.sl (rdL (rowAt (List.map encF a) i) 0), AV.sl (rdL (rowAt (List.map encF a) i) 1),
 goI (rdI (rowAt (List.map encF a) i) 2), goI (rdI (rowAt (List.map encF a) i) 3),
 AV.sl (rdL (rowAt (List.map encF a) i) 4)]]
 [] =
 some
 (AV.os 0 0 (List.length (U.aboW (rdL (rowAt (List.map encF a) i) 4))),
 [Row.arr 1 (List.map encI (U.aboW (rdL (rowAt (List.map encF a) i) 4)))], []) ∧
 Wf Try.prog H 14
 [AV.sl
 (List.take (List.length (rdL (rowAt (List.map encF a) i) 4))
 (List.drop 0 (List.map encI (U.aboW (rdL (rowAt (List.map encF a) i) 4))))),
 AV.sl
 (List.take (List.length (U.aboW (rdL (rowAt (List.map encF a) i) 4)))
 (List.drop 0 (List.map encI (U.aboW (rdL (rowAt (List.map encF a) i) 4)))))]
 [] =
 some (goB true, [], []) ∧
 Wf Try.prog H 34
 [AV.agg
 [AV.sl (rdL (rowAt (List.map encF a) i) 0), AV.sl (rdL (rowAt (List.map encF a) i) 1),
 goI (rdI (rowAt (List.map encF a) i) 2), goI (rdI (rowAt (List.map encF a) i) 3),
 AV.sl (rdL (rowAt (List.map encF a) i) 4)],
 goI b]
 [] =
 some
 (AV.os 0 0 (List.length (U.kidW (rdL (rowAt (List.map encF a) i) 4) b)),
 [Row.arr 1 (List.map encI (U.kidW (rdL (rowAt (List.map encF a) i) 4) b))], []) ∧
 Wf Try.prog H 35
 [AV.agg
 [AV.sl (rdL (rowAt (List.map encF a) i) 0), AV.sl (rdL (rowAt (List.map encF a) i) 1),
 goI (rdI (rowAt (List.map encF a) i) 2), goI (rdI (rowAt (List.map encF a) i) 3),
 AV.sl (rdL (rowAt (List.map encF a) i) 4)],
 goI b]
 [] =
 some
 (AV.os 0 0 (List.length (U.kidW (rdL (rowAt (List.map encF a) i) 4) b)),
 [Row.arr 1 (List.map encI (U.kidW (rdL (rowAt (List.map encF a) i) 4) b))], []) ∧
 Wf Try.prog H 14
 [AV.sl
 (List.take (List.length (U.kidW (rdL (rowAt (List.map encF a) i) 4) b))
 (List.drop 0 (List.map encI (U.kidW (rdL (rowAt (List.map encF a) i) 4) b)))),
 AV.sl
 (List.take (List.length (U.kidW (rdL (rowAt (List.map encF a) i) 4) b))
 (List.drop 0 (List.map encI (U.kidW (rdL (rowAt (List.map encF a) i) 4) b))))]
 [] =
 some (goB true, [], []) ∧
 LoopTo Try.prog H (H 9) 0 (loopOf Try.prog 9 6)
 (mkS 39 [(1, goI b), (2, AV.pt 0 0 0), (5, goI (IntKind.wrap IntKind.i64 ((↑i : Int) + 1)))]
 [Row.box [AV.sl (List.map encF a)], Row.dead])
 r)
 ((Ex.exit 0, mkS 39 [] [Row.dead, Row.dead]) = r)) := by kernel_rfl
theorem domR_map (bl : List XB) (a b : Int) : U.domR (bl.map encB) a b = U.domB (U.nextAt bl) bl.length a b := by unfold U.domR; rw [decBs_map, List.length_map]
theorem wiR_map (bl : List XB) (wo : Int) : U.wiR (bl.map encB) wo = (U.withinB (U.nextAt bl) bl.length 0 wo).map encBo := by unfold U.wiR; rw [decBs_map, List.length_map]
section
variable (ks bs : List (List AV)) (p q : Int) (bl : List XB) (hc : CodeOk bl) (hl : bl.length ≤ 3000) (h0 : 0 < bl.length) (hT : TgtOk bl)
include hc hl h0 hT
theorem wn64 (a b : Int) : Wf Try.prog H 64 [.agg [.sl ks, .sl bs, goI p, goI q, .sl (bl.map encB)], goI a, goI b] [] = some (goB (U.domB (U.nextAt bl) bl.length a b), [], []) := by
  have hlen : (bl.map encB).length = bl.length := List.length_map _
  have e : ∀ wo : Int, List.take bl.length (List.drop 0 (U.wiR (bl.map encB) wo)) = (U.withinB (U.nextAt bl) bl.length 0 wo).map encBo := fun wo => by
    rw [wiR_map, List.drop_zero, List.take_of_length_le (by rw [List.length_map, withinB_len]; exact Nat.le_refl _)]
  have g1 : ∀ (wo : Int) (x : Nat), x < bl.length → rdB (rowAt ((U.withinB (U.nextAt bl) bl.length 0 wo).map encBo) x) 0 = U.wiB (U.nextAt bl) bl.length wo x := fun wo x hx => by
    rw [rowAt_map (by rw [withinB_len]; exact hx)]; rfl
  have g2 : ∀ (wo : Int) (x : Nat), x < bl.length → ((U.withinB (U.nextAt bl) bl.length 0 wo).map encBo)[x]? = some [goB (U.wiB (U.nextAt bl) bl.length wo x)] := fun wo x hx => by
    rw [rows_map (by rw [withinB_len]; exact hx)]; rfl
  have wW := fun wo : Int => wf42 ks bs p q bl hc hl 0 wo (by omega)
  refine runK (td64 ks bs p q bl a b _) ?_
  rw [hlen, e, e]
  unfold U.domB
  cases h1 : decide (a < 0) with
  | true => exact rfl
  | false =>
  cases h2 : decide (b < 0) with
  | true => exact rfl
  | false =>
  cases h3 : decide (a ≥ (bl.length : Int)) with
  | true => exact rfl
  | false =>
  cases h4 : decide (b ≥ (bl.length : Int)) with
  | true => exact rfl
  | false =>
  rw [decide_eq_false_iff_not] at h1 h2 h3 h4
  obtain ⟨a, rfl⟩ := Int.eq_ofNat_of_zero_le (show 0 ≤ a by omega)
  obtain ⟨b, rfl⟩ := Int.eq_ofNat_of_zero_le (show 0 ≤ b by omega)
  have ha : a < bl.length := by omega
  have hb : b < bl.length := by omega
  rw [Int.toNat_natCast, Int.toNat_natCast, g1 _ _ ha, g2 _ _ ha, g1 _ _ hb, g2 _ _ hb, g1 _ _ hb, g2 _ _ hb, wiR_map, wiR_map]
  refine ⟨wW (-1), ⟨by omega, rfl⟩, ?_⟩
  cases U.wiB (U.nextAt bl) bl.length (-1) a with
  | false => exact rfl
  | true =>
    refine ⟨⟨by omega, rfl⟩, ?_⟩
    cases U.wiB (U.nextAt bl) bl.length (-1) b with
    | false => exact rfl
    | true =>
      cases ((a : Int) == (b : Int)) with
      | true => exact rfl
      | false =>
        refine ⟨wW a, ⟨by omega, rfl⟩, ?_⟩
        cases U.wiB (U.nextAt bl) bl.length a b <;> exact rfl
theorem loopn50 (b : Int) : ∀ (d i : Nat) (l : List Int), i + d = bl.length → l.length ≤ i →
    LoopTo Try.prog H (H 50) 0 (loopOf Try.prog 50 3) (mkS 23 [(1, goI b), (2, .pt 0 0 0), (5, .os 1 0 l.length), (6, goI i)] [.box [.sl ks, .sl bs, goI p, goI q, .sl (bl.map encB)], .arr 1 (l.map encI)])
      (.exit 0, mkS 23 [(5, .os 1 0 (l ++ U.selP (fun y => U.domB (U.nextAt bl) bl.length y b) d i).length)] [.dead, .arr 1 ((l ++ U.selP (fun y => U.domB (U.nextAt bl) bl.length y b) d i).map encI)])
  | 0, i, l, hd, hll => by
    refine turnK (td50_3 ks bs p q bl b l i _) ?_
    rw [List.length_map, decide_eq_false (by omega), show U.selP (fun y => U.domB (U.nextAt bl) bl.length y b) 0 i = [] from rfl, List.append_nil]
    exact rfl
  | d + 1, i, l, hd, hll => by
    have hi : i < bl.length := by omega
    have e : U.selP (fun y => U.domB (U.nextAt bl) bl.length y b) (d + 1) i = (if U.domB (U.nextAt bl) bl.length i b = true then [(i : Int)] else []) ++ U.selP (fun y => U.domB (U.nextAt bl) bl.length y b) d (i + 1) := rfl
    rw [e]
    have w := wn64 ks bs p q bl hc hl h0 hT i b
    refine turnK (td50_3 ks bs p q bl b l i _) ?_
    rw [show (bl.map encB).length = bl.length from List.length_map _, decide_eq_true (show (i : Int) < bl.length by omega), wrapS hi (by omega), domR_map]
    refine ⟨w, ?_⟩
    cases hn : U.domB (U.nextAt bl) bl.length i b with
    | false =>
      rw [if_neg (by simp), List.nil_append]
      exact loopn50 b d (i + 1) l (by omega) (by omega)
    | true =>
      have ih := loopn50 b d (i + 1) (l ++ [(i : Int)]) (by omega) (by simp; omega)
      rw [List.append_assoc] at ih
      simp only [List.length_append, List.length_singleton, List.map_append, List.map_cons, List.map_nil] at ih
      refine ⟨rfl, ⟨(List.length_map _).symm, by omega⟩, ?_⟩
      rw [if_pos rfl]
      simp only [List.length_append, List.length_singleton, List.map_append, List.map_cons, List.map_nil]
      exact ih
theorem wn50 (b : Int) : Wf Try.prog H 50 [.agg [.sl ks, .sl bs, goI p, goI q, .sl (bl.map encB)], goI b] [] = some (.os 0 0 (U.allD (U.nextAt bl) bl.length b).length, [.arr 1 ((U.allD (U.nextAt bl) bl.length b).map encI)], []) :=
  runK (td50 ks bs p q bl b (U.allD (U.nextAt bl) bl.length b) _) ⟨loopn50 ks bs p q bl hc hl h0 hT b bl.length 0 [] (by omega) (by simp), rfl⟩
theorem loopn51_6 (l : List Int) (hll : l.length ≤ 3000) (i : Nat) (hi : i < l.length) : ∀ (d k : Nat) (al : Bool), k + d = l.length →
    LoopTo Try.prog H (H 51) 0 (loopOf Try.prog 51 6) (mkS 38 [(1, .sl (l.map encI)), (2, .pt 0 0 0), (5, goI i), (6, goB al), (7, goI k)] [.box [.sl ks, .sl bs, goI p, goI q, .sl (bl.map encB)]])
      (.exit 2, mkS 38 [(1, .sl (l.map encI)), (2, .pt 0 0 0), (5, goI i), (6, goB (al && (l.drop k).all fun y => U.domB (U.nextAt bl) bl.length y (U.nt l i)))] [.box [.sl ks, .sl bs, goI p, goI q, .sl (bl.map encB)]])
  | 0, k, al, hd => by
    rw [List.drop_of_length_le (by omega), List.all_nil, Bool.and_true]
    refine turnK (td51_6 ks bs p q bl l i al k _) ?_
    rw [List.length_map, decide_eq_false (by omega)]
    exact rfl
  | d + 1, k, al, hd => by
    have hk : k < l.length := by omega
    have ed : l.drop k = U.nt l k :: l.drop (k + 1) := drop_cons' l hk
    have e1 : rdI (rowAt (l.map encI) k) 0 = U.nt l k := by rw [rowI hk]; rfl
    have e2 : rdI (rowAt (l.map encI) i) 0 = U.nt l i := by rw [rowI hi]; rfl
    have w := wn64 ks bs p q bl hc hl h0 hT (U.nt l k) (U.nt l i)
    rw [ed, List.all_cons]
    refine turnK (td51_6 ks bs p q bl l i al k _) ?_
    rw [show (l.map encI).length = l.length from List.length_map _, decide_eq_true (show (k : Int) < l.length by omega), e1, e2, getI hk, getI hi, wrapS hk (by omega), domR_map]
    cases al with
    | false =>
      have ih := loopn51_6 l hll i hi d (k + 1) false (by omega)
      rw [Bool.false_and] at ih ⊢
      exact ih
    | true =>
      have ih := loopn51_6 l hll i hi d (k + 1) (U.domB (U.nextAt bl) bl.length (U.nt l k) (U.nt l i)) (by omega)
      rw [Bool.true_and]
      exact ⟨⟨by omega, rfl⟩, ⟨by omega, rfl⟩, w, ih⟩
theorem loopn51 (l : List Int) (hll : l.length ≤ 3000) : ∀ (d i : Nat), i + d = l.length →
    (U.lowS (U.domB (U.nextAt bl) bl.length) l (l.drop i) = -1 ∧ LoopTo Try.prog H (H 51) 0 (loopOf Try.prog 51 2) (mkS 38 [(1, .sl (l.map encI)), (2, .pt 0 0 0), (5, goI i)] [.box [.sl ks, .sl bs, goI p, goI q, .sl (bl.map encB)]]) (.exit 0, mkS 38 [] [.dead]))
    ∨ LoopTo Try.prog H (H 51) 0 (loopOf Try.prog 51 2) (mkS 38 [(1, .sl (l.map encI)), (2, .pt 0 0 0), (5, goI i)] [.box [.sl ks, .sl bs, goI p, goI q, .sl (bl.map encB)]]) (.ret, mkS 38 [(4, goI (U.lowS (U.domB (U.nextAt bl) bl.length) l (l.drop i)))] [.dead])
  | 0, i, hd => by
    left
    rw [List.drop_of_length_le (by omega)]
    refine ⟨rfl, turnK (td51_2 ks bs p q bl l i false _) ?_⟩
    rw [List.length_map, decide_eq_false (by omega)]
    exact rfl
  | d + 1, i, hd => by
    have hi : i < l.length := by omega
    have ed : l.drop i = U.nt l i :: l.drop (i + 1) := drop_cons' l hi
    have e2 : rdI (rowAt (l.map encI) i) 0 = U.nt l i := by rw [rowI hi]; rfl
    have l6 := loopn51_6 ks bs p q bl hc hl h0 hT l hll i hi l.length 0 true (by omega)
    rw [List.drop_zero, Bool.true_and] at l6
    rw [ed]
    unfold U.lowS
    cases ha : (l.all fun y => U.domB (U.nextAt bl) bl.length y (U.nt l i)) with
    | true =>
      rw [if_pos rfl]
      right
      rw [ha] at l6
      refine turnK (td51_2 ks bs p q bl l i true _) ?_
      rw [show (l.map encI).length = l.length from List.length_map _, decide_eq_true (show (i : Int) < l.length by omega), e2, getI hi]
      exact ⟨l6, ⟨by omega, rfl⟩, rfl⟩
    | false =>
      rw [if_neg (by simp)]
      rw [ha] at l6
      rcases loopn51 l hll d (i + 1) (by omega) with ⟨g1, g2⟩ | g
      · left
        refine ⟨g1, turnK (td51_2 ks bs p q bl l i false _) ?_⟩
        rw [show (l.map encI).length = l.length from List.length_map _, decide_eq_true (show (i : Int) < l.length by omega), wrapS hi (by omega)]
        exact ⟨l6, g2⟩
      · right
        refine turnK (td51_2 ks bs p q bl l i false _) ?_
        rw [show (l.map encI).length = l.length from List.length_map _, decide_eq_true (show (i : Int) < l.length by omega), wrapS hi (by omega)]
        exact ⟨l6, g⟩
theorem wn51 (l : List Int) (hll : l.length ≤ 3000) : Wf Try.prog H 51 [.agg [.sl ks, .sl bs, goI p, goI q, .sl (bl.map encB)], .sl (l.map encI)] [] = some (goI (U.lowS (U.domB (U.nextAt bl) bl.length) l l), [], []) := by
  have h := loopn51 ks bs p q bl hc hl h0 hT l hll l.length 0 (by omega)
  rw [List.drop_zero] at h
  rcases h with ⟨g1, g2⟩ | g
  · rw [g1]
    exact runK (td51 ks bs p q bl l false 0 _) ⟨g2, rfl⟩
  · exact runK (td51 ks bs p q bl l true _ _) ⟨g, rfl⟩
omit hc hl h0 hT in
theorem loopn33_8 (ou : List Int) (b : Int) (l : List Int) (hll : l.length ≤ 3000) : ∀ (d k : Nat) (ot : List Int), k + d = l.length → ot.length ≤ k →
    LoopTo Try.prog H (H 33) 0 (loopOf Try.prog 33 8) (mkS 44 [(1, .pt 0 0 0), (3, .os 1 0 ou.length), (4, goI b), (5, .sl (l.map encI)), (6, .os 2 0 ot.length), (7, goI k)] [.box [.sl ks, .sl bs, goI p, goI q, .sl (bl.map encB)], .arr 1 (ou.map encI), .arr 1 (ot.map encI)])
      (.exit 2, mkS 44 [(1, .pt 0 0 0), (3, .os 1 0 ou.length), (4, goI b), (6, .os 2 0 (ot ++ (l.drop k).filter fun x => !(x == b)).length)] [.box [.sl ks, .sl bs, goI p, goI q, .sl (bl.map encB)], .arr 1 (ou.map encI), .arr 1 ((ot ++ (l.drop k).filter fun x => !(x == b)).map encI)])
  | 0, k, ot, hd, hol => by
    rw [List.drop_of_length_le (by omega), List.filter_nil, List.append_nil]
    refine turnK (td33_8 ks bs p q bl ou b l ot k _) ?_
    rw [List.length_map, decide_eq_false (by omega)]
    exact rfl
  | d + 1, k, ot, hd, hol => by
    have hk : k < l.length := by omega
    have ed : l.drop k = U.nt l k :: l.drop (k + 1) := drop_cons' l hk
    have e1 : rdI (rowAt (l.map encI) k) 0 = U.nt l k := by rw [rowI hk]; rfl
    rw [ed]
    refine turnK (td33_8 ks bs p q bl ou b l ot k _) ?_
    rw [show (l.map encI).length = l.length from List.length_map _, decide_eq_true (show (k : Int) < l.length by omega), e1, getI hk, wrapS hk (by omega)]
    refine ⟨⟨by omega, rfl⟩, ?_⟩
    cases hn : (!(U.nt l k == b)) with
    | false =>
      rw [List.filter_cons_of_neg (by rw [hn]; simp)]
      exact loopn33_8 ou b l hll d (k + 1) ot (by omega) (by omega)
    | true =>
      rw [List.filter_cons_of_pos (by rw [hn])]
      have ih := loopn33_8 ou b l hll d (k + 1) (ot ++ [U.nt l k]) (by omega) (by simp; omega)
      rw [List.append_assoc, List.singleton_append] at ih
      refine ⟨⟨by omega, rfl⟩, rfl, ⟨(List.length_map _).symm, by omega⟩, ?_⟩
      simp only [List.length_append, List.map_append, List.map_cons, List.length_cons, List.length_nil, List.map_nil, Nat.zero_add] at ih ⊢
      exact ih
theorem loopn33 : ∀ (d b : Nat) (ou : List Int), b + d = bl.length → ou.length = b →
    LoopTo Try.prog H (H 33) 0 (loopOf Try.prog 33 3) (mkS 44 [(1, .pt 0 0 0), (3, .os 1 0 ou.length), (4, goI b)] [.box [.sl ks, .sl bs, goI p, goI q, .sl (bl.map encB)], .arr 1 (ou.map encI), .dead])
      (.exit 0, mkS 44 [(3, .os 1 0 (ou ++ (U.aboveL bl).drop b).length)] [.dead, .arr 1 ((ou ++ (U.aboveL bl).drop b).map encI), .dead])
  | 0, b, ou, hd, hol => by
    have hA := aboveL_len bl
    rw [List.drop_of_length_le (by omega), List.append_nil]
    refine turnK (td33_3 ks bs p q bl ou b [] [] 0 _) ?_
    rw [List.length_map, decide_eq_false (by omega)]
    exact rfl
  | d + 1, b, ou, hd, hol => by
    have hA := aboveL_len bl
    have hb : b < bl.length := by omega
    have ed : (U.aboveL bl).drop b = U.nt (U.aboveL bl) b :: (U.aboveL bl).drop (b + 1) := drop_cons' _ (by omega)
    have hal : (U.allD (U.nextAt bl) bl.length b).length ≤ bl.length := selP_len _ _ _
    have hot : (U.othD (U.nextAt bl) bl.length b).length ≤ (U.allD (U.nextAt bl) bl.length b).length := List.length_filter_le _ _
    have w1 := wn50 ks bs p q bl hc hl h0 hT b
    have l8 := loopn33_8 ks bs p q bl ou b (U.allD (U.nextAt bl) bl.length b) (by omega) (U.allD (U.nextAt bl) bl.length b).length 0 [] (by omega) (by simp)
    have w2 := wn51 ks bs p q bl hc hl h0 hT (U.othD (U.nextAt bl) bl.length b) (by omega)
    rw [List.drop_zero, List.nil_append] at l8
    have ih := loopn33 d (b + 1) (ou ++ [U.nt (U.aboveL bl) b]) (by omega) (by simp; omega)
    rw [List.append_assoc, List.singleton_append] at ih
    rw [ed]
    refine turnK (td33_3 ks bs p q bl ou b (U.allD (U.nextAt bl) bl.length b) (U.othD (U.nextAt bl) bl.length b) (U.nt (U.aboveL bl) b) _) ?_
    rw [show (bl.map encB).length = bl.length from List.length_map _, decide_eq_true (show (b : Int) < bl.length by omega), wrapS hb (by omega), take_map, take_map]
    have w3 : U.lowS (U.domB (U.nextAt bl) bl.length) (U.othD (U.nextAt bl) bl.length b) (U.othD (U.nextAt bl) bl.length b) = U.nt (U.aboveL bl) b := by rw [aboveL_at hb]; rfl
    rw [w3] at w2
    simp only [List.length_append, List.map_append, List.map_cons, List.length_cons, List.map_nil, List.length_nil, Nat.zero_add] at ih ⊢
    exact ⟨w1, l8, w2, by trivial, ⟨(List.length_map _).symm, by omega⟩, ih⟩
theorem wn33 : Wf Try.prog H 33 [.agg [.sl ks, .sl bs, goI p, goI q, .sl (bl.map encB)]] [] = some (.os 0 0 (U.aboveL bl).length, [.arr 1 ((U.aboveL bl).map encI)], []) := by
  have h := loopn33 ks bs p q bl hc hl h0 hT bl.length 0 [] (by omega) rfl
  rw [List.drop_zero, List.nil_append] at h
  exact runK (td33 ks bs p q bl (U.aboveL bl) _) ⟨h, rfl⟩
omit hc hl h0 hT in
theorem loopn35 (b : Int) (ab : List Int) (ha : ab.length ≤ 3000) : ∀ (d i : Nat) (l : List Int), i + d = ab.length → l.length ≤ i →
    LoopTo Try.prog H (H 35) 0 (loopOf Try.prog 35 4) (mkS 31 [(1, goI b), (5, .os 1 0 l.length), (6, .sl (ab.map encI)), (7, goI i)] [.dead, .arr 1 (l.map encI)])
      (.exit 0, mkS 31 [(5, .os 1 0 (l ++ U.selP (fun k => (U.nt ab k == b) && decide (b ≥ 0)) d i).length)] [.dead, .arr 1 ((l ++ U.selP (fun k => (U.nt ab k == b) && decide (b ≥ 0)) d i).map encI)])
  | 0, i, l, hd, hll => by
    refine turnK (td35_4 b ab l i _) ?_
    rw [List.length_map, decide_eq_false (by omega), show U.selP (fun k => (U.nt ab k == b) && decide (b ≥ 0)) 0 i = [] from rfl, List.append_nil]
    exact rfl
  | d + 1, i, l, hd, hll => by
    have hi : i < ab.length := by omega
    have e : U.selP (fun k => (U.nt ab k == b) && decide (b ≥ 0)) (d + 1) i = (if ((U.nt ab i == b) && decide (b ≥ 0)) = true then [(i : Int)] else []) ++ U.selP (fun k => (U.nt ab k == b) && decide (b ≥ 0)) d (i + 1) := rfl
    have e1 : rdI (rowAt (ab.map encI) i) 0 = U.nt ab i := by rw [rowI hi]; rfl
    rw [e]
    refine turnK (td35_4 b ab l i _) ?_
    rw [show (ab.map encI).length = ab.length from List.length_map _, decide_eq_true (show (i : Int) < ab.length by omega), wrapS hi (by omega), e1, getI hi]
    refine ⟨⟨by omega, rfl⟩, ?_⟩
    have ih0 := loopn35 b ab ha d (i + 1) l (by omega) (by omega)
    cases hn : U.nt ab i == b with
    | false => rw [Bool.false_and, if_neg (by simp), List.nil_append]; exact ih0
    | true =>
      rw [Bool.true_and]
      cases hm : decide (b ≥ 0) with
      | false => rw [hm] at ih0; rw [if_neg (by simp), List.nil_append]; exact ih0
      | true =>
        have ih := loopn35 b ab ha d (i + 1) (l ++ [(i : Int)]) (by omega) (by simp; omega)
        rw [List.append_assoc, hm] at ih
        simp only [List.length_append, List.length_singleton, List.map_append, List.map_cons, List.map_nil] at ih
        refine ⟨rfl, ⟨(List.length_map _).symm, by omega⟩, ?_⟩
        rw [if_pos rfl]
        simp only [List.length_append, List.length_singleton, List.map_append, List.map_cons, List.map_nil]
        exact ih
theorem wn35 (b : Int) : Wf Try.prog H 35 [.agg [.sl ks, .sl bs, goI p, goI q, .sl (bl.map encB)], goI b] [] = some (.os 0 0 (U.kidsD bl b).length, [.arr 1 ((U.kidsD bl b).map encI)], []) := by
  have hA := aboveL_len bl
  have w := wn33 ks bs p q bl hc hl h0 hT
  have lp := loopn35 b (U.aboveL bl) (by omega) (U.aboveL bl).length 0 [] (by omega) (by simp)
  have e : U.selP (fun k => (U.nt (U.aboveL bl) k == b) && decide (b ≥ 0)) (U.aboveL bl).length 0 = U.kidsD bl b := by rw [hA]; rfl
  rw [List.nil_append, e] at lp
  refine runK (td35 ks bs p q bl b (U.aboveL bl) (U.kidsD bl b) _) ?_
  rw [take_map]
  exact ⟨w, lp, rfl⟩
end
theorem intsN (l : List Int) (hl : l.length < 1000000) : Wf Try.prog H 14 [.sl (l.map encI), .sl (l.map encI)] [] = some (goB true, [], []) := by
  have h := wf14 l l hl
  have e : U.same l l = true := by
    unfold U.same
    rw [decide_eq_true rfl, Bool.true_and]
    exact allFrom_iff.2 (fun j _ _ => decide_eq_true rfl)
  rw [e] at h
  exact h
theorem loopn9 (a : List XF) (b : Int) (K : AskedN a) : ∀ (d i : Nat), i + d = a.length →
    LoopTo Try.prog H (H 9) 0 (loopOf Try.prog 9 6) (mkS 39 [(1, goI b), (2, .pt 0 0 0), (5, goI i)] [.box [.sl (a.map encF)], .dead]) (.exit 0, mkS 39 [] [.dead, .dead])
  | 0, i, hd => by
    refine turnK (tn9_6 a b i _) ?_
    rw [List.length_map, decide_eq_false (by omega)]
    exact rfl
  | d + 1, i, hd => by
    have hi : i < a.length := by omega
    have ih := loopn9 a b K d (i + 1) (by omega)
    have hlen := K.len
    have hf := K.small _ (fun_mem hi)
    have hc := codeOk_of hf
    have hl : (U.fun_ a i).blocks.length ≤ 3000 := hf.2.2.1
    have h0 : 0 < (U.fun_ a i).blocks.length := (funcOk_of (okFunc_at K.ok (fun_mem hi))).blocks.1
    have hT := tgtOk_of K.ok hi
    have w1 := wd32 ((U.fun_ a i).kinds.map encI) ((U.fun_ a i).base.map encI) (U.fun_ a i).params (U.fun_ a i).result (U.fun_ a i).blocks hc hl h0 hT
    have w2 := wn33 ((U.fun_ a i).kinds.map encI) ((U.fun_ a i).base.map encI) (U.fun_ a i).params (U.fun_ a i).result (U.fun_ a i).blocks hc hl h0 hT
    have w3 := wd34 ((U.fun_ a i).kinds.map encI) ((U.fun_ a i).base.map encI) (U.fun_ a i).params (U.fun_ a i).result (U.fun_ a i).blocks hc hl h0 hT b
    have w4 := wn35 ((U.fun_ a i).kinds.map encI) ((U.fun_ a i).base.map encI) (U.fun_ a i).params (U.fun_ a i).result (U.fun_ a i).blocks hc hl h0 hT b
    have hA := aboveL_len (U.fun_ a i).blocks
    have hkl := kids_len (bl := (U.fun_ a i).blocks) b
    have s1 := intsN (U.aboveL (U.fun_ a i).blocks) (by omega)
    have s2 := intsN (U.kidsD (U.fun_ a i).blocks b) (by omega)
    have htk : List.take (U.fun_ a i).blocks.length (List.drop 0 ((U.aboveL (U.fun_ a i).blocks).map encI)) = (U.aboveL (U.fun_ a i).blocks).map encI := by
      rw [List.drop_zero, List.take_of_length_le (by rw [List.length_map]; omega)]
    refine turnK (tn9_6 a b i _) ?_
    rw [show (a.map encF).length = a.length from List.length_map _, decide_eq_true (show (i : Int) < a.length by omega), wrapS hi (by omega), rowF hi, getF hi]
    simp only [encF, rdI, rdL, slOf, List.getD_cons_zero, List.getD_cons_succ, int_goI, kidW_map, aboW_map, show ((U.fun_ a i).blocks.map encB).length = (U.fun_ a i).blocks.length from List.length_map _, htk, take_map]
    exact ⟨⟨by omega, by trivial⟩, w1, w2, s1, w3, w4, s2, ih⟩
theorem wn9 (p : XP) (b : Int) (hp : HandP p) : Wf Try.prog H 9 [.agg (encP p), goI b] [] = some (goB true, [], []) := by
  refine runK (tn9 p.funcs b (U.out06 p) _) ⟨wn29, wn30 p hp, ?_⟩
  cases ho : U.out06 p with
  | true => exact rfl
  | false => exact ⟨loopn9 p.funcs b (askedN_of ho) p.funcs.length 0 (by omega), rfl⟩
end Go.Proofs.Ytabdcfcnngnnoaa.E
