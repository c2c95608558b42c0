/- The statements of layer 6: what they ask about; each reached block but 0 is just one block's kid. -/
import Derived.Test.Ytabdcfcnngnnoaa06d
import Derived.Test.Ytabdcfcnngnnoaa06i
import Derived.Test.YtabdcfcnngnnoaaEA
set_option linter.unusedVariables false
set_option linter.unusedSectionVars false
set_option linter.unusedSimpArgs false
set_option maxRecDepth 100000
namespace Go.Proofs.Ytabdcfcnngnnoaa.E
open Go

namespace U
def mxn2 (a b : Int) : Int := if a < b then b else a
def mxn (a : List XF) : Nat → Nat → Int → Int
  | 0, i, n => n
  | d + 1, i, n => mxn a d (i + 1) (mxn2 n ((fun_ a i).blocks.length : Int))
def out06 (p : XP) : Bool := decide (mxn p.funcs (min p.funcs.length 9) 0 0 > 20) || (great p || !okProg p.funcs)
end U
theorem loopn30_3 (a : List XF) (ha : Long a.length) : ∀ (d i : Nat) (n : Int), i + d = min a.length 9 →
    LoopTo Try.prog H (H 30) 0 (loopOf Try.prog 30 3) (mkS 36 [(1, .pt 0 0 0), (3, goI n), (4, goI i)] [.box [.sl (a.map encF)]]) (.exit 0, mkS 36 [(1, .pt 0 0 0), (3, goI (U.mxn a d i n))] [.box [.sl (a.map encF)]])
  | 0, i, n, hd => by
    refine turnK (tn30_3 a n i _) ?_
    rw [List.length_map]
    by_cases h : (i : Int) < a.length
    · rw [decide_eq_true h, decide_eq_false (show ¬ (i : Int) < 9 by omega)]; exact rfl
    · rw [decide_eq_false h]; exact rfl
  | d + 1, i, n, hd => by
    have hi : i < a.length := by omega
    have ih := loopn30_3 a ha d (i + 1) (U.mxn2 n ((U.fun_ a i).blocks.length : Int)) (by omega)
    refine turnK (tn30_3 a n i _) ?_
    rw [List.length_map, decide_eq_true (show (i : Int) < a.length by omega), decide_eq_true (show (i : Int) < 9 by omega), wrapS (show i < 9 by omega) (by omega), rowF hi, getF hi]
    simp only [encF, rdI, rdL, slOf, List.getD_cons_zero, List.getD_cons_succ, int_goI, List.length_map, if_true]
    exact ⟨⟨by omega, by trivial⟩, ih⟩
theorem wn30 (p : XP) (hp : HandP p) : Wf Try.prog H 30 [.agg (encP p)] [] = some (goB (U.out06 p), [], []) := by
  refine runK (tn30 p.funcs (U.mxn p.funcs (min p.funcs.length 9) 0 0) (U.great p) (if U.okProg p.funcs then 0 else 5) _) ⟨loopn30_3 p.funcs hp.1 (min p.funcs.length 9) 0 0 (by omega), ?_⟩
  unfold U.out06
  cases decide (U.mxn p.funcs (min p.funcs.length 9) 0 0 > 20) with
  | true => exact rfl
  | false =>
    refine ⟨wf43 p hp, ?_⟩
    cases hg : U.great p with
    | true => exact rfl
    | false =>
      obtain ⟨h1, h2⟩ := small_of hg
      refine ⟨wf44 p.funcs h1 h2, ?_⟩
      cases U.okProg p.funcs with
      | true => exact rfl
      | false => exact rfl
/-- What is known of a program that is asked about. -/
structure AskedN (a : List XF) : Prop where
  len : a.length ≤ 3000
  small : ∀ f ∈ a, SmallF f
  ok : U.okProg a = true
theorem askedN_of {p : XP} (h : U.out06 p = false) : AskedN p.funcs := by
  unfold U.out06 at h
  rw [Bool.or_eq_false_iff, Bool.or_eq_false_iff] at h
  obtain ⟨h1, h2, h3⟩ := h
  obtain ⟨g1, g2⟩ := small_of h2
  exact ⟨g1, g2, by simpa using h3⟩
theorem codeOk_of {f : XF} (h : SmallF f) : CodeOk f.blocks := fun b hb => (h.2.2.2 b hb).1
theorem domW_map (bl : List XB) (a b : Int) : U.domW (bl.map encB) a b = U.domB (U.nextAt bl) bl.length a b := by unfold U.domW; rw [decBs_map, List.length_map]
theorem meetW_map (bl : List XB) (a b : Int) : U.meetW (bl.map encB) a b = U.meetD (U.nextAt bl) bl.length a b := by unfold U.meetW; rw [decBs_map, List.length_map]
theorem kidW_map (bl : List XB) (b : Int) : U.kidW (bl.map encB) b = U.kidsD bl b := by unfold U.kidW; rw [decBs_map]
theorem aboW_map (bl : List XB) : U.aboW (bl.map encB) = U.aboveL bl := by unfold U.aboW; rw [decBs_map]
/-- The tree of a function. -/
structure TreeN (bl : List XB) (od pl : List Int) : Prop where
  b : Base (U.nextAt bl) bl.length od pl
  x : Exact (U.nextAt bl) bl.length pl (U.aboveL bl)
  len : od.length ≤ bl.length
theorem tree_of (bl : List XB) (hc : CodeOk bl) (hl : bl.length ≤ 3000) (h0 : 0 < bl.length) (hT : TgtOk bl) : ∃ od pl, TreeN bl od pl := by
  obtain ⟨od, pl, ab, dp, w, B, ho, X, Q⟩ := wd48 [] [] 0 0 bl hc hl h0 hT
  have e := ab_is hl B X Q
  subst e
  have hll := left_len (nx := U.nextAt bl) bl.length
  exact ⟨od, pl, B, X, by rw [ho, List.length_reverse]; omega⟩
section
variable {bl : List XB} {od pl : List Int} (T : TreeN bl od pl)
include T
/-- A block's next above is one above it. -/
theorem TreeN.up {x : Nat} (hx : x < bl.length) (h : 0 ≤ U.nt (U.aboveL bl) x) : x ≠ 0 ∧ 0 ≤ U.nt pl x ∧ (U.nt (U.aboveL bl) x).toNat < bl.length ∧ U.nt pl (U.nt (U.aboveL bl) x).toNat < U.nt pl x := by
  have hp : 0 ≤ U.nt pl x := by
    refine Decidable.byContradiction fun q => ?_
    have := T.x.tr.un x hx (by omega)
    omega
  have hd := (T.x.all x hx hp).1
  have hy := df_up T.b T.x.tr hd h
  exact ⟨fun e => by subst e; have := T.x.tr.a0; omega, hp, hy.1.1, hy.2⟩
theorem TreeN.reach {x : Nat} (hx : x < bl.length) : U.domB (U.nextAt bl) bl.length x x = true ↔ 0 ≤ U.nt pl x := by
  rw [domB_nat T.b]
  constructor
  · exact fun h => (T.b.rch hx).2 h.2.2.1
  · exact fun h => ⟨hx, hx, dom_refl ((T.b.rch hx).1 h)⟩
theorem TreeN.above {x : Nat} (hx : x < bl.length) (h0 : x ≠ 0) : 0 ≤ U.nt (U.aboveL bl) x ↔ 0 ≤ U.nt pl x := by
  constructor
  · exact fun h => (T.up hx h).2.1
  · intro h
    rcases (T.x.all x hx h).1.2.2 with q | q
    · exact absurd q h0
    · exact q
theorem TreeN.kid (b : Int) (x : Int) : x ∈ U.kidsD bl b ↔ ∃ y : Nat, x = y ∧ y < bl.length ∧ U.nt (U.aboveL bl) y = b ∧ 0 ≤ b := by
  unfold U.kidsD U.kidsOf
  rw [selP_mem]
  constructor
  · rintro ⟨y, h1, _, h2, h3⟩
    rw [Bool.and_eq_true, beq_iff_eq, decide_eq_true_iff] at h3
    exact ⟨y, h1, by omega, h3.1, h3.2⟩
  · rintro ⟨y, h1, h2, h3, h4⟩
    refine ⟨y, h1, Nat.zero_le _, by omega, ?_⟩
    rw [Bool.and_eq_true, beq_iff_eq, decide_eq_true_iff]
    exact ⟨h3, h4⟩
omit T in
theorem kids_len (b : Int) : (U.kidsD bl b).length ≤ bl.length := selP_len _ _ _
omit T in
theorem kids_nd (b : Int) : (U.kidsD bl b).Nodup := (selP_sorted _ bl.length 0).imp fun h => by omega
end
namespace U
def inc (c : List Int) (k : Int) : List Int := c.set k.toNat (nt c k.toNat + 1)
end U
theorem inc_len (l : List Int) : ∀ c : List Int, (l.foldl U.inc c).length = c.length := by
  induction l with
  | nil => intro c; rfl
  | cons k l ih => intro c; rw [List.foldl_cons, ih]; unfold U.inc; rw [List.length_set]
theorem inc_at : ∀ (l c : List Int) (x : Nat), (∀ y ∈ l, 0 ≤ y ∧ y < c.length) → l.Nodup → U.nt (l.foldl U.inc c) x = U.nt c x + if (x : Int) ∈ l then 1 else 0
  | [], c, x, _, _ => by simp
  | k :: l, c, x, h, hn => by
    obtain ⟨k0, k1⟩ := h k (by simp)
    rw [List.nodup_cons] at hn
    rw [List.foldl_cons, inc_at l (U.inc c k) x (fun y hy => by unfold U.inc; rw [List.length_set]; exact h y (List.mem_cons_of_mem _ hy)) hn.2]
    unfold U.inc
    rw [nt_set _ _ (by omega)]
    by_cases e : x = k.toNat
    · have hx : (x : Int) = k := by omega
      rw [if_pos e, hx, if_neg hn.1, if_pos (by simp), ← e]; omega
    · rw [if_neg e]
      have : ((x : Int) ∈ k :: l) = ((x : Int) ∈ l) := by
        rw [List.mem_cons, eq_iff_iff]
        exact ⟨fun h => h.resolve_left (by omega), .inr⟩
      simp only [this]
theorem loopn15 (X Y : List AV) (i n b : Nat) (hn : n ≤ 3000) (l : List Int) (hll : l.length ≤ 3000) (hr : ∀ x ∈ l, 1 ≤ x ∧ x < n) : ∀ (d k : Nat) (c : List Int), k + d = l.length → c.length = n → (∀ x, x < n → 0 ≤ U.nt c x ∧ U.nt c x ≤ 3000 + k) →
    LoopTo Try.prog H (H 11) 0 (loopOf Try.prog 11 15) (mkS 90 [(1, .pt 0 0 0), (3, goI i), (4, .pt 1 0 0), (5, .os 2 0 n), (6, goI b), (7, .sl (l.map encI)), (8, goI k)] [.box X, .box Y, .arr 1 (c.map encI)])
      (.exit 4, mkS 90 [(1, .pt 0 0 0), (3, goI i), (4, .pt 1 0 0), (5, .os 2 0 n), (6, goI b)] [.box X, .box Y, .arr 1 (((l.drop k).foldl U.inc c).map encI)])
  | 0, k, c, hd, hcl, hcr => by
    rw [List.drop_of_length_le (by omega)]
    refine turnK (tn11_15 X Y i n b k c l _) ?_
    rw [List.length_map, decide_eq_false (by omega)]
    exact rfl
  | d + 1, k, c, hd, hcl, hcr => by
    have hk : k < l.length := by omega
    have ed : l.drop k = U.nt l k :: l.drop (k + 1) := drop_cons' l hk
    obtain ⟨y0, y1⟩ := hr (U.nt l k) (getD_mem hk)
    have e1 : rdI (rowAt (l.map encI) k) 0 = U.nt l k := by rw [rowI hk]; rfl
    have hg := getI hk
    generalize U.nt l k = y at ed y0 y1 e1 hg
    obtain ⟨y, rfl⟩ := Int.eq_ofNat_of_zero_le (show 0 ≤ y by omega)
    have hy : y < c.length := by omega
    obtain ⟨v0, v1⟩ := hcr y (by omega)
    have ih := loopn15 X Y i n b hn l hll hr d (k + 1) (U.inc c y) (by omega) (by unfold U.inc; rw [List.length_set]; exact hcl) (fun x hx => by
      obtain ⟨q1, q2⟩ := hcr x hx
      unfold U.inc
      rw [Int.toNat_natCast, nt_set _ _ hy]
      split <;> omega)
    have e2 : rdI (rowAt (c.map encI) y) 0 = U.nt c y := by rw [rowI hy]; rfl
    have hin : 0 ≤ (y : Int) ∧ (y : Int) < (n : Int) ∧ y < (c.map encI).length := ⟨by omega, by omega, by rw [List.length_map]; exact hy⟩
    rw [ed, List.foldl_cons]
    refine turnK (tn11_15 X Y i n b k c l _) ?_
    rw [show (l.map encI).length = l.length from List.length_map _, decide_eq_true (show (k : Int) < l.length by omega), e1, hg, decide_eq_false (show ¬ (y : Int) < 1 by omega), decide_eq_false (show ¬ (y : Int) ≥ n by omega), Int.toNat_natCast, Nat.zero_add, e2, getI hy, wrapS hk (by omega), wrap64 (by omega) (by omega), set_mapI]
    exact ⟨⟨by omega, rfl⟩, ⟨by omega, rfl⟩, ⟨by omega, rfl⟩, hin, rfl, hin, rfl, ih⟩
/-- So often was each block counted, behind the kids of the blocks below b. -/
def CntN (bl : List XB) (b : Nat) (c : List Int) : Prop := c.length = bl.length ∧ ∀ x, x < bl.length → U.nt c x = if 0 ≤ U.nt (U.aboveL bl) x ∧ U.nt (U.aboveL bl) x < b then 1 else 0
section
variable (X ks bs : List (List AV)) (p q : Int) (bl : List XB) (hc : CodeOk bl) (hl : bl.length ≤ 3000) (h0 : 0 < bl.length) (hT : TgtOk bl)
include hc hl h0 hT
theorem loopn11 (i : Nat) {od pl : List Int} (T : TreeN bl od pl) : ∀ (d b : Nat) (c : List Int), b + d = bl.length → CntN bl b c → ∃ c2,
    LoopTo Try.prog H (H 11) 0 (loopOf Try.prog 11 11) (mkS 90 [(1, .pt 0 0 0), (3, goI i), (4, .pt 1 0 0), (5, .os 2 0 bl.length), (6, goI b)] [.box [.sl X], .box [.sl ks, .sl bs, goI p, goI q, .sl (bl.map encB)], .arr 1 (c.map encI)])
      (.exit 2, mkS 90 [(1, .pt 0 0 0), (3, goI i), (4, .pt 1 0 0), (5, .os 2 0 bl.length)] [.box [.sl X], .box [.sl ks, .sl bs, goI p, goI q, .sl (bl.map encB)], .arr 1 (c2.map encI)]) ∧ CntN bl bl.length c2 := by
  intro d
  induction d with
  | zero =>
    intro b c hd C
    have : b = bl.length := by omega
    subst this
    refine ⟨c, turnK (tn11_11 X p q ks bs bl i bl.length bl.length c [] _) ?_, C⟩
    rw [List.length_map, decide_eq_false (by omega)]
    exact rfl
  | succ d ih =>
    intro b c hd C
    have hb : b < bl.length := by omega
    have hkr : ∀ x ∈ U.kidsD bl b, 1 ≤ x ∧ x < bl.length := fun x hx => by
      obtain ⟨y, h1, h2, h3, h4⟩ := (T.kid b x).1 hx
      have := (T.up h2 (by omega)).1
      omega
    have C2 : CntN bl (b + 1) ((U.kidsD bl b).foldl U.inc c) := by
      refine ⟨by rw [inc_len]; exact C.1, fun x hx => ?_⟩
      rw [inc_at _ _ _ (fun y hy => by have := hkr y hy; rw [C.1]; omega) (kids_nd _), C.2 x hx]
      have hm : ((x : Int) ∈ U.kidsD bl b) ↔ U.nt (U.aboveL bl) x = b := by
        rw [T.kid]
        constructor
        · rintro ⟨y, h1, h2, h3, _⟩
          have : x = y := by omega
          subst this; exact h3
        · exact fun h => ⟨x, rfl, hx, h, by omega⟩
      by_cases e : U.nt (U.aboveL bl) x = b
      · rw [if_pos (hm.2 e), if_neg (by omega), if_pos (by omega)]; rfl
      · rw [if_neg (fun h => e (hm.1 h))]
        by_cases g : 0 ≤ U.nt (U.aboveL bl) x ∧ U.nt (U.aboveL bl) x < b
        · rw [if_pos g, if_pos (by omega)]; rfl
        · rw [if_neg g, if_neg (by omega)]; rfl
    obtain ⟨c2, w1, w2⟩ := ih (b + 1) _ (by omega) C2
    have hkl := kids_len (bl := bl) (b : Int)
    have lp := loopn15 [.sl X] [.sl ks, .sl bs, goI p, goI q, .sl (bl.map encB)] i bl.length b hl (U.kidsD bl b) (by omega) hkr (U.kidsD bl b).length 0 c (by omega) C.1 (fun x hx => by rw [C.2 x hx]; split <;> omega)
    rw [List.drop_zero] at lp
    have w := wd34 ks bs p q bl hc hl h0 hT b
    refine ⟨c2, turnK (tn11_11 X p q ks bs bl i bl.length b c ((U.kidsD bl b).foldl U.inc c) _) ?_, w2⟩
    rw [List.length_map, decide_eq_true (show (b : Int) < bl.length by omega), kidW_map, take_map, wrapS hb (by omega)]
    exact ⟨w, lp, w1⟩
theorem loopn21 (i : Nat) {od pl : List Int} (T : TreeN bl od pl) (c : List Int) (C : CntN bl bl.length c) : ∀ (d b : Nat), b + d = bl.length →
    LoopTo Try.prog H (H 11) 0 (loopOf Try.prog 11 21) (mkS 90 [(1, .pt 0 0 0), (3, goI i), (4, .pt 1 0 0), (5, .os 2 0 bl.length), (9, goI b)] [.box [.sl X], .box [.sl ks, .sl bs, goI p, goI q, .sl (bl.map encB)], .arr 1 (c.map encI)])
      (.exit 6, mkS 90 [(1, .pt 0 0 0), (3, goI i)] [.box [.sl X], .dead, .dead])
  | 0, b, hd => by
    refine turnK (tn11_21 X p q ks bs bl i bl.length b c _) ?_
    rw [decide_eq_false (by omega)]
    exact rfl
  | d + 1, b, hd => by
    have hb : b < bl.length := by omega
    have ih := loopn21 i T c C d (b + 1) (by omega)
    have hbc : b < c.length := by rw [C.1]; exact hb
    have e2 : rdI (rowAt (c.map encI) b) 0 = U.nt c b := by rw [rowI hbc]; rfl
    have hin : 0 ≤ (b : Int) ∧ (b : Int) < (bl.length : Int) ∧ b < (c.map encI).length := ⟨by omega, by omega, by rw [List.length_map]; exact hbc⟩
    have hcb := C.2 b hb
    refine turnK (tn11_21 X p q ks bs bl i bl.length b c _) ?_
    rw [decide_eq_true (show (b : Int) < bl.length by omega), Nat.zero_add, e2, getI hbc, wrapS hb (by omega), domW_map]
    by_cases hb0 : b = 0
    · subst hb0
      have h1 : U.nt c 0 = 0 := by rw [hcb, T.x.tr.a0]; rfl
      rw [decide_eq_false (by omega), h1]
      exact ⟨hin, rfl, ih⟩
    · rw [decide_eq_true (show ((b : Nat) : Int) > 0 by omega)]
      refine ⟨wd31 ks bs p q bl hc hl h0 hT b b, ?_⟩
      cases hD : U.domB (U.nextAt bl) bl.length b b with
      | true =>
        have h2 := (T.above hb hb0).2 ((T.reach hb).1 hD)
        have h3 := (T.up hb h2).2.2.1
        have h1 : U.nt c b = 1 := by rw [hcb, if_pos (by omega)]
        rw [h1]
        exact ⟨hin, rfl, ih⟩
      | false =>
        have h2 : ¬ 0 ≤ U.nt (U.aboveL bl) b := fun h => by
          rw [(T.reach hb).2 ((T.above hb hb0).1 h)] at hD; cases hD
        have h1 : U.nt c b = 0 := by rw [hcb, if_neg (by omega)]
        rw [h1]
        exact ⟨hin, rfl, ih⟩
end
theorem loopn6 (a : List XF) (K : AskedN a) : ∀ (d i : Nat), i + d = a.length →
    LoopTo Try.prog H (H 11) 0 (loopOf Try.prog 11 6) (mkS 90 [(1, .pt 0 0 0), (3, goI i)] [.box [.sl (a.map encF)], .dead, .dead]) (.exit 0, mkS 90 [] [.dead, .dead, .dead])
  | 0, i, hd => by
    refine turnK (tn11_6 a i 0 [] _) ?_
    rw [List.length_map, decide_eq_false (by omega)]
    exact rfl
  | d + 1, i, hd => by
    have hi : i < a.length := by omega
    have ih := loopn6 a K d (i + 1) (by omega)
    have hlen := K.len
    have hf := K.small _ (fun_mem hi)
    have hc := codeOk_of hf
    have hl : (U.fun_ a i).blocks.length ≤ 3000 := hf.2.2.1
    have h0 : 0 < (U.fun_ a i).blocks.length := (funcOk_of (okFunc_at K.ok (fun_mem hi))).blocks.1
    have hT := tgtOk_of K.ok hi
    obtain ⟨od, pl, T⟩ := tree_of (U.fun_ a i).blocks hc hl h0 hT
    have C0 : CntN (U.fun_ a i).blocks 0 (List.replicate (U.fun_ a i).blocks.length 0) := ⟨by simp, fun x hx => by rw [nt_rep _ _ _ hx, if_neg (by omega)]⟩
    obtain ⟨c2, l1, C2⟩ := loopn11 (a.map encF) ((U.fun_ a i).kinds.map encI) ((U.fun_ a i).base.map encI) (U.fun_ a i).params (U.fun_ a i).result (U.fun_ a i).blocks hc hl h0 hT i T (U.fun_ a i).blocks.length 0 _ (by omega) C0
    have l2 := loopn21 (a.map encF) ((U.fun_ a i).kinds.map encI) ((U.fun_ a i).base.map encI) (U.fun_ a i).params (U.fun_ a i).result (U.fun_ a i).blocks hc hl h0 hT i T c2 C2 (U.fun_ a i).blocks.length 0 (by omega)
    have er : (List.replicate (U.fun_ a i).blocks.length (0 : Int)).map encI = List.replicate (U.fun_ a i).blocks.length [goI 0] := by rw [List.map_replicate]; rfl
    rw [er] at l1
    refine turnK (tn11_6 a i (U.fun_ a i).blocks.length c2 _) ?_
    rw [show (a.map encF).length = a.length from List.length_map _, decide_eq_true (show (i : Int) < a.length by omega), wrapS hi (by omega), rowF hi, getF hi]
    simp only [encF, rdI, rdL, slOf, List.getD_cons_zero, List.getD_cons_succ, int_goI, List.length_map, List.length_replicate]
    exact ⟨⟨by omega, by trivial⟩, ⟨by omega, by omega, by omega⟩, l1, l2, ih⟩
theorem wn11 (p : XP) (hp : HandP p) : Wf Try.prog H 11 [.agg (encP p)] [] = some (goB true, [], []) := by
  refine runK (tn11 p.funcs (U.out06 p) _) ⟨wn29, wn30 p hp, ?_⟩
  cases ho : U.out06 p with
  | true => exact rfl
  | false => exact ⟨loopn6 p.funcs (askedN_of ho) p.funcs.length 0 (by omega), rfl⟩
end Go.Proofs.Ytabdcfcnngnnoaa.E
set_option linter.unusedVariables false
set_option linter.unusedSectionVars false
set_option linter.unusedSimpArgs false
set_option maxRecDepth 100000
namespace Go.Proofs.Ytabdcfcnngnnoaa.E
open Go
theorem remN_in {u n : Int} (hu : 0 ≤ u ∧ u ≤ 255) (hn : 0 < n) : IntKind.i64.wrap u = u ∧ 0 ≤ Int.tmod u n ∧ Int.tmod u n < n := by
  refine ⟨by rw [wrap64] <;> omega, Int.tmod_nonneg _ hu.1, Int.tmod_lt_of_pos _ hn⟩
section
variable {bl : List XB} {od pl : List Int} (T : TreeN bl od pl)
include T
theorem TreeN.dom {a x : Nat} (hx : x < bl.length) : U.domB (U.nextAt bl) bl.length a x = true ↔ 0 ≤ U.nt pl x ∧ Up (U.aboveL bl) x a := by
  rw [domB_nat T.b]
  constructor
  · intro h
    have hr := (T.b.rch hx).2 h.2.2.1
    exact ⟨hr, (up_iff T.b T.x hx hr).2 h.2.2⟩
  · intro h
    have hd := (up_iff T.b T.x hx h.1).1 h.2
    exact ⟨(up_df T.b T.x.tr h.2 (T.x.all x hx h.1).1).1, hx, hd⟩
theorem TreeN.zero {x : Nat} (hx : x < bl.length) : U.domB (U.nextAt bl) bl.length 0 x = true ↔ 0 ≤ U.nt pl x := by
  show U.domB (U.nextAt bl) bl.length ((0 : Nat) : Int) x = true ↔ _
  rw [T.dom hx]
  exact ⟨fun h => h.1, fun h => ⟨h, (up_iff T.b T.x hx h).2 (dom_zero ((T.b.rch hx).1 h))⟩⟩
theorem TreeN.meet {a b : Nat} (ha : a < bl.length) (hb : b < bl.length) (ra : 0 ≤ U.nt pl a) (rb : 0 ≤ U.nt pl b) : ∃ m : Nat, U.meetD (U.nextAt bl) bl.length a b = m ∧ U.meetD (U.nextAt bl) bl.length b a = m ∧ Up (U.aboveL bl) a m ∧ Up (U.aboveL bl) b m ∧ ∀ z, Up (U.aboveL bl) a z → Up (U.aboveL bl) b z → Up (U.aboveL bl) m z := by
  have da := (T.x.all a ha ra).1
  have db := (T.x.all b hb rb).1
  classical
  obtain ⟨m, _, m2, m3, m4⟩ := firstUp_ok T.b T.x da db (fun x => decide (Up (U.aboveL bl) a x.toNat)) (fun x => by rw [decide_eq_true_iff, Int.toNat_natCast]) (U.nt pl b + 1).toNat b (.refl _) (by omega) (fun z _ h => h)
  exact ⟨m, meetD_is T.b T.x ha hb ra rb m2 m3 m4, meetD_is T.b T.x hb ha rb ra m3 m2 (fun z h1 h2 => m4 z h2 h1), m2, m3, m4⟩
end
section
variable (X ks bs : List (List AV)) (u v p q : Int) (bl : List XB) (hc : CodeOk bl) (hl : bl.length ≤ 3000) (h0 : 0 < bl.length) (hT : TgtOk bl)
include hc hl h0 hT
theorem loopn18 (i : Nat) (A B : Int) (l : List Int) (hll : l.length ≤ 3000) (hno : ∀ x ∈ l, ¬ (U.domB (U.nextAt bl) bl.length x A = true ∧ U.domB (U.nextAt bl) bl.length x B = true)) : ∀ (d k : Nat), k + d = l.length →
    LoopTo Try.prog H (H 10) 0 (loopOf Try.prog 10 18) (mkS 103 [(2, .pt 0 0 0), (3, .pt 1 0 0), (5, goI i), (6, .pt 2 0 0), (7, goI A), (8, goI B), (10, .sl (l.map encI)), (11, goI k)] [.box [.sl X], .box [u8 u, u8 v], .box [.sl ks, .sl bs, goI p, goI q, .sl (bl.map encB)]])
      (.exit 2, mkS 103 [(2, .pt 0 0 0), (3, .pt 1 0 0), (5, goI i)] [.box [.sl X], .box [u8 u, u8 v], .dead])
  | 0, k, hd => by
    refine turnK (tn10_18 X u v A B p q ks bs bl i l k _) ?_
    rw [List.length_map, decide_eq_false (by omega)]
    exact rfl
  | d + 1, k, hd => by
    have hk : k < l.length := by omega
    have ih := loopn18 i A B l hll hno d (k + 1) (by omega)
    have hn := hno (U.nt l k) (getD_mem hk)
    have e1 : rdI (rowAt (l.map encI) k) 0 = U.nt l k := by rw [rowI hk]; rfl
    have hg := getI hk
    generalize U.nt l k = y at hn e1 hg
    have w1 := wd31 ks bs p q bl hc hl h0 hT y A
    have w2 := wd31 ks bs p q bl hc hl h0 hT y B
    refine turnK (tn10_18 X u v A B p q ks bs bl i l k _) ?_
    rw [List.length_map, decide_eq_true (show (k : Int) < l.length by omega), e1, hg, domW_map, domW_map, wrapS hk (by omega)]
    refine ⟨⟨by omega, rfl⟩, w1, ?_⟩
    cases h1 : U.domB (U.nextAt bl) bl.length y A with
    | false => exact ih
    | true =>
      refine ⟨⟨by omega, rfl⟩, w2, ?_⟩
      cases h2 : U.domB (U.nextAt bl) bl.length y B with
      | false => exact ih
      | true => exact absurd ⟨h1, h2⟩ hn
end
theorem loopn10 (a : List XF) (u v : Int) (hu : 0 ≤ u ∧ u ≤ 255) (hv : 0 ≤ v ∧ v ≤ 255) (K : AskedN a) : ∀ (d i : Nat), i + d = a.length →
    LoopTo Try.prog H (H 10) 0 (loopOf Try.prog 10 6) (mkS 103 [(2, .pt 0 0 0), (3, .pt 1 0 0), (5, goI i)] [.box [.sl (a.map encF)], .box [u8 u, u8 v], .dead]) (.exit 0, mkS 103 [] [.dead, .dead, .dead])
  | 0, i, hd => by
    refine turnK (tn10_6 a u v i _) ?_
    rw [List.length_map, decide_eq_false (by omega)]
    exact rfl
  | d + 1, i, hd => by
    have hi : i < a.length := by omega
    have ih := loopn10 a u v hu hv K d (i + 1) (by omega)
    have hlen := K.len
    have hf := K.small _ (fun_mem hi)
    have hc := codeOk_of hf
    have hl : (U.fun_ a i).blocks.length ≤ 3000 := hf.2.2.1
    have h0 : 0 < (U.fun_ a i).blocks.length := (funcOk_of (okFunc_at K.ok (fun_mem hi))).blocks.1
    have hT := tgtOk_of K.ok hi
    obtain ⟨od, pl, T⟩ := tree_of (U.fun_ a i).blocks hc hl h0 hT
    obtain ⟨e1, a1, a2⟩ := remN_in (n := (U.fun_ a i).blocks.length) hu (by omega)
    obtain ⟨e2, b1, b2⟩ := remN_in (n := (U.fun_ a i).blocks.length) hv (by omega)
    refine turnK (tn10_6 a u v i _) ?_
    rw [List.length_map, decide_eq_true (show (i : Int) < a.length by omega), wrapS hi (by omega), rowF hi, getF hi, e1, e2]
    simp only [encF, rdI, rdL, slOf, List.getD_cons_zero, List.getD_cons_succ, int_goI, domW_map, meetW_map, kidW_map, take_map]
    rw [List.length_map]
    generalize Int.tmod u (U.fun_ a i).blocks.length = A at a1 a2 ⊢
    generalize Int.tmod v (U.fun_ a i).blocks.length = B at b1 b2 ⊢
    obtain ⟨A, rfl⟩ := Int.eq_ofNat_of_zero_le a1
    obtain ⟨B, rfl⟩ := Int.eq_ofNat_of_zero_le b1
    have hA : A < (U.fun_ a i).blocks.length := by omega
    have hB : B < (U.fun_ a i).blocks.length := by omega
    have wM := wd36 ((U.fun_ a i).kinds.map encI) ((U.fun_ a i).base.map encI) (U.fun_ a i).params (U.fun_ a i).result (U.fun_ a i).blocks hc hl h0 hT
    have wD := wd31 ((U.fun_ a i).kinds.map encI) ((U.fun_ a i).base.map encI) (U.fun_ a i).params (U.fun_ a i).result (U.fun_ a i).blocks hc hl h0 hT
    have wK := wd34 ((U.fun_ a i).kinds.map encI) ((U.fun_ a i).base.map encI) (U.fun_ a i).params (U.fun_ a i).result (U.fun_ a i).blocks hc hl h0 hT
    refine ⟨⟨by omega, by trivial⟩, by decide, by omega, by decide, by omega, wM A B, wD 0 A, ?_⟩
    cases hA0 : U.domB (U.nextAt (U.fun_ a i).blocks) (U.fun_ a i).blocks.length 0 A with
    | false =>
      have e : U.meetD (U.nextAt (U.fun_ a i).blocks) (U.fun_ a i).blocks.length A B = -1 := meetD_no T.b fun h => by
        rw [(T.zero hA).2 h.2.2.2.2.1] at hA0; cases hA0
      rw [e]
      exact ih
    | true =>
      refine ⟨wD 0 B, ?_⟩
      cases hB0 : U.domB (U.nextAt (U.fun_ a i).blocks) (U.fun_ a i).blocks.length 0 B with
      | false =>
        have e : U.meetD (U.nextAt (U.fun_ a i).blocks) (U.fun_ a i).blocks.length A B = -1 := meetD_no T.b fun h => by
          rw [(T.zero hB).2 h.2.2.2.2.2] at hB0; cases hB0
        rw [e]
        exact ih
      | true =>
        have rA := (T.zero hA).1 hA0
        have rB := (T.zero hB).1 hB0
        obtain ⟨m, m1, m2, m3, m4, m5⟩ := T.meet hA hB rA rB
        have wM2 := wM B A
        have wK2 := wK m
        have dA := (T.dom (a := m) hA).2 ⟨rA, m3⟩
        have dB := (T.dom (a := m) hB).2 ⟨rB, m4⟩
        have wA := wD m A
        have wB := wD m B
        have hkl := kids_len (bl := (U.fun_ a i).blocks) (m : Int)
        have lp := loopn18 (a.map encF) ((U.fun_ a i).kinds.map encI) ((U.fun_ a i).base.map encI) u v (U.fun_ a i).params (U.fun_ a i).result (U.fun_ a i).blocks hc hl h0 hT i A B (U.kidsD (U.fun_ a i).blocks m) (by omega) (fun x hx h => by
          obtain ⟨y, y1, y2, y3, y4⟩ := (T.kid m x).1 hx
          subst y1
          have u1 := ((T.dom hA).1 h.1).2
          have u2 := ((T.dom hB).1 h.2).2
          have := up_le T.b T.x.tr (m5 y u1 u2) (up_df T.b T.x.tr m3 (T.x.all A hA rA).1)
          have hy := T.up y2 (by omega)
          rw [y3, Int.toNat_natCast] at hy
          omega) (U.kidsD (U.fun_ a i).blocks m).length 0 (by omega)
        rw [m2] at wM2
        rw [dA] at wA
        rw [dB] at wB
        rw [m1, m2, dA, dB]
        refine ⟨wA, wB, wM2, ?_⟩
        rw [show ((m : Int) == (m : Int)) = true by simp]
        exact ⟨wK2, lp, ih⟩
theorem wn10 (p : XP) (u v : Int) (hu : 0 ≤ u ∧ u ≤ 255) (hv : 0 ≤ v ∧ v ≤ 255) (hp : HandP p) : Wf Try.prog H 10 [.agg (encP p), .agg [.v (.int .u8 u), .v (.int .u8 v)]] [] = some (goB true, [], []) := by
  refine runK (tn10 p.funcs u v (U.out06 p) _) ⟨wn29, wn30 p hp, ?_⟩
  cases ho : U.out06 p with
  | true => exact rfl
  | false => exact ⟨loopn10 p.funcs u v hu hv (askedN_of ho) p.funcs.length 0 (by omega), rfl⟩
end Go.Proofs.Ytabdcfcnngnnoaa.E
set_option linter.unusedVariables false
set_option linter.unusedSectionVars false
set_option linter.unusedSimpArgs false
set_option maxRecDepth 100000
namespace Go.Proofs.Ytabdcfcnngnnoaa.E
open Go
def encb3 (x : Int × Int × Int) : List AV := [.v (.int .u8 x.1), .v (.int .u8 x.2.1), .v (.int .u8 x.2.2)]
theorem EOpen.byte3 {P : Program} {t e : TypeId} (ht : P.underlying t = some (.array 3 e)) (he : P.underlying e = some (.int .u8)) (hc : P.cellsOf e = 1) (hc3 : P.cellsOf t = 3) : EOpen P t encb3 (fun x => (Lit.int .u8 x.1).wf = true ∧ (Lit.int .u8 x.2.1).wf = true ∧ (Lit.int .u8 x.2.2).wf = true) := EOpen.arr3 ht (EOpen.int he hc) hc hc3
section
variable (X ks bs : List (List AV)) (u v w p q : Int) (bl : List XB) (hc : CodeOk bl) (hl : bl.length ≤ 3000) (h0 : 0 < bl.length) (hT : TgtOk bl)
include hc hl h0 hT
theorem loopn19 (i : Nat) {od pl : List Int} (T : TreeN bl od pl) (c : Nat) (hcn : c < bl.length) (rc : 0 ≤ U.nt pl c) : ∀ (k x s : Nat), U.nt pl x < k → Up (U.aboveL bl) c x → (s : Int) + U.nt pl x ≤ U.nt pl c →
    LoopTo Try.prog H (H 8) 0 (loopOf Try.prog 8 19) (mkS 132 [(2, .pt 0 0 0), (3, .pt 1 0 0), (5, goI i), (6, .pt 2 0 0), (7, goI bl.length), (10, goI c), (11, .sl ((U.aboveL bl).map encI)), (12, goI x), (13, goI s)] [.box [.sl X], .box [u8 u, u8 v, u8 w], .box [.sl ks, .sl bs, goI p, goI q, .sl (bl.map encB)]])
      (.exit 2, mkS 132 [(2, .pt 0 0 0), (3, .pt 1 0 0), (5, goI i), (6, .pt 2 0 0), (10, goI c), (12, goI 0)] [.box [.sl X], .box [u8 u, u8 v, u8 w], .box [.sl ks, .sl bs, goI p, goI q, .sl (bl.map encB)]]) := by
  intro k
  have dc := (T.x.all c hcn rc).1
  induction k with
  | zero =>
    intro x s hk hu hs
    have := (up_df T.b T.x.tr hu dc).2.1
    omega
  | succ k ih =>
    intro x s hk hu hs
    have dx := up_df T.b T.x.tr hu dc
    have hxl : x < (U.aboveL bl).length := by rw [aboveL_len]; exact dx.1
    have e1 : rdI (rowAt ((U.aboveL bl).map encI) x) 0 = U.nt (U.aboveL bl) x := by rw [rowI hxl]; rfl
    have hg := getI hxl
    have hrx := dx.2.1
    by_cases h : U.nt (U.aboveL bl) x ≥ 0
    · have hy := df_up T.b T.x.tr dx h
      have hpc := T.b.lt hcn
      have hlen := T.len
      have hyd : (((U.nt (U.aboveL bl) x).toNat : Nat) : Int) = U.nt (U.aboveL bl) x := by omega
      have hup : Up (U.aboveL bl) c (U.nt (U.aboveL bl) x).toNat := hu.trans (.step x _ h (.refl _))
      have hdm := (T.dom (a := (U.nt (U.aboveL bl) x).toNat) hcn).2 ⟨rc, hup⟩
      have ihn := ih (U.nt (U.aboveL bl) x).toNat (s + 1) (by omega) hup (by have := hy.2; have := hy.1.2.1; omega)
      have wD := wd31 ks bs p q bl hc hl h0 hT (U.nt (U.aboveL bl) x) c
      have hp1 := hy.1.2.1
      have hp2 := hy.2
      have hyn := hy.1.1
      rw [hyd] at hdm ihn
      rw [hdm] at wD
      have hs1 : (s : Int) + 1 ≤ bl.length := by omega
      refine turnK (tn8_19 X u v w bl.length c x s p q ks bs bl i (U.aboveL bl) _) ?_
      rw [Int.toNat_natCast, e1, hg, decide_eq_true h, decide_eq_false (show ¬ U.nt (U.aboveL bl) x ≥ bl.length by omega), wrap64 (by omega) (by omega), decide_eq_false (show ¬ (s : Int) + 1 > bl.length by omega), domW_map, hdm]
      exact ⟨⟨by omega, rfl⟩, ⟨by omega, rfl⟩, wD, ihn⟩
    · have hx0 : x = 0 := by
        rcases dx.2.2 with q | q
        · exact q
        · omega
      refine turnK (tn8_19 X u v w bl.length c x s p q ks bs bl i (U.aboveL bl) _) ?_
      rw [Int.toNat_natCast, e1, hg, decide_eq_false h]
      subst hx0
      exact ⟨⟨by omega, rfl⟩, rfl⟩
theorem walkN (i : Nat) {od pl : List Int} (T : TreeN bl od pl) (c : Nat) (hcn : c < bl.length) : ∃ x : Int, (U.domB (U.nextAt bl) bl.length c c = true → x = 0) ∧
    LoopTo Try.prog H (H 8) 0 (loopOf Try.prog 8 19) (mkS 132 [(2, .pt 0 0 0), (3, .pt 1 0 0), (5, goI i), (6, .pt 2 0 0), (7, goI bl.length), (10, goI c), (11, .sl ((U.aboveL bl).map encI)), (12, goI c), (13, goI 0)] [.box [.sl X], .box [u8 u, u8 v, u8 w], .box [.sl ks, .sl bs, goI p, goI q, .sl (bl.map encB)]])
      (.exit 2, mkS 132 [(2, .pt 0 0 0), (3, .pt 1 0 0), (5, goI i), (6, .pt 2 0 0), (10, goI c), (12, goI x)] [.box [.sl X], .box [u8 u, u8 v, u8 w], .box [.sl ks, .sl bs, goI p, goI q, .sl (bl.map encB)]]) := by
  by_cases rc : 0 ≤ U.nt pl c
  · exact ⟨0, fun _ => rfl, loopn19 X ks bs u v w p q bl hc hl h0 hT i T c hcn rc (U.nt pl c + 1).toNat c 0 (by omega) (.refl _) (by omega)⟩
  · have hu := T.x.tr.un c hcn (by omega)
    have hxl : c < (U.aboveL bl).length := by rw [aboveL_len]; exact hcn
    have e1 : rdI (rowAt ((U.aboveL bl).map encI) c) 0 = U.nt (U.aboveL bl) c := by rw [rowI hxl]; rfl
    have hg := getI hxl
    refine ⟨c, fun h => absurd ((T.reach hcn).1 h) rc, turnK (tn8_19 X u v w bl.length c c 0 p q ks bs bl i (U.aboveL bl) _) ?_⟩
    rw [Int.toNat_natCast, e1, hg, hu, decide_eq_false (by omega)]
    exact ⟨⟨by omega, rfl⟩, rfl⟩
end
theorem lastN (b : Bool) (x : Int) (h : b = true → x = 0) (P Q : Prop) (hq : Q) : TB b (TB (!(x == 0)) P Q) Q := by
  cases b with
  | false => exact hq
  | true => rw [h rfl]; exact hq
theorem loopn8 (a : List XF) (u v w : Int) (hu : 0 ≤ u ∧ u ≤ 255) (hv : 0 ≤ v ∧ v ≤ 255) (hw : 0 ≤ w ∧ w ≤ 255) (K : AskedN a) : ∀ (d i : Nat), i + d = a.length →
    LoopTo Try.prog H (H 8) 0 (loopOf Try.prog 8 6) (mkS 132 [(2, .pt 0 0 0), (3, .pt 1 0 0), (5, goI i)] [.box [.sl (a.map encF)], .box [u8 u, u8 v, u8 w], .dead]) (.exit 0, mkS 132 [] [.dead, .dead, .dead])
  | 0, i, hd => by
    refine turnK (tn8_6 a u v w i 0 0 _) ?_
    rw [List.length_map, decide_eq_false (by omega)]
    exact rfl
  | d + 1, i, hd => by
    have hi : i < a.length := by omega
    have ih := loopn8 a u v w hu hv hw K d (i + 1) (by omega)
    have hlen := K.len
    have hf := K.small _ (fun_mem hi)
    have hc := codeOk_of hf
    have hl : (U.fun_ a i).blocks.length ≤ 3000 := hf.2.2.1
    have h0 : 0 < (U.fun_ a i).blocks.length := (funcOk_of (okFunc_at K.ok (fun_mem hi))).blocks.1
    have hT := tgtOk_of K.ok hi
    obtain ⟨od, pl, T⟩ := tree_of (U.fun_ a i).blocks hc hl h0 hT
    obtain ⟨e1, a1, a2⟩ := remN_in (n := (U.fun_ a i).blocks.length) hu (by omega)
    obtain ⟨e2, b1, b2⟩ := remN_in (n := (U.fun_ a i).blocks.length) hv (by omega)
    obtain ⟨e3, c1, c2⟩ := remN_in (n := (U.fun_ a i).blocks.length) hw (by omega)
    obtain ⟨A, hA⟩ := Int.eq_ofNat_of_zero_le a1
    obtain ⟨B, hB⟩ := Int.eq_ofNat_of_zero_le b1
    obtain ⟨C, hC⟩ := Int.eq_ofNat_of_zero_le c1
    have nA : A < (U.fun_ a i).blocks.length := by omega
    have nB : B < (U.fun_ a i).blocks.length := by omega
    have nC : C < (U.fun_ a i).blocks.length := by omega
    obtain ⟨x, hx, lp⟩ := walkN (a.map encF) ((U.fun_ a i).kinds.map encI) ((U.fun_ a i).base.map encI) u v w (U.fun_ a i).params (U.fun_ a i).result (U.fun_ a i).blocks hc hl h0 hT i T C nC
    have wD := wd31 ((U.fun_ a i).kinds.map encI) ((U.fun_ a i).base.map encI) (U.fun_ a i).params (U.fun_ a i).result (U.fun_ a i).blocks hc hl h0 hT
    have w32 := wd32 ((U.fun_ a i).kinds.map encI) ((U.fun_ a i).base.map encI) (U.fun_ a i).params (U.fun_ a i).result (U.fun_ a i).blocks hc hl h0 hT
    have dAB := wD A B
    have dBC := wD B C
    have dAC := wD A C
    have dBA := wD B A
    have dCC := wD C C
    have htr : U.domB (U.nextAt (U.fun_ a i).blocks) (U.fun_ a i).blocks.length A B = true → U.domB (U.nextAt (U.fun_ a i).blocks) (U.fun_ a i).blocks.length B C = true → U.domB (U.nextAt (U.fun_ a i).blocks) (U.fun_ a i).blocks.length A C = true := fun h g => by
      rw [domB_nat T.b] at h g ⊢
      exact ⟨nA, nC, dom_trans T.b T.x nA nB nC h.2.2 g.2.2⟩
    have hli : U.domB (U.nextAt (U.fun_ a i).blocks) (U.fun_ a i).blocks.length A C = true → U.domB (U.nextAt (U.fun_ a i).blocks) (U.fun_ a i).blocks.length B C = true → U.domB (U.nextAt (U.fun_ a i).blocks) (U.fun_ a i).blocks.length A B = true ∨ U.domB (U.nextAt (U.fun_ a i).blocks) (U.fun_ a i).blocks.length B A = true := fun h g => by
      rw [domB_nat T.b] at h g
      rw [domB_nat T.b, domB_nat T.b]
      exact (dom_lin T.b T.x nA nB nC h.2.2 g.2.2).imp (fun q => ⟨nA, nB, q⟩) (fun q => ⟨nB, nA, q⟩)
    have last := lastN (U.domB (U.nextAt (U.fun_ a i).blocks) (U.fun_ a i).blocks.length C C) x hx
    have hln : ((U.aboveL (U.fun_ a i).blocks).map encI).length = (U.fun_ a i).blocks.length := by rw [List.length_map, aboveL_len]
    have htk : List.take (U.fun_ a i).blocks.length (List.drop 0 ((U.aboveL (U.fun_ a i).blocks).map encI)) = (U.aboveL (U.fun_ a i).blocks).map encI := by
      rw [List.drop_zero, List.take_of_length_le (by omega)]
    have heq : (((U.fun_ a i).blocks.length : Int) == ((U.fun_ a i).blocks.length : Int)) = true := by simp
    refine turnK (tn8_6 a u v w i C x _) ?_
    rw [show (a.map encF).length = a.length from List.length_map _, decide_eq_true (show (i : Int) < a.length by omega), wrapS hi (by omega), rowF hi, getF hi, e1, e2, e3]
    simp only [encF, rdI, rdL, slOf, List.getD_cons_zero, List.getD_cons_succ, int_goI, domW_map, aboW_map, show ((U.fun_ a i).blocks.map encB).length = (U.fun_ a i).blocks.length from List.length_map _, htk, hln, hA, hB, hC, heq, Bool.not_true]
    generalize U.domB (U.nextAt (U.fun_ a i).blocks) (U.fun_ a i).blocks.length A B = x1 at dAB htr hli ⊢
    generalize U.domB (U.nextAt (U.fun_ a i).blocks) (U.fun_ a i).blocks.length B C = x2 at dBC htr hli ⊢
    generalize U.domB (U.nextAt (U.fun_ a i).blocks) (U.fun_ a i).blocks.length A C = x3 at dAC htr hli ⊢
    generalize U.domB (U.nextAt (U.fun_ a i).blocks) (U.fun_ a i).blocks.length B A = x4 at dBA hli ⊢
    refine ⟨⟨by omega, by trivial⟩, by decide, by omega, by decide, by omega, by decide, by omega, dAB, ?_⟩
    cases x1 with
    | false =>
      refine ⟨dAC, ?_⟩
      cases x3 with
      | false => exact ⟨w32, lp, dCC, last _ _ ih⟩
      | true =>
        refine ⟨dBC, ?_⟩
        cases x2 with
        | false => exact ⟨w32, lp, dCC, last _ _ ih⟩
        | true =>
          refine ⟨dAB, dBA, ?_⟩
          cases x4 with
          | false => exact absurd (hli rfl rfl) (by simp)
          | true => exact ⟨w32, lp, dCC, last _ _ ih⟩
    | true =>
      refine ⟨dBC, ?_⟩
      cases x2 with
      | false =>
        refine ⟨dAC, ?_⟩
        cases x3 with
        | false => exact ⟨w32, lp, dCC, last _ _ ih⟩
        | true => exact ⟨dBC, w32, lp, dCC, last _ _ ih⟩
      | true =>
        refine ⟨dAC, ?_⟩
        cases x3 with
        | false => exact absurd (htr rfl rfl) (by simp)
        | true => exact ⟨dAC, dBC, dAB, w32, lp, dCC, last _ _ ih⟩
theorem wn8 (p : XP) (u v w : Int) (hu : 0 ≤ u ∧ u ≤ 255) (hv : 0 ≤ v ∧ v ≤ 255) (hw : 0 ≤ w ∧ w ≤ 255) (hp : HandP p) : Wf Try.prog H 8 [.agg (encP p), .agg [.v (.int .u8 u), .v (.int .u8 v), .v (.int .u8 w)]] [] = some (goB true, [], []) := by
  refine runK (tn8 p.funcs u v w (U.out06 p) _) ⟨wn29, wn30 p hp, ?_⟩
  cases ho : U.out06 p with
  | true => exact rfl
  | false => exact ⟨loopn8 p.funcs u v w hu hv hw (askedN_of ho) p.funcs.length 0 (by omega), rfl⟩
end Go.Proofs.Ytabdcfcnngnnoaa.E
