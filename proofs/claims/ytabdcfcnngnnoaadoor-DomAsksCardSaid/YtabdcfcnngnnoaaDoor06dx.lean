/- Functions, by what the evaluator asks; the theorems t.. were printed by show.txt, a program of this session. -/
import Derived.Test.YtabdcfcnngnnoaaDoor06f
import Derived.Test.YtabdcfcnngnnoaaDoor06hx
set_option linter.unusedVariables false
set_option linter.unusedSectionVars false
set_option linter.unusedSimpArgs false
set_option maxRecDepth 100000
namespace Go.Proofs.YtabdcfcnngnnoaaDoor.E
open Go
def FN30 (g : Bool) (n : Int) : CallT := fun f args sto => match f, args with
 | 36, _ => .is (goB g, [], [])
 | 37, _ => .is (goI n, [], [])
 | _, _ => .no
namespace U
noncomputable def domW (bl : List (List AV)) (a b : Int) : Bool := domB (nextAt (bl.map decB)) bl.length a b
noncomputable def meetW (bl : List (List AV)) (a b : Int) : Int := meetD (nextAt (bl.map decB)) bl.length a b
noncomputable def kidW (bl : List (List AV)) (b : Int) : List Int := kidsD (bl.map decB) b
noncomputable def aboW (bl : List (List AV)) : List Int := aboveL (bl.map decB)
end U
noncomputable def FN8 (o : Bool) : CallT := fun f args sto => match f, args with
 | 9, _ => .is (goB true, [], [])
 | 10, _ => .is (goB o, [], [])
 | 11, [.agg [_, _, _, _, .sl bl], .v (.int _ a), .v (.int _ b)] => .is (goB (U.domW bl a b), [], [])
 | 16, [.agg [_, _, _, _, .sl bl], .v (.int _ a), .v (.int _ b)] => .is (goI (U.meetW bl a b), [], [])
 | 35, [.agg [_, _, _, _, .sl bl]] => .is (.os 0 0 bl.length, [.arr 1 ((U.aboW bl).map encI)], [])
 | _, _ => .no
def u8 (n : Int) : AV := .v (.int .u8 n)
set_option maxHeartbeats 4000000
def LN10 (i : Nat) : Nat → St → LT := fun id st => match id, st.2 with
 | 18, [x0, x1, _] => .is (.exit 2) (mkS 103 [(2, .pt 0 0 0), (3, .pt 1 0 0), (5, goI i)] [x0, x1, .dead])
 | _, _ => .no
def LN8 (i : Nat) (c x : Int) : Nat → St → LT := fun id st => match id with
 | 19 => .is (.exit 2) (mkS 132 [(2, .pt 0 0 0), (3, .pt 1 0 0), (5, goI i), (6, .pt 2 0 0), (10, goI c), (12, goI x)] st.2)
 | _ => .no
def LN11 (i : Nat) (n : Nat) (c : List Int) (b : Nat) : Nat → St → LT := fun id st => match id, st.2 with
 | 11, [x0, x1, _] => .is (.exit 2) (mkS 90 [(1, .pt 0 0 0), (3, goI i), (4, .pt 1 0 0), (5, .os 2 0 n)] [x0, x1, .arr 1 (c.map encI)])
 | 15, [x0, x1, _] => .is (.exit 4) (mkS 90 [(1, .pt 0 0 0), (3, goI i), (4, .pt 1 0 0), (5, .os 2 0 n), (6, goI b)] [x0, x1, .arr 1 (c.map encI)])
 | 21, [x0, _, _] => .is (.exit 6) (mkS 90 [(1, .pt 0 0 0), (3, goI i)] [x0, .dead, .dead])
 | _, _ => .no

theorem tn30 (a : List XF) (k : Int) (g : Bool) (n : Int) (r : AV × List Row × List Nat) : (runT Tryd.prog H (FN30 g n) (fun id st => LT.is (Ex.exit 0) (mkS 36 [(1, AV.pt 0 0 0), (3, goI k)] (St.sto st))) false 10
 [AV.agg [AV.sl (List.map encF a)]] [] fun q => q = r) = (LoopTo Tryd.prog H (H 10) 0 (loopOf Tryd.prog 10 3)
 (mkS 36 [(1, AV.pt 0 0 0), (3, goI 0), (4, goI 0)] [Row.box [AV.sl (List.map encF a)]])
 (Ex.exit 0, mkS 36 [(1, AV.pt 0 0 0), (3, goI k)] [Row.box [AV.sl (List.map encF a)]]) ∧
 TB (decide (k > 20)) ((goB true, [], []) = r)
 (Wf Tryd.prog H 36 [AV.agg [AV.sl (List.map encF a)]] [] = some (goB g, [], []) ∧
 TB g ((goB true, [], []) = r)
 (Wf Tryd.prog H 37 [AV.agg [AV.sl (List.map encF a)]] [] = some (goI n, [], []) ∧ (goB !n == 0, [], []) = r))) := by kernel_rfl
theorem tn30_3 (a : List XF) (n : Int) (i : Nat) (r : Ex × St) : (turnT Tryd.prog H (fun f args sto => CT.of (F0 f args sto)) L0 false (H 10) 0 (loopOf Tryd.prog 10 3)
 (mkS 36 [(1, AV.pt 0 0 0), (3, goI n), (4, goI (↑i : Int))] [Row.box [AV.sl (List.map encF a)]]) r) = (TB (decide ((↑i : Int) < (↑(List.length (List.map encF a)) : Int)))
 (TB (decide ((↑i : Int) < 9))
 ((0 ≤ (↑i : Int) ∧
 (List.map encF a)[i]? =
 some
 [AV.sl (rdL (rowAt (List.map encF a) i) 0), AV.sl (rdL (rowAt (List.map encF a) i) 1),
 goI (rdI (rowAt (List.map encF a) i) 2), goI (rdI (rowAt (List.map encF a) i) 3),
 AV.sl (rdL (rowAt (List.map encF a) i) 4)]) ∧
 LoopTo Tryd.prog H (H 10) 0 (loopOf Tryd.prog 10 3)
 (mkS 36
 [(1, AV.pt 0 0 0),
 (3,
 goI
 (if true = true then
 if n < (↑(List.length (rdL (rowAt (List.map encF a) i) 4)) : Int) then
 (↑(List.length (rdL (rowAt (List.map encF a) i) 4)) : Int)
 else n
 else
 if (↑(List.length (rdL (rowAt (List.map encF a) i) 4)) : Int) < n then
 (↑(List.length (rdL (rowAt (List.map encF a) i) 4)) : Int)
 else n)),
 (4, goI (IntKind.wrap IntKind.i64 ((↑i : Int) + 1)))]
 [Row.box [AV.sl (List.map encF a)]])
 r)
 ((Ex.exit 0, mkS 36 [(1, AV.pt 0 0 0), (3, goI n)] [Row.box [AV.sl (List.map encF a)]]) = r))
 ((Ex.exit 0, mkS 36 [(1, AV.pt 0 0 0), (3, goI n)] [Row.box [AV.sl (List.map encF a)]]) = r)) := by kernel_rfl
end Go.Proofs.YtabdcfcnngnnoaaDoor.E
set_option linter.unusedVariables false
set_option linter.unusedSectionVars false
set_option linter.unusedSimpArgs false
set_option maxRecDepth 100000
namespace Go.Proofs.YtabdcfcnngnnoaaDoor.E
open Go

namespace U
def mxn2 (a b : Int) : Int := if a < b then b else a
def mxn (a : List XF) : Nat → Nat → Int → Int
  | 0, i, n => n
  | d + 1, i, n => mxn a d (i + 1) (mxn2 n ((fun_ a i).blocks.length : Int))
def out06 (p : XP) : Bool := decide (mxn p.funcs (min p.funcs.length 9) 0 0 > 20) || (great p || !okProg p.funcs)
end U
theorem loopn30_3 (a : List XF) (ha : Long a.length) : ∀ (d i : Nat) (n : Int), i + d = min a.length 9 →
    LoopTo Tryd.prog H (H 10) 0 (loopOf Tryd.prog 10 3) (mkS 36 [(1, .pt 0 0 0), (3, goI n), (4, goI i)] [.box [.sl (a.map encF)]]) (.exit 0, mkS 36 [(1, .pt 0 0 0), (3, goI (U.mxn a d i n))] [.box [.sl (a.map encF)]])
  | 0, i, n, hd => by
    refine turnK (tn30_3 a n i _) ?_
    rw [List.length_map]
    by_cases h : (i : Int) < a.length
    · rw [decide_eq_true h, decide_eq_false (show ¬ (i : Int) < 9 by omega)]; exact rfl
    · rw [decide_eq_false h]; exact rfl
  | d + 1, i, n, hd => by
    have hi : i < a.length := by omega
    have ih := loopn30_3 a ha d (i + 1) (U.mxn2 n ((U.fun_ a i).blocks.length : Int)) (by omega)
    refine turnK (tn30_3 a n i _) ?_
    rw [List.length_map, decide_eq_true (show (i : Int) < a.length by omega), decide_eq_true (show (i : Int) < 9 by omega), wrapS (show i < 9 by omega) (by omega), rowF hi, getF hi]
    simp only [encF, rdI, rdL, slOf, List.getD_cons_zero, List.getD_cons_succ, int_goI, List.length_map, if_true]
    exact ⟨⟨by omega, by trivial⟩, ih⟩
theorem wn30 (p : XP) (hp : HandP p) : Wf Tryd.prog H 10 [.agg (encP p)] [] = some (goB (U.out06 p), [], []) := by
  refine runK (tn30 p.funcs (U.mxn p.funcs (min p.funcs.length 9) 0 0) (U.great p) (if U.okProg p.funcs then 0 else 5) _) ⟨loopn30_3 p.funcs hp.1 (min p.funcs.length 9) 0 0 (by omega), ?_⟩
  unfold U.out06
  cases decide (U.mxn p.funcs (min p.funcs.length 9) 0 0 > 20) with
  | true => exact rfl
  | false =>
    refine ⟨wf43 p hp, ?_⟩
    cases hg : U.great p with
    | true => exact rfl
    | false =>
      obtain ⟨h1, h2⟩ := small_of hg
      refine ⟨wf44 p.funcs h1 h2, ?_⟩
      cases U.okProg p.funcs with
      | true => exact rfl
      | false => exact rfl
/-- What is known of a program that is asked about. -/
structure AskedN (a : List XF) : Prop where
  len : a.length ≤ 3000
  small : ∀ f ∈ a, SmallF f
  ok : U.okProg a = true
theorem askedN_of {p : XP} (h : U.out06 p = false) : AskedN p.funcs := by
  unfold U.out06 at h
  rw [Bool.or_eq_false_iff, Bool.or_eq_false_iff] at h
  obtain ⟨h1, h2, h3⟩ := h
  obtain ⟨g1, g2⟩ := small_of h2
  exact ⟨g1, g2, by simpa using h3⟩
theorem codeOk_of {f : XF} (h : SmallF f) : CodeOk f.blocks := fun b hb => (h.2.2.2 b hb).1
theorem domW_map (bl : List XB) (a b : Int) : U.domW (bl.map encB) a b = U.domB (U.nextAt bl) bl.length a b := by unfold U.domW; rw [decBs_map, List.length_map]
theorem meetW_map (bl : List XB) (a b : Int) : U.meetW (bl.map encB) a b = U.meetD (U.nextAt bl) bl.length a b := by unfold U.meetW; rw [decBs_map, List.length_map]
theorem kidW_map (bl : List XB) (b : Int) : U.kidW (bl.map encB) b = U.kidsD bl b := by unfold U.kidW; rw [decBs_map]
theorem aboW_map (bl : List XB) : U.aboW (bl.map encB) = U.aboveL bl := by unfold U.aboW; rw [decBs_map]
/-- The tree of a function. -/
structure TreeN (bl : List XB) (od pl : List Int) : Prop where
  b : Base (U.nextAt bl) bl.length od pl
  x : Exact (U.nextAt bl) bl.length pl (U.aboveL bl)
  len : od.length ≤ bl.length
theorem tree_of (bl : List XB) (hc : CodeOk bl) (hl : bl.length ≤ 3000) (h0 : 0 < bl.length) (hT : TgtOk bl) : ∃ od pl, TreeN bl od pl := by
  obtain ⟨od, pl, ab, dp, w, B, ho, X, Q⟩ := wd48 [] [] 0 0 bl hc hl h0 hT
  have e := ab_is hl B X Q
  subst e
  have hll := left_len (nx := U.nextAt bl) bl.length
  exact ⟨od, pl, B, X, by rw [ho, List.length_reverse]; omega⟩
section
variable {bl : List XB} {od pl : List Int} (T : TreeN bl od pl)
include T
/-- A block's next above is one above it. -/
theorem TreeN.up {x : Nat} (hx : x < bl.length) (h : 0 ≤ U.nt (U.aboveL bl) x) : x ≠ 0 ∧ 0 ≤ U.nt pl x ∧ (U.nt (U.aboveL bl) x).toNat < bl.length ∧ U.nt pl (U.nt (U.aboveL bl) x).toNat < U.nt pl x := by
  have hp : 0 ≤ U.nt pl x := by
    refine Decidable.byContradiction fun q => ?_
    have := T.x.tr.un x hx (by omega)
    omega
  have hd := (T.x.all x hx hp).1
  have hy := df_up T.b T.x.tr hd h
  exact ⟨fun e => by subst e; have := T.x.tr.a0; omega, hp, hy.1.1, hy.2⟩
theorem TreeN.reach {x : Nat} (hx : x < bl.length) : U.domB (U.nextAt bl) bl.length x x = true ↔ 0 ≤ U.nt pl x := by
  rw [domB_nat T.b]
  constructor
  · exact fun h => (T.b.rch hx).2 h.2.2.1
  · exact fun h => ⟨hx, hx, dom_refl ((T.b.rch hx).1 h)⟩
theorem TreeN.above {x : Nat} (hx : x < bl.length) (h0 : x ≠ 0) : 0 ≤ U.nt (U.aboveL bl) x ↔ 0 ≤ U.nt pl x := by
  constructor
  · exact fun h => (T.up hx h).2.1
  · intro h
    rcases (T.x.all x hx h).1.2.2 with q | q
    · exact absurd q h0
    · exact q
theorem TreeN.kid (b : Int) (x : Int) : x ∈ U.kidsD bl b ↔ ∃ y : Nat, x = y ∧ y < bl.length ∧ U.nt (U.aboveL bl) y = b ∧ 0 ≤ b := by
  unfold U.kidsD U.kidsOf
  rw [selP_mem]
  constructor
  · rintro ⟨y, h1, _, h2, h3⟩
    rw [Bool.and_eq_true, beq_iff_eq, decide_eq_true_iff] at h3
    exact ⟨y, h1, by omega, h3.1, h3.2⟩
  · rintro ⟨y, h1, h2, h3, h4⟩
    refine ⟨y, h1, Nat.zero_le _, by omega, ?_⟩
    rw [Bool.and_eq_true, beq_iff_eq, decide_eq_true_iff]
    exact ⟨h3, h4⟩
omit T in
theorem kids_len (b : Int) : (U.kidsD bl b).length ≤ bl.length := selP_len _ _ _
omit T in
theorem kids_nd (b : Int) : (U.kidsD bl b).Nodup := (selP_sorted _ bl.length 0).imp fun h => by omega
end
namespace U
def inc (c : List Int) (k : Int) : List Int := c.set k.toNat (nt c k.toNat + 1)
end U
theorem inc_len (l : List Int) : ∀ c : List Int, (l.foldl U.inc c).length = c.length := by
  induction l with
  | nil => intro c; rfl
  | cons k l ih => intro c; rw [List.foldl_cons, ih]; unfold U.inc; rw [List.length_set]
theorem inc_at : ∀ (l c : List Int) (x : Nat), (∀ y ∈ l, 0 ≤ y ∧ y < c.length) → l.Nodup → U.nt (l.foldl U.inc c) x = U.nt c x + if (x : Int) ∈ l then 1 else 0
  | [], c, x, _, _ => by simp
  | k :: l, c, x, h, hn => by
    obtain ⟨k0, k1⟩ := h k (by simp)
    rw [List.nodup_cons] at hn
    rw [List.foldl_cons, inc_at l (U.inc c k) x (fun y hy => by unfold U.inc; rw [List.length_set]; exact h y (List.mem_cons_of_mem _ hy)) hn.2]
    unfold U.inc
    rw [nt_set _ _ (by omega)]
    by_cases e : x = k.toNat
    · have hx : (x : Int) = k := by omega
      rw [if_pos e, hx, if_neg hn.1, if_pos (by simp), ← e]; omega
    · rw [if_neg e]
      have : ((x : Int) ∈ k :: l) = ((x : Int) ∈ l) := by
        rw [List.mem_cons, eq_iff_iff]
        exact ⟨fun h => h.resolve_left (by omega), .inr⟩
      simp only [this]
/-- So often was each block counted, behind the kids of the blocks below b. -/
def CntN (bl : List XB) (b : Nat) (c : List Int) : Prop := c.length = bl.length ∧ ∀ x, x < bl.length → U.nt c x = if 0 ≤ U.nt (U.aboveL bl) x ∧ U.nt (U.aboveL bl) x < b then 1 else 0
section
variable (X ks bs : List (List AV)) (p q : Int) (bl : List XB) (hc : CodeOk bl) (hl : bl.length ≤ 3000) (h0 : 0 < bl.length) (hT : TgtOk bl)
include hc hl h0 hT
end
end Go.Proofs.YtabdcfcnngnnoaaDoor.E
