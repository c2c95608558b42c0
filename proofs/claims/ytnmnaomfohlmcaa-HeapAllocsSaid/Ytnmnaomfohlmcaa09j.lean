/- Functions, by what the evaluator asks; the theorems t.. were printed by show.txt, a program of this session. -/
import Derived.Test.Ytnmnaomfohlmcaa09i
set_option linter.unusedVariables false
set_option linter.unusedSimpArgs false
set_option maxRecDepth 100000
namespace Go.Proofs.Ytnmnaomfohlmcaa.E
open Go
namespace U
def keR (l : List (List AV)) (o n v : Int) : Int := ke (decO l) o n v
def linkedR (l : List (List AV)) (o n v : Int) : List (List AV) := (linked (decO l) o n v).map encO
end U
def F6 (out : List Int) : CallT := fun f args sto => match f, args, sto with
 | 8, _, _ => .is (goB true, [], [])
 | 9, [.agg [.sl l]], _ => .is (goB (U.greatR l), [], [])
 | 13, [.agg [.sl l], .agg [.sl m]], _ => .is (goB (U.sameR l m), [], [])
 | 14, [.agg [.sl l]], _ => .is (goB (U.rightR l), [], [])
 | 22, [.agg [.sl l], .v (.int _ o), .v (.int _ n), .v (.int _ v)], _ => .by (decide (U.keR l o n v = 0)) (.is (.tup [.agg [.os 0 0 l.length], goI 0], [.arr 2 (U.linkedR l o n v)], [])) (.is (.tup [.agg [.sl l], goI (U.keR l o n v)], [], []))
 | 21, [.agg [.sl l], .v (.int _ o), .v (.int _ n)], _ => .is (.tup [goI (U.rvR l o n), goI (U.reR l o n)], [], [])
 | 17, _, _ => .is (.os 0 0 out.length, [.arr 1 (out.map encI)], [])
 | _, _, _ => .no
def st6 (h x : List (List AV)) (a b c : Int) (t e : Int) (s : Bool) : St := mkS 80 [(3, .pt 1 0 0), (5, .pt 2 0 0), (7, goI t), (8, goI e), (10, goB s)] [.box [.sl h], .box [goI a, goI b, goI c], .box [.sl x]]
def L6 (b : Bool) : Nat → St → LT := fun id st => match st.2 with
 | [.box [.sl h], .box [.v (.int _ a), .v (.int _ b'), .v (.int _ c)], .box [.sl x]] => .is (.exit 0) (st6 h x a b' c (U.rvR x a b') (U.reR x a b') b)
 | _ => .no

theorem t6_12 (h : List Obj) (x : List Obj) (a : Int) (b : Int) (c : Int) (t : Int) (e : Int) (l : List Int) (s : Bool) (i : Nat) (r : Ex × St) : (turnT Try.prog H (fun f args sto => CT.of (F0 f args sto)) L0 false (H 6) 0 (loopOf Try.prog 6 12)
  (mkS 80
    [(3, AV.pt 1 0 0), (5, AV.pt 2 0 0), (7, goI t), (8, goI e), (9, AV.sl (List.map encI l)), (10, goB s),
      (11, goI (↑i : Int))]
    [Row.box [AV.sl (List.map encO h)], Row.box [goI a, goI b, goI c], Row.box [AV.sl (List.map encO x)]])
  r) = (TB (decide ((↑i : Int) < (↑(List.length (List.map encI l)) : Int)))
  (TB s
    (LoopTo Try.prog H (H 6) 0 (loopOf Try.prog 6 12)
      (mkS 80
        [(3, AV.pt 1 0 0), (5, AV.pt 2 0 0), (7, goI t), (8, goI e), (9, AV.sl (List.map encI l)), (10, goB true),
          (11, goI (IntKind.wrap IntKind.i64 ((↑i : Int) + 1)))]
        [Row.box [AV.sl (List.map encO h)], Row.box [goI a, goI b, goI c], Row.box [AV.sl (List.map encO x)]])
      r)
    ((0 ≤ (↑i : Int) ∧ (List.map encI l)[i]? = some [goI (rdI (rowAt (List.map encI l) i) 0)]) ∧
      (iz 0 ≤ 2 ∧ 2 < (↑3 : Int)) ∧
        LoopTo Try.prog H (H 6) 0 (loopOf Try.prog 6 12)
          (mkS 80
            [(3, AV.pt 1 0 0), (5, AV.pt 2 0 0), (7, goI t), (8, goI e), (9, AV.sl (List.map encI l)),
              (10, goB (rdI (rowAt (List.map encI l) i) 0 == c)), (11, goI (IntKind.wrap IntKind.i64 ((↑i : Int) + 1)))]
            [Row.box [AV.sl (List.map encO h)], Row.box [goI a, goI b, goI c], Row.box [AV.sl (List.map encO x)]])
          r))
  ((Ex.exit 0,
      mkS 80 [(3, AV.pt 1 0 0), (5, AV.pt 2 0 0), (7, goI t), (8, goI e), (10, goB s)]
        [Row.box [AV.sl (List.map encO h)], Row.box [goI a, goI b, goI c], Row.box [AV.sl (List.map encO x)]]) =
    r)) := by kernel_rfl
theorem t6 (h : List Obj) (a : Int) (b : Int) (c : Int) (out : List Int) (s : Bool) (r : AV × List Row × List Nat) : (runT Try.prog H (F6 out) (L6 s) false 6 [hp h, AV.agg [goI a, goI b, goI c]] [] fun q => q = r) = (Wf Try.prog H 8 [] [] = some (goB true, [], []) ∧
  Wf Try.prog H 9 [AV.agg [AV.sl (List.map encO h)]] [] = some (goB (U.greatR (List.map encO h)), [], []) ∧
    TB (U.greatR (List.map encO h)) ((goB true, [], []) = r)
      ((iz 0 ≤ 0 ∧ 0 < (↑3 : Int)) ∧
        (iz 0 ≤ 1 ∧ 1 < (↑3 : Int)) ∧
          (iz 0 ≤ 2 ∧ 2 < (↑3 : Int)) ∧
            TB (decide (U.keR (List.map encO h) a b c = 0))
              (Wf Try.prog H 22 [AV.agg [AV.sl (List.map encO h)], goI a, goI b, goI c] [] =
                  some
                    (AV.tup [AV.agg [AV.os 0 0 (List.length (List.map encO h))], goI 0],
                      [Row.arr 2 (U.linkedR (List.map encO h) a b c)], []) ∧
                (iz 0 ≤ 0 ∧ 0 < (↑3 : Int)) ∧
                  (iz 0 ≤ 1 ∧ 1 < (↑3 : Int)) ∧
                    Wf Try.prog H 21
                          [AV.agg
                              [AV.sl
                                  (List.take (List.length (List.map encO h))
                                    (List.drop 0 (U.linkedR (List.map encO h) a b c)))],
                            goI a, goI b]
                          [] =
                        some
                          (AV.tup
                              [goI
                                  (U.rvR
                                    (List.take (List.length (List.map encO h))
                                      (List.drop 0 (U.linkedR (List.map encO h) a b c)))
                                    a b),
                                goI
                                  (U.reR
                                    (List.take (List.length (List.map encO h))
                                      (List.drop 0 (U.linkedR (List.map encO h) a b c)))
                                    a b)],
                            [], []) ∧
                      (iz 0 ≤ 0 ∧ 0 < (↑3 : Int)) ∧
                        Wf Try.prog H 17
                              [AV.agg
                                  [AV.sl
                                      (List.take (List.length (List.map encO h))
                                        (List.drop 0 (U.linkedR (List.map encO h) a b c)))],
                                AV.sl [[goI a]]]
                              [] =
                            some (AV.os 0 0 (List.length out), [Row.arr 1 (List.map encI out)], []) ∧
                          (iz 0 ≤ 2 ∧ 2 < (↑3 : Int)) ∧
                            LoopTo Try.prog H (H 6) 0 (loopOf Try.prog 6 12)
                                (mkS 80
                                  [(3, AV.pt 1 0 0), (5, AV.pt 2 0 0),
                                    (7,
                                      goI
                                        (U.rvR
                                          (List.take (List.length (List.map encO h))
                                            (List.drop 0 (U.linkedR (List.map encO h) a b c)))
                                          a b)),
                                    (8,
                                      goI
                                        (U.reR
                                          (List.take (List.length (List.map encO h))
                                            (List.drop 0 (U.linkedR (List.map encO h) a b c)))
                                          a b)),
                                    (9, AV.sl (List.take (List.length out) (List.drop 0 (List.map encI out)))),
                                    (10, goB (c == 0)), (11, goI 0)]
                                  [Row.box [AV.sl (List.map encO h)], Row.box [goI a, goI b, goI c],
                                    Row.box
                                      [AV.sl
                                          (List.take (List.length (List.map encO h))
                                            (List.drop 0 (U.linkedR (List.map encO h) a b c)))]])
                                (Ex.exit 0,
                                  mkS 80
                                    [(3, AV.pt 1 0 0), (5, AV.pt 2 0 0),
                                      (7,
                                        goI
                                          (U.rvR
                                            (List.take (List.length (List.map encO h))
                                              (List.drop 0 (U.linkedR (List.map encO h) a b c)))
                                            a b)),
                                      (8,
                                        goI
                                          (U.reR
                                            (List.take (List.length (List.map encO h))
                                              (List.drop 0 (U.linkedR (List.map encO h) a b c)))
                                            a b)),
                                      (10, goB s)]
                                    [Row.box [AV.sl (List.map encO h)], Row.box [goI a, goI b, goI c],
                                      Row.box
                                        [AV.sl
                                            (List.take (List.length (List.map encO h))
                                              (List.drop 0 (U.linkedR (List.map encO h) a b c)))]]) ∧
                              TB
                                (U.reR
                                    (List.take (List.length (List.map encO h))
                                      (List.drop 0 (U.linkedR (List.map encO h) a b c)))
                                    a b ==
                                  0)
                                ((iz 0 ≤ 2 ∧ 2 < (↑3 : Int)) ∧
                                  TB
                                    (U.rvR
                                        (List.take (List.length (List.map encO h))
                                          (List.drop 0 (U.linkedR (List.map encO h) a b c)))
                                        a b ==
                                      c)
                                    (TB s
                                      (Wf Try.prog H 14
                                            [AV.agg
                                                [AV.sl
                                                    (List.take (List.length (List.map encO h))
                                                      (List.drop 0 (U.linkedR (List.map encO h) a b c)))]]
                                            [] =
                                          some
                                            (goB
                                                (U.rightR
                                                  (List.take (List.length (List.map encO h))
                                                    (List.drop 0 (U.linkedR (List.map encO h) a b c)))),
                                              [], []) ∧
                                        (goB
                                              (U.rightR
                                                (List.take (List.length (List.map encO h))
                                                  (List.drop 0 (U.linkedR (List.map encO h) a b c)))),
                                            [], []) =
                                          r)
                                      ((goB false, [], []) = r))
                                    ((goB false, [], []) = r))
                                ((goB false, [], []) = r))
              (Wf Try.prog H 22 [AV.agg [AV.sl (List.map encO h)], goI a, goI b, goI c] [] =
                  some (AV.tup [AV.agg [AV.sl (List.map encO h)], goI (U.keR (List.map encO h) a b c)], [], []) ∧
                TB (!U.keR (List.map encO h) a b c == 0)
                  (Wf Try.prog H 13 [AV.agg [AV.sl (List.map encO h)], AV.agg [AV.sl (List.map encO h)]] [] =
                      some (goB (U.sameR (List.map encO h) (List.map encO h)), [], []) ∧
                    (goB (U.sameR (List.map encO h) (List.map encO h)), [], []) = r)
                  ((iz 0 ≤ 0 ∧ 0 < (↑3 : Int)) ∧
                    (iz 0 ≤ 1 ∧ 1 < (↑3 : Int)) ∧
                      Wf Try.prog H 21 [AV.agg [AV.sl (List.map encO h)], goI a, goI b] [] =
                          some (AV.tup [goI (U.rvR (List.map encO h) a b), goI (U.reR (List.map encO h) a b)], [], []) ∧
                        (iz 0 ≤ 0 ∧ 0 < (↑3 : Int)) ∧
                          Wf Try.prog H 17 [AV.agg [AV.sl (List.map encO h)], AV.sl [[goI a]]] [] =
                              some (AV.os 0 0 (List.length out), [Row.arr 1 (List.map encI out)], []) ∧
                            (iz 0 ≤ 2 ∧ 2 < (↑3 : Int)) ∧
                              LoopTo Try.prog H (H 6) 0 (loopOf Try.prog 6 12)
                                  (mkS 80
                                    [(3, AV.pt 1 0 0), (5, AV.pt 2 0 0), (7, goI (U.rvR (List.map encO h) a b)),
                                      (8, goI (U.reR (List.map encO h) a b)),
                                      (9, AV.sl (List.take (List.length out) (List.drop 0 (List.map encI out)))),
                                      (10, goB (c == 0)), (11, goI 0)]
                                    [Row.box [AV.sl (List.map encO h)], Row.box [goI a, goI b, goI c],
                                      Row.box [AV.sl (List.map encO h)]])
                                  (Ex.exit 0,
                                    mkS 80
                                      [(3, AV.pt 1 0 0), (5, AV.pt 2 0 0), (7, goI (U.rvR (List.map encO h) a b)),
                                        (8, goI (U.reR (List.map encO h) a b)), (10, goB s)]
                                      [Row.box [AV.sl (List.map encO h)], Row.box [goI a, goI b, goI c],
                                        Row.box [AV.sl (List.map encO h)]]) ∧
                                TB (U.reR (List.map encO h) a b == 0)
                                  ((iz 0 ≤ 2 ∧ 2 < (↑3 : Int)) ∧
                                    TB (U.rvR (List.map encO h) a b == c)
                                      (TB s
                                        (Wf Try.prog H 14 [AV.agg [AV.sl (List.map encO h)]] [] =
                                            some (goB (U.rightR (List.map encO h)), [], []) ∧
                                          (goB (U.rightR (List.map encO h)), [], []) = r)
                                        ((goB false, [], []) = r))
                                      ((goB false, [], []) = r))
                                  ((goB false, [], []) = r))))) := by kernel_rfl
theorem loop6_12 (h x : List Obj) (a b c t e : Int) (l : List Int) (hl : l.length < 1000000) : ∀ (d i : Nat) (s : Bool), i + d = l.length →
    LoopTo Try.prog H (H 6) 0 (loopOf Try.prog 6 12) (mkS 80 [(3, .pt 1 0 0), (5, .pt 2 0 0), (7, goI t), (8, goI e), (9, .sl (l.map encI)), (10, goB s), (11, goI i)] [.box [.sl (h.map encO)], .box [goI a, goI b, goI c], .box [.sl (x.map encO)]]) (.exit 0, st6 (h.map encO) (x.map encO) a b c t e (s || decide (c ∈ l.drop i)))
  | 0, i, s, hd => by
    refine turnK (t6_12 h x a b c t e l s i _) ?_
    rw [List.length_map, decide_eq_false (by omega), List.drop_of_length_le (by omega), show (s || decide (c ∈ ([] : List Int))) = s by simp]
    exact rfl
  | d + 1, i, s, hd => by
    have hi : i < l.length := by omega
    refine turnK (t6_12 h x a b c t e l s i _) ?_
    have ed : l.drop i = U.nt l i :: l.drop (i + 1) := drop_cons' l hi
    have e1 : rdI (rowAt (l.map encI) i) 0 = U.nt l i := by rw [rowI hi]; rfl
    rw [List.length_map, decide_eq_true (by omega), wrapS hi hl, e1, getI hi, ed]
    cases s with
    | true =>
      have ih := loop6_12 h x a b c t e l hl d (i + 1) true (by omega)
      rw [Bool.true_or] at ih ⊢
      exact ih
    | false =>
      have ih := loop6_12 h x a b c t e l hl d (i + 1) (U.nt l i == c) (by omega)
      refine ⟨⟨by omega, rfl⟩, ⟨by decide, by decide⟩, ?_⟩
      have eq : (false || decide (c ∈ U.nt l i :: l.drop (i + 1))) = ((U.nt l i == c) || decide (c ∈ l.drop (i + 1))) := by
        rw [Bool.false_or, Bool.eq_iff_iff]
        simp only [decide_eq_true_eq, Bool.or_eq_true, beq_iff_eq, List.mem_cons]
        constructor
        · rintro (q | q)
          · exact .inl q.symm
          · exact .inr q
        · rintro (q | q)
          · exact .inl q.symm
          · exact .inr q
      rw [eq]
      exact ih
theorem badL_iff (n : Nat) (rs : List Int) : U.badL n rs < 0 ↔ ∀ r ∈ rs, 0 ≤ r ∧ r ≤ n := by
  unfold U.badL
  constructor
  · intro h r hr
    obtain ⟨i, hi, rfl⟩ := mem_getD hr
    cases hb : U.bad n (rs.getD i default) with
    | false =>
      unfold U.bad at hb
      simp only [Bool.or_eq_false_iff, decide_eq_false_iff_not] at hb
      omega
    | true => exact absurd (firstOf_ge (fun j => U.bad n (U.nt rs j)) rs.length 0 i (Nat.zero_le _) (by omega) hb) (by omega)
  · intro h
    rcases firstOf_neg (fun j => U.bad n (U.nt rs j)) rs.length 0 with hp | hp
    · obtain ⟨w, _, _, hw, hb⟩ := firstOf_val _ _ _ hp
      have := h (U.nt rs w) (getD_mem (show w < rs.length by omega))
      unfold U.bad at hb
      simp only [Bool.or_eq_true, decide_eq_true_eq] at hb
      omega
    · omega
theorem badOb_iff (n : Nat) (o : Obj) : U.badOb n o = false ↔ o.refs.length ≤ 8 ∧ o.ints.length ≤ 8 ∧ ∀ r ∈ o.refs, 0 ≤ r ∧ r ≤ n := by
  unfold U.badOb U.badO
  rw [badR_map, ← badL_iff]
  simp only [Bool.or_eq_false_iff, decide_eq_false_iff_not, List.length_map]
  omega
section
variable {h : List Obj} {a b c : Int}
theorem linked_len : (U.linked h a b c).length = h.length := by simp [U.linked]
theorem linked_ob (hz : U.ke h a b c = 0) (j : Nat) : U.ob (U.linked h a b c) j = if j = (a - 1).toNat then ⟨(U.oo h a).refs.set b.toNat c, (U.oo h a).ints⟩ else U.ob h j := by
  obtain ⟨_, o1, o2, _⟩ := oe_zero (ke_zero hz).1
  exact ob_set h j _ (by omega)
theorem linked_right (hz : U.ke h a b c = 0) : U.right (U.linked h a b c) = true := by
  obtain ⟨h0, v1, v2, hf⟩ := ke_zero hz
  obtain ⟨hr, o1, o2, eo⟩ := oe_zero h0
  rw [right_iff] at hr ⊢
  intro o ho
  obtain ⟨j, hj, rfl⟩ := mem_getD ho
  rw [linked_len] at hj ⊢
  show U.badOb h.length (U.ob (U.linked h a b c) j) = false
  rw [linked_ob hz]
  by_cases e : j = (a - 1).toNat
  · rw [if_pos e]
    have h1 := (badOb_iff _ _).1 (hr _ (ob_mem (show (a - 1).toNat < h.length by omega)))
    rw [← eo] at h1
    refine (badOb_iff _ _).2 ⟨by rw [List.length_set]; exact h1.1, h1.2.1, fun r hr => ?_⟩
    rcases List.mem_or_eq_of_mem_set hr with hr | rfl
    · exact h1.2.2 r hr
    · exact ⟨v1, v2⟩
  · rw [if_neg e]; exact hr _ (ob_mem hj)
theorem linked_oo (hz : U.ke h a b c = 0) : U.oe (U.linked h a b c) a = 0 ∧ U.oo (U.linked h a b c) a = ⟨(U.oo h a).refs.set b.toNat c, (U.oo h a).ints⟩ := by
  obtain ⟨h0, v1, v2, hf⟩ := ke_zero hz
  obtain ⟨hr, o1, o2, eo⟩ := oe_zero h0
  have e0 : U.oe (U.linked h a b c) a = 0 := by
    unfold U.oe at h0 ⊢
    rw [linked_right hz, linked_len, ← hr]
    exact h0
  refine ⟨e0, ?_⟩
  rw [(oe_zero e0).2.2.2, linked_ob hz, if_pos rfl]
theorem linked_rv (hz : U.ke h a b c = 0) : U.rv (U.linked h a b c) a b = c ∧ U.re (U.linked h a b c) a b = 0 := by
  obtain ⟨h0, v1, v2, hf⟩ := ke_zero hz
  obtain ⟨n1, n2⟩ := fe_zero hf
  obtain ⟨e0, e1⟩ := linked_oo hz
  unfold U.rv U.re
  rw [if_pos e0, if_pos e0, e1]
  unfold U.fv U.fe
  rw [List.length_set, if_neg (by omega), if_neg (by omega), nt_setI _ _ _ (by omega), if_pos rfl]
  exact ⟨rfl, rfl⟩
theorem linked_short (hz : U.ke h a b c = 0) (hs : Short h) : Short (U.linked h a b c) := by
  refine ⟨by rw [linked_len]; exact hs.1, fun o ho => ?_⟩
  have := refs8 (linked_right hz) ho
  omega
/-- What is linked is reached from where it is linked. -/
theorem linked_reach (hz : U.ke h a b c = 0) {out : List Int} (hb : BfsTo (U.linked h a b c) [] [a] out) : c = 0 ∨ c ∈ out := by
  obtain ⟨h0, v1, v2, hf⟩ := ke_zero hz
  obtain ⟨n1, n2⟩ := fe_zero hf
  obtain ⟨hr, o1, o2, eo⟩ := oe_zero h0
  obtain ⟨e0, e1⟩ := linked_oo hz
  by_cases hc : c = 0
  · exact .inl hc
  · right
    have ha : a ∈ out := hb.que a (by simp) ⟨o1, by rw [linked_len]; exact o2⟩
    refine hb.closed a ha (by simp) c ?_ ⟨by omega, by rw [linked_len]; exact v2⟩
    unfold U.refsAt
    rw [← (oe_zero e0).2.2.2, e1]
    exact List.mem_set (show b.toNat < (U.oo h a).refs.length by omega) c
end
theorem great_len {hs : List Obj} (h : U.great hs hs.length ≤ 300) : hs.length ≤ 300 := by
  cases hs with
  | nil => simp
  | cons o l =>
    unfold U.great at h
    by_cases hn : ((o :: l).length : Int) ≤ 300
    · omega
    · rw [if_neg hn] at h; exact absurd h hn
set_option maxHeartbeats 2000000 in
theorem wf6 (h : List Obj) (a b c : Int) (hh : Handed h) : Wf Try.prog H 6 [hp h, .agg [goI a, goI b, goI c]] [] = some (goB true, [], []) := by
  have eg : U.greatR (h.map encO) = decide (U.great h h.length > 300) := by unfold U.greatR; rw [decO_map, List.length_map]
  have ek : ∀ (l : List Obj) (o n v : Int), U.keR (l.map encO) o n v = U.ke l o n v := fun l o n v => by unfold U.keR; rw [decO_map]
  have er : ∀ (l : List Obj) (o n : Int), U.reR (l.map encO) o n = U.re l o n := fun l o n => by unfold U.reR; rw [decO_map]
  have ew : ∀ (l : List Obj) (o n : Int), U.rvR (l.map encO) o n = U.rv l o n := fun l o n => by unfold U.rvR; rw [decO_map]
  have et : ∀ (l : List Obj), U.rightR (l.map encO) = U.right l := fun l => by unfold U.rightR; rw [decO_map]
  have es : U.linkedR (h.map encO) a b c = (U.linked h a b c).map encO := by unfold U.linkedR; rw [decO_map]
  have em : U.sameR (h.map encO) (h.map encO) = true := by unfold U.sameR; rw [decO_map]; exact same_self h
  by_cases hgr : U.great h h.length > 300
  · refine runK (t6 h a b c [] true _) ⟨wf8, ?_⟩
    rw [eg]
    refine ⟨wf9 h hh, ?_⟩
    rw [decide_eq_true hgr]; exact rfl
  have hgr' : U.great h h.length ≤ 300 := by omega
  have hs := short_of hh hgr'
  have hl := great_len hgr'
  by_cases hz : U.ke h a b c = 0
  · obtain ⟨out, b1, b2⟩ := wf17 (linked_right hz) (by rw [linked_len]; omega) [a] (by simp)
    have hst := linked_short hz hs
    have ho := lens_le b1.val b1.nodup
    rw [linked_len] at ho
    have hso := isort_len out
    obtain ⟨r1, r2⟩ := linked_rv hz
    have hrt := linked_right hz
    have h6 := loop6_12 h (U.linked h a b c) a b c c 0 (U.isort out) (by omega) (U.isort out).length 0 (c == 0) (by omega)
    have hfound : ((c == 0) || decide (c ∈ (U.isort out).drop 0)) = true := by
      rw [List.drop_zero, Bool.or_eq_true, beq_iff_eq, decide_eq_true_eq]
      rcases linked_reach hz b1 with q | q
      · exact .inl q
      · exact .inr ((isort_perm out).mem_iff.2 q)
    rw [hfound] at h6
    have etk : List.take (h.map encO).length (List.drop 0 ((U.linked h a b c).map encO)) = (U.linked h a b c).map encO := by
      have := take_map encO (U.linked h a b c)
      rw [linked_len] at this
      rw [List.length_map]; exact this
    have h22 := wf22 h a b c hs hz
    have h21 := wf21 (U.linked h a b c) a b hst
    have h14 := wf14 (U.linked h a b c) hst.1
    rw [hrt] at h14
    rw [r1, r2] at h21
    refine runK (t6 h a b c (U.isort out) true _) ⟨wf8, ?_⟩
    rw [eg, es, etk]
    simp only [er, ew, et, ek, r1, r2, hrt]
    refine ⟨wf9 h hh, ?_⟩
    rw [decide_eq_false hgr, decide_eq_true hz, take_map encI (U.isort out)]
    refine ⟨by decide, by decide, by decide, ?_⟩
    rw [List.length_map]
    refine ⟨h22, by decide, by decide, h21, by decide, ?_, by decide, h6, by decide, ?_⟩
    · rw [hso]; exact b2
    · rw [beq_self_eq_true]
      exact ⟨h14, True.intro⟩
  · have h22 := wf22_no h a b c hs hz
    have h13 := wf13 h h hs
    rw [same_self] at h13
    refine runK (t6 h a b c [] true _) ⟨wf8, ?_⟩
    rw [eg, em]
    simp only [ek]
    refine ⟨wf9 h hh, ?_⟩
    rw [decide_eq_false hgr, decide_eq_false hz, beq_eq_false_iff_ne.2 hz]
    exact ⟨by decide, by decide, by decide, h22, h13, True.intro⟩
end Go.Proofs.Ytnmnaomfohlmcaa.E
