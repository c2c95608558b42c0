/- Functions, by what the evaluator asks; the theorems t.. were printed by show.txt, a program of this session. -/
import Derived.Test.Ythbkemkjkpaoaac16j
set_option linter.unusedVariables false
set_option linter.unusedSimpArgs false
set_option maxRecDepth 100000
namespace Go.Proofs.Ythbkemkjkpaoaac.E
open Go
def F5 : CallT := fun f args sto => match f, args with
 | 8, _ => .is (goB true, [], [])
 | 9, [.sl l, .v (.int _ k)] => .by (U.goodR l k) (.is (.tup [.os 0 0 l.length, goI 0], [.arr 2 (U.scanR l k)], [])) (.is (.tup [.sl [], goI 1], [], []))
 | 11, [.sl a, .sl b] => .is (goB (U.sameLR a b), [], [])
 | _, _ => .no
def L5 (n : Nat) (a mv : List (List AV)) (b : Bool) : Nat → St → LT := fun id st => .by b (.is (.exit 0) (mkS 73 [(7, goI n), (8, .sl a), (10, .os 1 0 mv.length)] [.dead, .arr 4 mv])) (.is .ret (mkS 73 [(6, goB true)] [.dead, .dead]))

theorem t5 (l : List Span) (by_ : Int) (regs : Int) (n : Nat) (a : List (List AV)) (mv : List (List AV)) (b : Bool) (r : AV × List Row × List Nat) : (runT Try.prog H F5 (L5 n a mv b) false 5
  [AV.sl (List.map encS l), AV.v (Value.int IntKind.u16 by_), AV.v (Value.int IntKind.u8 regs)] [] fun q => q = r) = (Wf Try.prog H 8 [] [] = some (goB true, [], []) ∧
  iz 33 ≠ 0 ∧
    TB (U.goodR (List.map encS l) (Int.tmod (IntKind.wrap IntKind.i64 regs) 33))
      (Wf Try.prog H 9 [AV.sl (List.map encS l), goI (Int.tmod (IntKind.wrap IntKind.i64 regs) 33)] [] =
          some
            (AV.tup [AV.os 0 0 (List.length (List.map encS l)), goI 0],
              [Row.arr 2 (U.scanR (List.map encS l) (Int.tmod (IntKind.wrap IntKind.i64 regs) 33))], []) ∧
        TB b
          (LoopTo Try.prog H (H 5) 0 (loopOf Try.prog 5 9)
              (mkS 73
                [(0, AV.sl (List.map encS l)), (1, AV.v (Value.int IntKind.u16 by_)),
                  (7, goI (Int.tmod (IntKind.wrap IntKind.i64 regs) 33)),
                  (8,
                    AV.sl
                      (List.take (List.length (List.map encS l))
                        (List.drop 0 (U.scanR (List.map encS l) (Int.tmod (IntKind.wrap IntKind.i64 regs) 33))))),
                  (10, AV.os 1 0 0), (11, goI 0)]
                [Row.dead, Row.arr 4 []])
              (Ex.exit 0,
                mkS 73 [(7, goI (↑n : Int)), (8, AV.sl a), (10, AV.os 1 0 (List.length mv))] [Row.dead, Row.arr 4 mv]) ∧
            TB (U.goodR (List.take (List.length mv) (List.drop 0 mv)) (↑n : Int))
              (Wf Try.prog H 9 [AV.sl (List.take (List.length mv) (List.drop 0 mv)), goI (↑n : Int)] [] =
                  some
                    (AV.tup [AV.os 0 0 (List.length (List.take (List.length mv) (List.drop 0 mv))), goI 0],
                      [Row.arr 2 (U.scanR (List.take (List.length mv) (List.drop 0 mv)) (↑n : Int))], []) ∧
                (List.all (U.scanR (List.take (List.length mv) (List.drop 0 mv)) (↑n : Int)) fun r =>
                      List.all r scalarA) =
                    true ∧
                  Wf Try.prog H 11
                        [AV.sl a,
                          AV.sl
                            (List.take (List.length (List.take (List.length mv) (List.drop 0 mv)))
                              (List.drop 0 (U.scanR (List.take (List.length mv) (List.drop 0 mv)) (↑n : Int))))]
                        [] =
                      some
                        (goB
                            (U.sameLR a
                              (List.take (List.length (List.take (List.length mv) (List.drop 0 mv)))
                                (List.drop 0 (U.scanR (List.take (List.length mv) (List.drop 0 mv)) (↑n : Int))))),
                          [], []) ∧
                    (goB
                          (U.sameLR a
                            (List.take (List.length (List.take (List.length mv) (List.drop 0 mv)))
                              (List.drop 0 (U.scanR (List.take (List.length mv) (List.drop 0 mv)) (↑n : Int))))),
                        [], []) =
                      r)
              (Wf Try.prog H 9 [AV.sl (List.take (List.length mv) (List.drop 0 mv)), goI (↑n : Int)] [] =
                  some (AV.tup [AV.sl [], goI 1], [], []) ∧
                (goB false, [], []) = r))
          (LoopTo Try.prog H (H 5) 0 (loopOf Try.prog 5 9)
              (mkS 73
                [(0, AV.sl (List.map encS l)), (1, AV.v (Value.int IntKind.u16 by_)),
                  (7, goI (Int.tmod (IntKind.wrap IntKind.i64 regs) 33)),
                  (8,
                    AV.sl
                      (List.take (List.length (List.map encS l))
                        (List.drop 0 (U.scanR (List.map encS l) (Int.tmod (IntKind.wrap IntKind.i64 regs) 33))))),
                  (10, AV.os 1 0 0), (11, goI 0)]
                [Row.dead, Row.arr 4 []])
              (Ex.ret, mkS 73 [(6, goB true)] [Row.dead, Row.dead]) ∧
            (goB true, [], []) = r))
      (Wf Try.prog H 9 [AV.sl (List.map encS l), goI (Int.tmod (IntKind.wrap IntKind.i64 regs) 33)] [] =
          some (AV.tup [AV.sl [], goI 1], [], []) ∧
        (goB true, [], []) = r)) := by kernel_rfl
theorem t5_9 (l : List Span) (mv : List Span) (by_ : Int) (n : Nat) (a : List (List AV)) (i : Nat) (r : Ex × St) : (turnT Try.prog H F5 L0 false (H 5) 0 (loopOf Try.prog 5 9)
  (mkS 73
    [(0, AV.sl (List.map encS l)), (1, AV.v (Value.int IntKind.u16 by_)), (7, goI (↑n : Int)), (8, AV.sl a),
      (10, AV.os 1 0 (List.length mv)), (11, goI (↑i : Int))]
    [Row.dead, Row.arr 4 (List.map encS mv)])
  r) = (TB (decide ((↑i : Int) < (↑(List.length (List.map encS l)) : Int)))
  ((0 ≤ (↑i : Int) ∧
      (List.map encS l)[i]? =
        some
          [goI (rdI (rowAt (List.map encS l) i) 0), goI (rdI (rowAt (List.map encS l) i) 1),
            goI (rdI (rowAt (List.map encS l) i) 2), goB (rdB (rowAt (List.map encS l) i) 3)]) ∧
    TB (decide (rdI (rowAt (List.map encS l) i) 2 > 549755813888))
      ((Ex.ret, mkS 73 [(6, goB true)] [Row.dead, Row.dead]) = r)
      (true = true ∧
        (List.length mv = List.length (List.map encS mv) ∧ List.length mv + 1 ≤ 1000000) ∧
          LoopTo Try.prog H (H 5) 0 (loopOf Try.prog 5 9)
            (mkS 73
              [(0, AV.sl (List.map encS l)), (1, AV.v (Value.int IntKind.u16 by_)), (7, goI (↑n : Int)), (8, AV.sl a),
                (10, AV.os 1 0 (List.length mv + 1)), (11, goI (IntKind.wrap IntKind.i64 ((↑i : Int) + 1)))]
              [Row.dead,
                Row.arr 4
                  (List.map encS mv ++
                    [[goI (rdI (rowAt (List.map encS l) i) 0),
                        goI
                          (IntKind.wrap IntKind.i64 (rdI (rowAt (List.map encS l) i) 1 + IntKind.wrap IntKind.i64 by_)),
                        goI
                          (IntKind.wrap IntKind.i64 (rdI (rowAt (List.map encS l) i) 2 + IntKind.wrap IntKind.i64 by_)),
                        goB (rdB (rowAt (List.map encS l) i) 3)]])])
            r))
  ((Ex.exit 0,
      mkS 73 [(7, goI (↑n : Int)), (8, AV.sl a), (10, AV.os 1 0 (List.length mv))]
        [Row.dead, Row.arr 4 (List.map encS mv)]) =
    r)) := by kernel_rfl
namespace U
def sh (c : Int) (s : Span) : Span := ⟨s.v, s.fr + c, s.to + c, s.call⟩
def small (l : List Span) (i : Nat) : Bool := allFrom (fun j => decide ((sp l j).to ≤ 549755813888)) i l.length
end U
theorem sp_sh (l : List Span) (c : Int) {i : Nat} (h : i < l.length) : U.sp (l.map (U.sh c)) i = U.sh c (U.sp l i) := by
  unfold U.sp
  rw [List.getD_eq_getElem?_getD, List.getElem?_map, List.getD_eq_getElem?_getD, List.getElem?_eq_getElem h]; rfl
theorem allFrom_congr {p q : Nat → Bool} {i n : Nat} (h : ∀ j, i ≤ j → j < n → p j = q j) : allFrom p i n = allFrom q i n := by
  rw [Bool.eq_iff_iff, allFrom_iff, allFrom_iff]
  exact ⟨fun a j h1 h2 => (h j h1 h2) ▸ a j h1 h2, fun a j h1 h2 => (h j h1 h2).symm ▸ a j h1 h2⟩
theorem meet_sh (c : Int) (a b : Span) : U.meet (U.sh c a) (U.sh c b) = U.meet a b := by
  unfold U.meet U.sh
  simp
theorem taken_sh (l : List Span) (c : Int) (hs : List Loc) (i : Nat) (n : Int) (hi : i < l.length) (hh : hs.length = l.length) : U.takenFrom (l.map (U.sh c)) hs i n 0 = U.takenFrom l hs i n 0 := by
  unfold U.takenFrom
  rw [allFrom_congr (q := fun j => !(U.takenAt l hs i n j))]
  intro j _ hj
  unfold U.takenAt
  rw [sp_sh l c hi, sp_sh l c (by omega), meet_sh]
theorem slotOf_sh (l : List Span) (c : Int) (hs : List Loc) (i : Nat) (hi : i < l.length) (hh : hs.length = l.length) : U.slotOf (l.map (U.sh c)) hs i = U.slotOf l hs i := by
  unfold U.slotOf
  rw [firstOf_congr (q := fun n : Nat => !(U.takenFrom l hs i n 0))]
  intro j _ _
  rw [taken_sh l c hs i _ hi hh]
theorem far_sh (l : List Span) (c : Int) {a b : Nat} (ha : a < l.length) (hb : b < l.length) : U.far (l.map (U.sh c)) a b = U.far l a b := by
  unfold U.far
  rw [sp_sh l c ha, sp_sh l c hb]
  unfold U.sh
  congr 1
  · simp
  · congr 1
    rw [Bool.eq_iff_iff, beq_iff_eq, beq_iff_eq]
    show (U.sp l a).to + c = (U.sp l b).to + c ↔ (U.sp l a).to = (U.sp l b).to
    omega
theorem regs_lt {m : Nat} {rs : List Int} (h : RegsOk m rs) (hm : 0 < m) {k : Int} (hk : k ∈ rs) : k.toNat < m := by
  rcases h k hk with h1 | h1 <;> omega
theorem pick_sh (l : List Span) (c : Int) (hl : 0 < l.length) : ∀ (rs : List Int) (r f : Nat) (a : Int), RegsOk l.length rs → f < l.length → U.pick (l.map (U.sh c)) rs r f a = U.pick l rs r f a
  | [], _, _, _, _, _ => rfl
  | k :: rs, r, f, a, hr, hf => by
    have hk := regs_lt hr hl (k := k) (by simp)
    have hr' : RegsOk l.length rs := fun x hx => hr x (by simp [hx])
    simp only [U.pick]
    rw [far_sh l c hk hf, pick_sh l c hl rs _ _ _ hr' hk, pick_sh l c hl rs _ _ _ hr' hf]
theorem expire_sh (l : List Span) (c : Int) (p : Int) (rs : List Int) (hr : RegsOk l.length rs) : U.expire (l.map (U.sh c)) (p + c) rs = U.expire l p rs := by
  unfold U.expire
  refine List.map_congr_left (fun k hk => ?_)
  unfold U.expire1
  rcases hr k hk with h | h
  · rw [if_neg (by omega), if_neg (by omega)]
  · rw [sp_sh l c (by omega)]
    have e : (0 ≤ k ∧ (U.sh c (U.sp l k.toNat)).to < p + c) ↔ (0 ≤ k ∧ (U.sp l k.toNat).to < p) := by unfold U.sh; constructor <;> (rintro ⟨a, b⟩; exact ⟨a, by simp only at b ⊢; omega⟩)
    by_cases h2 : 0 ≤ k ∧ (U.sp l k.toNat).to < p
    · rw [if_pos h2, if_pos (e.2 h2)]
    · rw [if_neg h2, if_neg (fun q => h2 (e.1 q))]
theorem place_sh (l : List Span) (c : Int) (i : Nat) (hs : List Loc) (rs : List Int) (hi : i < l.length) (hh : hs.length = l.length) (hr : RegsOk l.length rs) : U.place (l.map (U.sh c)) i hs rs = U.place l i hs rs := by
  have hr1 := expire_ok (p := (U.sp l i).fr) hr
  unfold U.place
  rw [sp_sh l c hi]
  have e1 : (U.sh c (U.sp l i)).call = (U.sp l i).call := rfl
  have e2 : (U.sh c (U.sp l i)).fr = (U.sp l i).fr + c := rfl
  rw [e1, e2, expire_sh l c _ rs hr, slotOf_sh l c hs i hi hh]
  generalize U.expire l (U.sp l i).fr rs = rs1 at hr1 ⊢
  rw [pick_sh l c (by omega) rs1 0 i (-1) hr1 hi]
  have hq : (U.pick l rs1 0 i (-1)).1 < l.length := by
    rcases pick_cases l rs1 0 i (-1) with h | ⟨q, h1, h2⟩
    · rw [h]; exact hi
    · rw [h2]; exact regs_lt hr1 (by omega) (nt_mem h1)
  simp only
  rw [slotOf_sh l c _ _ hq hh, slotOf_sh l c _ _ hq (by simpa using hh)]
theorem upTo_sh (l : List Span) (c : Int) (n : Nat) : ∀ i, i ≤ l.length → U.upTo (l.map (U.sh c)) n i = U.upTo l n i
  | 0, _ => by unfold U.upTo; rw [List.length_map]
  | i + 1, hi => by
    have ih := upTo_sh l c n i (by omega)
    have e : U.upTo (l.map (U.sh c)) n (i + 1) = U.place (l.map (U.sh c)) i (U.upTo (l.map (U.sh c)) n i).1 (U.upTo (l.map (U.sh c)) n i).2 := rfl
    rw [e, ih, place_sh l c i _ _ (by omega) (upTo_len l n i).1 (upTo_regs l n i (by omega))]
    rfl
theorem scan_sh (l : List Span) (c : Int) (n : Nat) : U.scan (l.map (U.sh c)) n = U.scan l n := by
  unfold U.scan
  rw [List.length_map, upTo_sh l c n _ (Nat.le_refl _)]
theorem right_sh {l : List Span} {c : Int} (hc : 0 ≤ c ∧ c ≤ 65535) (h : U.right l = true) (hs : U.small l 0 = true) : U.right (l.map (U.sh c)) = true := by
  have hl := right_len h
  unfold U.right
  rw [Bool.and_eq_true, List.length_map, decide_eq_true_eq]
  refine ⟨hl, allFrom_iff.2 (fun i _ hi => ?_)⟩
  rw [List.length_map] at hi
  have hsm : (U.sp l i).to ≤ 549755813888 := by simpa using allFrom_iff.1 hs i (Nat.zero_le _) hi
  obtain ⟨h1, h2, h3⟩ := right_ok h hi
  have ha := right_at h hi
  unfold U.rightAt at ha
  rw [Bool.and_eq_true, Bool.and_eq_true] at ha
  have hok : U.okAt (l.map (U.sh c)) i = true := by
    refine ok_yes ?_ ?_ ?_ <;> (rw [sp_sh l c hi]; unfold U.sh; simp only; omega)
  refine right_yes hok ?_ ?_
  · have hr := ha.2.1
    unfold U.riseAt at hr ⊢
    rw [← hr]
    congr 1
    rw [sp_sh l c hi, sp_sh l c (by omega)]
    unfold U.rise U.sh
    congr 1
    · simp
    · congr 1
      rw [Bool.eq_iff_iff, beq_iff_eq, beq_iff_eq]
      show (U.sp l (i - 1)).fr + c = (U.sp l i).fr + c ↔ (U.sp l (i - 1)).fr = (U.sp l i).fr
      omega
  · rw [← ha.2.2]
    refine allFrom_congr (fun j _ hj => ?_)
    rw [sp_sh l c hi, sp_sh l c (by omega)]
    rfl
theorem small_step (l : List Span) {i : Nat} (h : i < l.length) : U.small l i = (decide ((U.sp l i).to ≤ 549755813888) && U.small l (i + 1)) := allFrom_step _ h
theorem small_end {l : List Span} {i : Nat} (h : l.length ≤ i) : U.small l i = true := allFrom_end _ h
theorem take_sp {l : List Span} {i : Nat} (h : i < l.length) : l.take (i + 1) = l.take i ++ [U.sp l i] := by
  rw [List.take_add_one, List.getElem?_eq_getElem h]; unfold U.sp; rw [List.getD_eq_getElem?_getD, List.getElem?_eq_getElem h]; rfl
theorem loop5_9 (l : List Span) (by_ : Int) (n : Nat) (a : List (List AV)) (hb : 0 ≤ by_ ∧ by_ ≤ 65535) (hR : U.right l = true) : ∀ (d i : Nat), i + d = l.length →
    LoopTo Try.prog H (H 5) 0 (loopOf Try.prog 5 9) (mkS 73 [(0, .sl (l.map encS)), (1, .v (.int .u16 by_)), (7, goI n), (8, .sl a), (10, .os 1 0 i), (11, goI i)] [.dead, .arr 4 (((l.take i).map (U.sh by_)).map encS)])
      (if U.small l i then (.exit 0, mkS 73 [(7, goI n), (8, .sl a), (10, .os 1 0 l.length)] [.dead, .arr 4 ((l.map (U.sh by_)).map encS)]) else (.ret, mkS 73 [(6, goB true)] [.dead, .dead]))
  | 0, i, hd => by
    have hi : i = l.length := by omega
    subst hi
    have h := t5_9 l ((l.take l.length).map (U.sh by_)) by_ n a l.length (if U.small l l.length then (.exit 0, mkS 73 [(7, goI n), (8, .sl a), (10, .os 1 0 l.length)] [.dead, .arr 4 ((l.map (U.sh by_)).map encS)]) else (.ret, mkS 73 [(6, goB true)] [.dead, .dead]))
    rw [List.take_length, List.length_map] at h
    rw [List.take_length]
    refine turnK h ?_
    rw [List.length_map, decide_eq_false (by omega), small_end (by omega)]
    exact rfl
  | d + 1, i, hd => by
    have hi : i < l.length := by omega
    have hl := right_len hR
    have ih := loop5_9 l by_ n a hb hR d (i + 1) (by omega)
    have hml : ((l.take i).map (U.sh by_)).length = i := by simp; omega
    have h := t5_9 l ((l.take i).map (U.sh by_)) by_ n a i (if U.small l i then (.exit 0, mkS 73 [(7, goI n), (8, .sl a), (10, .os 1 0 l.length)] [.dead, .arr 4 ((l.map (U.sh by_)).map encS)]) else (.ret, mkS 73 [(6, goB true)] [.dead, .dead]))
    rw [hml] at h
    refine turnK h ?_
    obtain ⟨h1, h2, h3⟩ := right_ok hR hi
    rw [List.length_map, decide_eq_true (by omega), wrapS hi (by omega), rowS hi, getS hi, small_step l hi]
    simp only [rdI, rdB, List.getD_cons_zero, List.getD_cons_succ, int_goI, bool_goB]
    refine ⟨⟨by omega, by trivial⟩, ?_⟩
    by_cases h4 : (U.sp l i).to ≤ 549755813888
    · rw [decide_eq_false (show ¬ (U.sp l i).to > 549755813888 by omega), decide_eq_true h4]
      have w1 : IntKind.i64.wrap by_ = by_ := by rw [wrap64] <;> omega
      have w2 : IntKind.i64.wrap ((U.sp l i).fr + by_) = (U.sp l i).fr + by_ := by rw [wrap64] <;> omega
      have w3 : IntKind.i64.wrap ((U.sp l i).to + by_) = (U.sp l i).to + by_ := by rw [wrap64] <;> omega
      rw [w1, w2, w3]
      have e : ((l.take (i + 1)).map (U.sh by_)).map encS = ((l.take i).map (U.sh by_)).map encS ++ [[goI (U.sp l i).v, goI ((U.sp l i).fr + by_), goI ((U.sp l i).to + by_), goB (U.sp l i).call]] := by
        rw [take_sp hi, List.map_append, List.map_append]; rfl
      rw [e] at ih
      exact ⟨True.intro, ⟨by rw [List.length_map, hml], by omega⟩, ih⟩
    · rw [decide_eq_true (show (U.sp l i).to > 549755813888 by omega), decide_eq_false h4]
      exact rfl
theorem wf5 (l : List Span) (by_ regs : Int) (hb : 0 ≤ by_ ∧ by_ ≤ 65535) (hr : 0 ≤ regs ∧ regs ≤ 255) (hw : ∀ s ∈ l, In64 s.v) : Wf Try.prog H 5 [.sl (l.map encS), .v (.int .u16 by_), .v (.int .u8 regs)] [] = some (goB true, [], []) := by
  have w1 : IntKind.i64.wrap regs = regs := by rw [wrap64] <;> omega
  have e1 : Int.tmod regs 33 = ((regs.toNat % 33 : Nat) : Int) := by
    rw [Int.tmod_eq_emod_of_nonneg hr.1]; omega
  have hn : regs.toNat % 33 ≤ 32 := by omega
  generalize regs.toNat % 33 = n at e1 hn
  cases hg : U.good l n with
  | false =>
    refine runK (t5 l by_ regs 0 [] [] true _) ⟨wf8, by decide, ?_⟩
    rw [w1, e1, goodR_map, hg]
    exact ⟨wf9_no l n hw (good_no hg), rfl⟩
  | true =>
    obtain ⟨n', hn1, _, hR⟩ := good_of hg
    have hl := right_len hR
    have h9 := wf9 l n hw hn hR
    have hsl : ((l.map (U.sh by_)).map encS).length = l.length := by simp
    have h5 := loop5_9 l by_ n ((U.scan l n).map encL) hb hR l.length 0 (by omega)
    have ht := t5 l by_ regs n ((U.scan l n).map encL) ((l.map (U.sh by_)).map encS) (U.small l 0) (goB true, [], [])
    have etk : List.take l.length (List.drop 0 ((l.map (U.sh by_)).map encS)) = (l.map (U.sh by_)).map encS := by
      have h := take_map encS (l.map (U.sh by_))
      rw [List.length_map] at h
      exact h
    have etk2 : List.take l.length (List.drop 0 ((U.scan (l.map (U.sh by_)) n).map encL)) = (U.scan l n).map encL := by rw [scan_sh]; exact take_scan l n
    rw [hsl, etk, hsl, w1, e1, goodR_map, scanR_map, List.length_map, take_scan, goodR_map, scanR_map, etk2, scan_sh, sameLR_map, selfL] at ht
    refine runK ht ⟨wf8, by decide, ?_⟩
    rw [hg]
    refine ⟨h9, ?_⟩
    cases hs : U.small l 0 with
    | false =>
      rw [hs] at h5
      exact ⟨h5, rfl⟩
    | true =>
      rw [hs] at h5
      have hR' := right_sh (c := by_) hb hR hs
      have hg' : U.good (l.map (U.sh by_)) n = true := by
        unfold U.good
        rw [hR', decide_eq_false (by omega), decide_eq_false (by omega)]; rfl
      have hw' : ∀ s ∈ l.map (U.sh by_), In64 s.v := fun s hs => by
        obtain ⟨t, ht, rfl⟩ := List.mem_map.1 hs
        exact hw t ht
      have h9' := wf9 (l.map (U.sh by_)) n hw' hn hR'
      have h11 := wf11 (U.scan l n) (U.scan l n) (by rw [scan_len]; omega)
      rw [selfL] at h11
      rw [List.length_map, scan_sh] at h9'
      rw [hg']
      exact ⟨h5, h9', scalarL _, h11, rfl⟩
end Go.Proofs.Ythbkemkjkpaoaac.E
