/- The package dom, function by function. -/
import Derived.Test.YtabdcfcnngnnoaaDoor06b
set_option linter.unusedVariables false
set_option linter.unusedSectionVars false
set_option linter.unusedSimpArgs false
set_option maxRecDepth 100000
namespace Go.Proofs.YtabdcfcnngnnoaaDoor.E
open Go
namespace U
noncomputable def aboveL (bl : List XB) : List Int := (List.range bl.length).map fun (b : Nat) => aboveD (nextAt bl) bl.length (b : Int)
noncomputable def kidsD (bl : List XB) (b : Int) : List Int := kidsOf (aboveL bl) b bl.length
end U
theorem aboveL_len (bl : List XB) : (U.aboveL bl).length = bl.length := by unfold U.aboveL; rw [List.length_map, List.length_range]
theorem aboveL_at {bl : List XB} {b : Nat} (hb : b < bl.length) : U.nt (U.aboveL bl) b = U.aboveD (U.nextAt bl) bl.length b := by
  unfold U.nt U.aboveL
  rw [List.getD_eq_getElem?_getD, List.getElem?_map, List.getElem?_range hb]; rfl
theorem withW {s l : List Int} (h : Bit.Wd s) : Bit.Wd (U.withL s l) := Bit.neatL_Wd (Bit.puts_Wd l s h)
theorem withLen (s l : List Int) (h : s.length ≤ 1000) : (U.withL s l).length ≤ 1000 := by
  have h1 := puts_len l s h
  have h2 := Bit.neatL_length_le (l.foldl Bit.putL s)
  unfold U.withL; omega
theorem tb_with1 (s : List Int) (c x : Nat) (hc : c < 4096) : Bit.tb (U.withL s [(c : Int)]) x = true ↔ Bit.tb s x = true ∨ x = c := by
  unfold U.withL
  rw [Bit.tb_congr (Bit.neatL_getD _), Bit.tb_puts, Bool.or_eq_true, Bool.and_eq_true, decide_eq_true_iff, decide_eq_true_iff, List.mem_singleton]
  constructor
  · rintro (h | ⟨h, _⟩)
    · exact .inl h
    · exact .inr (by omega)
  · rintro (h | h)
    · exact .inl h
    · exact .inr ⟨by omega, by omega⟩
theorem take_with (s l : List Int) : List.take (U.withL s l).length (List.drop 0 ((l.foldl Bit.putL s).map encU)) = (U.withL s l).map encU := by
  rw [List.drop_zero, ← List.map_take]; unfold U.withL; rw [neat_take]
section
variable {bl : List XB} (hl : bl.length ≤ 3000) {od pl ab dp : List Int} (B : Base (U.nextAt bl) bl.length od pl) (X : Exact (U.nextAt bl) bl.length pl ab) (Q : Deep bl.length pl ab dp)
include hl B X Q
theorem df_of {x : Nat} (hx : x < bl.length) (h : 0 ≤ U.nt pl x) : Df bl.length pl ab x := (X.all x hx h).1
theorem ab_is : ab = U.aboveL bl := nt_ext (by rw [X.tr.len, aboveL_len]) fun i hi => by
  rw [X.tr.len] at hi
  rw [aboveL_at hi, aboveD_is B X hi]
theorem dp_at {x : Nat} (hx : x < bl.length) : rdI (rowAt (dp.map encI) x) 0 = U.nt dp x := by rw [rowI (by rw [Q.len]; exact hx)]; rfl
theorem dp_get {x : Nat} (hx : x < bl.length) : (dp.map encI)[x]? = some [goI (U.nt dp x)] := getI (by rw [Q.len]; exact hx)
theorem ab_at {x : Nat} (hx : x < bl.length) : rdI (rowAt (ab.map encI) x) 0 = U.nt ab x := by rw [rowI (by rw [X.tr.len]; exact hx)]; rfl
theorem ab_get {x : Nat} (hx : x < bl.length) : (ab.map encI)[x]? = some [goI (U.nt ab x)] := getI (by rw [X.tr.len]; exact hx)
theorem ab_in {x : Nat} (hx : x < bl.length) : 0 ≤ (x : Int) ∧ (x : Int) < (bl.length : Int) ∧ x < (ab.map encI).length := ⟨by omega, by omega, by rw [List.length_map, X.tr.len]; exact hx⟩
theorem dp_in {x : Nat} (hx : x < bl.length) : 0 ≤ (x : Int) ∧ (x : Int) < (bl.length : Int) ∧ x < (dp.map encI).length := ⟨by omega, by omega, by rw [List.length_map, Q.len]; exact hx⟩
theorem thR_iff (x : Int) : U.thR (dp.map encI) x = true ↔ 0 ≤ x ∧ x < bl.length ∧ 0 ≤ U.nt pl x.toNat := by
  unfold U.thR
  rw [Bool.and_eq_true, Bool.and_eq_true, decide_eq_true_iff, decide_eq_true_iff, decide_eq_true_iff, List.length_map, Q.len]
  by_cases hx : 0 ≤ x ∧ x < bl.length
  · rw [dp_at hl B X Q (x := x.toNat) (by omega), ge_iff_le, ge_iff_le, there_iff B X Q (x := x.toNat) (by omega)]
  · constructor <;> intro h <;> omega
theorem wd52 (x : Int) : Wf Tryd.prog H 42 [.pt 0 0 0, goI x] (tS bl.length ab dp) = some (goB (U.thR (dp.map encI) x), tS bl.length ab dp, []) := by
  refine runK (td52 bl.length ab dp x _) ?_
  unfold U.thR
  rw [List.length_map, Q.len]
  cases h0 : decide (x ≥ 0) with
  | false => rw [Bool.false_and]; exact rfl
  | true =>
    cases h1 : decide (x < (bl.length : Int)) with
    | false => rw [Bool.true_and, Bool.false_and]; exact rfl
    | true =>
      rw [Bool.true_and, Bool.true_and]
      rw [decide_eq_true_iff] at h0 h1
      obtain ⟨y, rfl⟩ := Int.eq_ofNat_of_zero_le h0
      have hy : y < bl.length := by omega
      rw [Int.toNat_natCast, Nat.zero_add, dp_at hl B X Q hy, dp_get hl B X Q hy]
      exact ⟨⟨by omega, by omega, hy⟩, rfl, rfl⟩
theorem loopd49 {a : Nat} (ha : Df bl.length pl ab a) : ∀ (k b : Nat), Df bl.length pl ab b → U.nt dp b - U.nt dp a ≤ k →
    LoopTo Tryd.prog H (H 39) 3 (loopOf Tryd.prog 39 3) (mkS 42 [(0, .pt 0 0 0), (1, goI a), (2, goI b)] (tS bl.length ab dp)) (.exit 0, mkS 42 [(1, goI a), (2, goI (U.climbS ab dp a k b))] (tS bl.length ab dp)) := by
  intro k
  have fin : ∀ b : Nat, Df bl.length pl ab b → ¬ (U.nt dp b > U.nt dp a) → LoopTo Tryd.prog H (H 39) 3 (loopOf Tryd.prog 39 3) (mkS 42 [(0, .pt 0 0 0), (1, goI a), (2, goI b)] (tS bl.length ab dp)) (.exit 0, mkS 42 [(1, goI a), (2, goI b)] (tS bl.length ab dp)) := fun b hb h => by
    refine turnK (td49_3 bl.length ab dp a b _) ?_
    rw [Int.toNat_natCast, Int.toNat_natCast, Nat.zero_add, Nat.zero_add, dp_at hl B X Q hb.1, dp_at hl B X Q ha.1, dp_get hl B X Q hb.1, dp_get hl B X Q ha.1, decide_eq_false h]
    exact ⟨dp_in hl B X Q hb.1, rfl, dp_in hl B X Q ha.1, rfl, rfl⟩
  induction k with
  | zero => exact fun b hb h => fin b hb (by omega)
  | succ k ih =>
    intro b hb h
    unfold U.climbS
    rw [Int.toNat_natCast, Int.toNat_natCast]
    by_cases hc : U.nt dp b > U.nt dp a
    · rw [if_pos hc]
      have hb0 : b ≠ 0 := fun e => by
        subst e
        have := Q.z
        have := deep_at B X Q ha.1 ha.2.1
        omega
      have hab : 0 ≤ U.nt ab b := by
        rcases hb.2.2 with q | q
        · exact absurd q hb0
        · exact q
      have hy := df_up B X.tr hb hab
      have hq := Q.up b hb.1 hb0 hb.2.1
      have ihn := ih (U.nt ab b).toNat hy.1 (by omega)
      rw [show (((U.nt ab b).toNat : Nat) : Int) = U.nt ab b by omega] at ihn
      refine turnK (td49_3 bl.length ab dp a b _) ?_
      rw [Int.toNat_natCast, Int.toNat_natCast, Nat.zero_add, Nat.zero_add, dp_at hl B X Q hb.1, dp_at hl B X Q ha.1, dp_get hl B X Q hb.1, dp_get hl B X Q ha.1, decide_eq_true hc, ab_at hl B X Q hb.1, ab_get hl B X Q hb.1]
      exact ⟨dp_in hl B X Q hb.1, rfl, dp_in hl B X Q ha.1, rfl, ab_in hl B X Q hb.1, rfl, ihn⟩
    · rw [if_neg hc]
      exact fin b hb hc
theorem th_of {a b : Int} (h : U.domB (U.nextAt bl) bl.length a b = true) : U.thR (dp.map encI) a = true ∧ U.thR (dp.map encI) b = true := by
  obtain ⟨h1, h2, h3, h4, h5⟩ := (domB_iff B.hn a b).1 h
  exact ⟨(thR_iff hl B X Q a).2 ⟨h1, h3, (B.rch (by omega)).2 (dom_way h5)⟩, (thR_iff hl B X Q b).2 ⟨h2, h4, (B.rch (by omega)).2 h5.1⟩⟩
theorem wd49 (a b : Int) : Wf Tryd.prog H 39 [.pt 0 0 0, goI a, goI b] (tS bl.length ab dp) = some (goB (U.domB (U.nextAt bl) bl.length a b), tS bl.length ab dp, []) := by
  have wa := wd52 hl B X Q a
  have wb := wd52 hl B X Q b
  cases ha : U.thR (dp.map encI) a with
  | false =>
    have e : U.domB (U.nextAt bl) bl.length a b = false := by
      cases hd : U.domB (U.nextAt bl) bl.length a b with
      | false => rfl
      | true => have := (th_of hl B X Q hd).1; rw [ha] at this; cases this
    rw [e]
    refine runK (td49 bl.length ab dp a b 0 _) ?_
    rw [ha] at wa ⊢
    exact ⟨wa, rfl⟩
  | true =>
    cases hb : U.thR (dp.map encI) b with
    | false =>
      have e : U.domB (U.nextAt bl) bl.length a b = false := by
        cases hd : U.domB (U.nextAt bl) bl.length a b with
        | false => rfl
        | true => have := (th_of hl B X Q hd).2; rw [hb] at this; cases this
      rw [e]
      refine runK (td49 bl.length ab dp a b 0 _) ?_
      rw [ha] at wa ⊢
      rw [hb] at wb ⊢
      exact ⟨wa, wb, rfl⟩
    | true =>
      obtain ⟨a0, a1, a2⟩ := (thR_iff hl B X Q a).1 ha
      obtain ⟨b0, b1, b2⟩ := (thR_iff hl B X Q b).1 hb
      obtain ⟨a, rfl⟩ := Int.eq_ofNat_of_zero_le a0
      obtain ⟨b, rfl⟩ := Int.eq_ofNat_of_zero_le b0
      rw [Int.toNat_natCast] at a2 b2
      have da := df_of hl B X Q (x := a) (by omega) a2
      have db := df_of hl B X Q (x := b) (by omega) b2
      obtain ⟨c, c1, c2, c3⟩ := climb_ok B X Q da (U.nt dp b - U.nt dp a).toNat b db (by omega)
      have lp := loopd49 hl B X Q da (U.nt dp b - U.nt dp a).toNat b db (by omega)
      rw [c1] at lp
      have e : U.domB (U.nextAt bl) bl.length a b = ((a : Int) == (c : Int)) := by
        rw [Bool.eq_iff_iff, beq_iff_eq, c3, domB_iff B.hn, up_iff B X db.1 b2, Int.toNat_natCast, Int.toNat_natCast]
        exact ⟨fun h => h.2.2.2.2, fun h => ⟨a0, b0, a1, b1, h⟩⟩
      rw [e]
      refine runK (td49 bl.length ab dp a b c _) ?_
      rw [ha] at wa ⊢
      rw [hb] at wb ⊢
      exact ⟨wa, wb, lp, rfl⟩
theorem loopd53 : ∀ (k b : Nat) (s : List Int), Df bl.length pl ab b → U.nt pl b < k → Bit.Wd s → s.length ≤ 1000 → ∃ w,
    LoopTo Tryd.prog H (H 41) 3 (loopOf Tryd.prog 41 4) (mkS 33 [(0, .pt 0 0 0), (1, goI b), (5, .sl (s.map encU))] (tS bl.length ab dp)) (.exit 0, mkS 33 [(5, .sl (w.map encU))] (tS bl.length ab dp))
      ∧ Bit.Wd w ∧ w.length ≤ 1000 ∧ ∀ x : Nat, Bit.tb w x = true ↔ Bit.tb s x = true ∨ (Up ab b x ∧ x ≠ b) := by
  intro k
  induction k with
  | zero => intro b s hb hk _ _; have := hb.2.1; omega
  | succ k ih =>
    intro b s hb hk hw hsl
    by_cases h0 : U.nt ab b ≥ 0
    · have hy := df_up B X.tr hb h0
      have hc : (((U.nt ab b).toNat : Nat) : Int) = U.nt ab b := by omega
      obtain ⟨w, w1, w2, w3, w4⟩ := ih (U.nt ab b).toNat (U.withL s [U.nt ab b]) hy.1 (by omega) (withW hw) (withLen _ _ hsl)
      rw [hc] at w1
      have hcall := wb16 s [U.nt ab b] hw hsl (by simp)
      refine ⟨w, turnK (td53_4 bl.length ab dp b s (U.withL s [U.nt ab b]).length ([U.nt ab b].foldl Bit.putL s) _) ?_, w2, w3, fun x => ?_⟩
      · rw [Int.toNat_natCast, Nat.zero_add, ab_at hl B X Q hb.1, ab_get hl B X Q hb.1, decide_eq_true h0, take_with]
        exact ⟨ab_in hl B X Q hb.1, rfl, ab_in hl B X Q hb.1, rfl, hcall, w1⟩
      · rw [w4 x, ← hc, tb_with1 _ _ _ (by have := hy.1.1; omega), Int.toNat_natCast]
        constructor
        · rintro ((q | q) | ⟨q1, q2⟩)
          · exact .inl q
          · subst q
            exact .inr ⟨.step b _ h0 (.refl _), fun e => by rw [e] at hy; omega⟩
          · refine .inr ⟨.step b _ h0 q1, fun e => ?_⟩
            subst e
            have := up_le B X.tr q1 hy.1
            omega
        · rintro (q | ⟨q1, q2⟩)
          · exact .inl (.inl q)
          · cases q1 with
            | refl => exact absurd rfl q2
            | step _ _ _ g =>
              by_cases e : x = (U.nt ab b).toNat
              · exact .inl (.inr e)
              · exact .inr ⟨g, e⟩
    · refine ⟨s, turnK (td53_4 bl.length ab dp b s 0 [] _) ?_, hw, hsl, fun x => ?_⟩
      · rw [Int.toNat_natCast, Nat.zero_add, ab_at hl B X Q hb.1, ab_get hl B X Q hb.1, decide_eq_false h0]
        exact ⟨ab_in hl B X Q hb.1, rfl, rfl⟩
      · constructor
        · exact .inl
        · rintro (q | ⟨q1, q2⟩)
          · exact q
          · cases q1 with
            | refl => exact absurd rfl q2
            | step _ _ g _ => omega
theorem wd53 (b : Int) : ∃ w, Wf Tryd.prog H 41 [.pt 0 0 0, goI b] (tS bl.length ab dp) = some (.sl (w.map encU), tS bl.length ab dp, []) ∧ Bit.Wd w ∧ w.length ≤ 1000 ∧ ∀ x : Nat, Bit.tb w x = true ↔ (U.thR (dp.map encI) b = true ∧ Up ab b.toNat x) := by
  have wt := wd52 hl B X Q b
  cases hb : U.thR (dp.map encI) b with
  | false =>
    refine ⟨[], runK (td53 bl.length ab dp b 0 [] [] _) ?_, Bit.Wd.nil, by simp, fun x => ?_⟩
    · rw [hb] at wt ⊢
      exact ⟨wt, rfl⟩
    · constructor
      · intro h; simp [Bit.tb] at h
      · intro h; cases h.1
  | true =>
    obtain ⟨b0, b1, b2⟩ := (thR_iff hl B X Q b).1 hb
    obtain ⟨b, rfl⟩ := Int.eq_ofNat_of_zero_le b0
    rw [Int.toNat_natCast] at b2 ⊢
    have db := df_of hl B X Q (x := b) (by omega) b2
    obtain ⟨w, w1, w2, w3, w4⟩ := loopd53 hl B X Q (U.nt pl b + 1).toNat b (U.withL [] [(b : Int)]) db (by omega) (withW Bit.Wd.nil) (withLen _ _ (by simp))
    have h65 : Wf Tryd.prog H 54 [.sl [[goI b]]] [] = some (.sl ((U.withL [] [(b : Int)]).map encU), [], []) := by
      refine runK (td65 [(b : Int)] ([(b : Int)].foldl Bit.putL []) (U.withL [] [(b : Int)]).length _) ?_
      rw [take_with]
      exact ⟨wb16 [] [(b : Int)] Bit.Wd.nil (by simp) (by simp), rfl⟩
    refine ⟨w, runK (td53 bl.length ab dp b 0 (U.withL [] [(b : Int)]) w _) ?_, w2, w3, fun x => ?_⟩
    · rw [hb] at wt ⊢
      exact ⟨wt, h65, w1, rfl⟩
    · rw [w4 x, tb_with1 _ _ _ (by omega)]
      constructor
      · rintro ((q | q) | ⟨q, _⟩)
        · simp [Bit.tb] at q
        · subst q; exact ⟨rfl, .refl _⟩
        · exact ⟨rfl, q⟩
      · rintro ⟨_, q⟩
        by_cases e : x = b
        · exact .inl (.inr e)
        · exact .inr ⟨q, e⟩
theorem loopd36 {a : Nat} (ha : Df bl.length pl ab a) (s : List Int) (hw : Bit.Wd s) (hsl : s.length ≤ 1000) (hs : ∀ x : Nat, Bit.tb s x = true ↔ Up ab a x) : ∀ (k b : Nat), Df bl.length pl ab b → U.nt pl b < k →
    LoopTo Tryd.prog H (H 16) 0 (loopOf Tryd.prog 16 5) (mkS 36 [(2, goI b), (7, .pt 1 0 0), (8, .sl (s.map encU))] [.dead, .box [.os 2 0 bl.length, .os 3 0 bl.length], .arr 1 (ab.map encI), .arr 1 (dp.map encI)])
      (.exit 0, mkS 36 [(2, goI (U.firstUp ab (Bit.hasB s) k b))] [.dead, .dead, .dead, .dead]) := by
  intro k
  induction k with
  | zero => intro b hb hk; have := hb.2.1; omega
  | succ k ih =>
    intro b hb hk
    unfold U.firstUp
    have hcall := wb42 hw (b : Int) (by have := hb.1; omega) (by omega)
    refine turnK (td36_5 b bl.length ab dp s (Bit.hasB s b) _) ⟨hcall, ?_⟩
    cases hq : Bit.hasB s b with
    | true => rw [if_pos rfl]; exact rfl
    | false =>
      rw [if_neg (by simp), Int.toNat_natCast, Nat.zero_add, ab_at hl B X Q hb.1, ab_get hl B X Q hb.1]
      have hna : ¬ Up ab a b := fun q => by
        rw [← hs] at q
        unfold Bit.hasB at hq
        rw [Int.toNat_natCast, q, decide_eq_true (by omega)] at hq
        cases hq
      have hb0 : b ≠ 0 := fun e => by
        subst e
        exact hna (dom_Up B X.tr X.sd ha (dom_zero ((B.rch ha.1).1 ha.2.1)))
      have hab : 0 ≤ U.nt ab b := by
        rcases hb.2.2 with q | q
        · exact absurd q hb0
        · exact q
      have hy := df_up B X.tr hb hab
      have ihn := ih (U.nt ab b).toNat hy.1 (by omega)
      rw [show (((U.nt ab b).toNat : Nat) : Int) = U.nt ab b by omega] at ihn
      exact ⟨ab_in hl B X Q hb.1, rfl, ihn⟩
end
section
variable (ks bs : List (List AV)) (p q : Int) (bl : List XB) (hc : CodeOk bl) (hl : bl.length ≤ 3000) (h0 : 0 < bl.length) (hT : TgtOk bl)
include hc hl h0 hT
theorem wd31 (a b : Int) : Wf Tryd.prog H 11 [.agg [.sl ks, .sl bs, goI p, goI q, .sl (bl.map encB)], goI a, goI b] [] = some (goB (U.domB (U.nextAt bl) bl.length a b), [], []) := by
  obtain ⟨od, pl, ab, dp, w, B, _, X, Q⟩ := wd48 ks bs p q bl hc hl h0 hT
  exact runK (td31 ks bs p q bl a b bl.length ab dp _ _) ⟨w, wd49 hl B X Q a b, rfl⟩
theorem wd32 : Wf Tryd.prog H 35 [.agg [.sl ks, .sl bs, goI p, goI q, .sl (bl.map encB)]] [] = some (.os 0 0 bl.length, [.arr 1 ((U.aboveL bl).map encI)], []) := by
  obtain ⟨od, pl, ab, dp, w, B, _, X, Q⟩ := wd48 ks bs p q bl hc hl h0 hT
  have e := ab_is hl B X Q
  subst e
  exact runK (td32 ks bs p q bl bl.length (U.aboveL bl) dp _) ⟨w, rfl⟩
theorem wd36 (a b : Int) : Wf Tryd.prog H 16 [.agg [.sl ks, .sl bs, goI p, goI q, .sl (bl.map encB)], goI a, goI b] [] = some (goI (U.meetD (U.nextAt bl) bl.length a b), [], []) := by
  obtain ⟨od, pl, ab, dp, w, B, _, X, Q⟩ := wd48 ks bs p q bl hc hl h0 hT
  have wa := wd52 hl B X Q a
  have wb := wd52 hl B X Q b
  cases ha : U.thR (dp.map encI) a with
  | false =>
    have e : U.meetD (U.nextAt bl) bl.length a b = -1 := meetD_no B fun h => by
      rw [(thR_iff hl B X Q a).2 ⟨h.1, h.2.1, h.2.2.2.2.1⟩] at ha; cases ha
    rw [e]
    refine runK (td36 ks bs p q bl a b 0 bl.length ab dp [] _) ?_
    rw [ha] at wa ⊢
    exact ⟨w, wa, rfl⟩
  | true =>
    cases hb : U.thR (dp.map encI) b with
    | false =>
      have e : U.meetD (U.nextAt bl) bl.length a b = -1 := meetD_no B fun h => by
        rw [(thR_iff hl B X Q b).2 ⟨h.2.2.1, h.2.2.2.1, h.2.2.2.2.2⟩] at hb; cases hb
      rw [e]
      refine runK (td36 ks bs p q bl a b 0 bl.length ab dp [] _) ?_
      rw [ha] at wa ⊢
      rw [hb] at wb ⊢
      exact ⟨w, wa, wb, rfl⟩
    | true =>
      obtain ⟨s, s1, s2, s3, s4⟩ := wd53 hl B X Q a
      rw [ha] at s4
      obtain ⟨a0, a1, a2⟩ := (thR_iff hl B X Q a).1 ha
      obtain ⟨b0, b1, b2⟩ := (thR_iff hl B X Q b).1 hb
      obtain ⟨a, rfl⟩ := Int.eq_ofNat_of_zero_le a0
      obtain ⟨b, rfl⟩ := Int.eq_ofNat_of_zero_le b0
      rw [Int.toNat_natCast] at a2 b2 s4
      have da := df_of hl B X Q (x := a) (by omega) a2
      have db := df_of hl B X Q (x := b) (by omega) b2
      have hs : ∀ x : Nat, Bit.tb s x = true ↔ Up ab a x := fun x => (s4 x).trans ⟨fun h => h.2, fun h => ⟨rfl, h⟩⟩
      have hh : ∀ x : Nat, Bit.hasB s x = true ↔ Up ab a x := fun x => by
        unfold Bit.hasB
        rw [Int.toNat_natCast, decide_eq_true (by omega), Bool.true_and]
        exact hs x
      obtain ⟨m, m1, m2, m3, m4⟩ := firstUp_ok B X da db (Bit.hasB s) hh (U.nt pl b + 1).toNat b (.refl _) (by omega) (fun z _ h => h)
      have lp := loopd36 hl B X Q da s s2 s3 hs (U.nt pl b + 1).toNat b db (by omega)
      rw [m1] at lp
      rw [meetD_is B X da.1 db.1 a2 b2 m2 m3 m4]
      refine runK (td36 ks bs p q bl a b m bl.length ab dp s _) ?_
      rw [ha] at wa ⊢
      rw [hb] at wb ⊢
      exact ⟨w, wa, wb, s1, lp, rfl⟩
end
end Go.Proofs.YtabdcfcnngnnoaaDoor.E
