/- dom.grow: the rounds, the depths, and the whole. -/
import Derived.Test.YtabdcfcnngnnoaaDoor06a
set_option linter.unusedVariables false
set_option linter.unusedSectionVars false
set_option linter.unusedSimpArgs false
set_option maxRecDepth 100000
namespace Go.Proofs.YtabdcfcnngnnoaaDoor.E
open Go
/-- Each target is a block, and never the first. -/
def TgtOk (bl : List XB) : Prop := ∀ i : Nat, i < bl.length → ∀ t ∈ U.nextAt bl i, 1 ≤ t ∧ t < bl.length
theorem tgtOk_of {P : List XF} (h : U.okProg P = true) {i : Nat} (hi : i < P.length) : TgtOk (U.fun_ P i).blocks := by
  intro b hb t ht
  have hf := funcOk_of (okFunc_at h (fun_mem hi))
  obtain ⟨c1, c2⟩ := hf.code _ (blk_mem hb)
  unfold U.nextAt at ht
  rw [if_neg (by omega), Int.toNat_natCast, if_neg (by omega)] at ht
  have hx := okIns_at h hi (blk_mem hb) (ins_mem (i := (U.blk (U.fun_ P i).blocks b).code.length - 1) (by omega))
  unfold U.okIns at hx
  simp only [Bool.and_eq_true] at hx
  have := (inFrom_iff _ _ _).1 hx.1.2 t ht
  omega
theorem nx_of {bl : List XB} (hT : TgtOk bl) : ∀ x : Int, 0 ≤ x → x < bl.length → ∀ y ∈ U.nextAt bl x, 0 ≤ y ∧ y < bl.length := fun x h0 h1 y hy => by
  have := hT x.toNat (by omega) y (by rw [show ((x.toNat : Nat) : Int) = x by omega]; exact hy)
  omega
theorem pass_cons (pv : Int → List Int) (pl : List Int) (K : Nat) (b : Nat) (l ab : List Int) (c : Bool) : U.passS pv pl K ((b : Int) :: l) (ab, c) = U.passS pv pl K l (ab.set b (U.nextS ab pl K (pv b) (-1)), c || decide (U.nextS ab pl K (pv b) (-1) ≠ U.nt ab b)) := rfl
section
variable (ks bs : List (List AV)) (p q : Int) (bl : List XB) (hc : CodeOk bl) (hl : bl.length ≤ 3000) {od pl : List Int} (B : Base (U.nextAt bl) bl.length od pl) (K : Nat) (hK : 2 * (od.length : Int) ≤ K)
include hc hl B hK
theorem loopt48_19 (dp L : List Int) (ho : od = 0 :: L) (hol : od.length ≤ 3000) (kk : Nat) : ∀ (d i : Nat) (ab : List Int) (c : Bool), i + d = L.length → Mid (U.nextAt bl) bl.length pl kk (i + 1) ab →
    LoopTo Tryd.prog H (H 38) 0 (loopOf Tryd.prog 38 19) (mkS 172 [(1, .pt 0 0 0), (4, .pt 3 0 0), (5, .os 4 0 bl.length), (7, .sl (od.map encI)), (10, goB c), (68, .sl (L.map encI)), (69, goI L.length), (70, goI i)] (gS [.sl ks, .sl bs, goI p, goI q, .sl (bl.map encB)] bl.length ab dp pl))
      (.exit 6, mkS 172 [(1, .pt 0 0 0), (4, .pt 3 0 0), (5, .os 4 0 bl.length), (7, .sl (od.map encI)), (10, goB (U.passS (U.prevAt bl) pl K (L.drop i) (ab, c)).2)] (gS [.sl ks, .sl bs, goI p, goI q, .sl (bl.map encB)] bl.length (U.passS (U.prevAt bl) pl K (L.drop i) (ab, c)).1 dp pl))
  | 0, i, ab, c, hd, M => by
    rw [List.drop_of_length_le (by omega)]
    refine turnK (td48_19 ks bs p q bl bl.length ab dp pl od L c L.length i 0 _) ?_
    rw [decide_eq_false (by omega)]
    exact rfl
  | d + 1, i, ab, c, hd, M => by
    have hi : i < L.length := by omega
    have hLl : L.length < 3000 := by rw [ho, List.length_cons] at hol; omega
    have ed : L.drop i = U.nt L i :: L.drop (i + 1) := drop_cons' L hi
    have e1 : rdI (rowAt (L.map encI) i) 0 = U.nt L i := by rw [rowI hi]; rfl
    have hgi := getI hi
    have esp : od = (0 :: L.take i) ++ U.nt L i :: L.drop (i + 1) := by rw [← ed, List.cons_append, List.take_append_drop]; exact ho
    have hps := B.pos _ _ _ esp
    obtain ⟨b0, b1⟩ := B.ord.ran (U.nt L i) (by rw [esp]; simp)
    clear esp
    generalize U.nt L i = y at ed e1 hgi hps b0 b1
    obtain ⟨b, rfl⟩ := Int.eq_ofNat_of_zero_le b0
    have hb : b < bl.length := by omega
    have hJ : U.nt pl b = ((i + 1 : Nat) : Int) := by rw [Int.toNat_natCast] at hps; rw [hps, List.length_cons, List.length_take]; congr 2; omega
    obtain ⟨m1, m2⟩ := mid_step B (prev_ok bl) hK M hb hJ (by omega)
    have hb2 : b < ab.length := by rw [M.tr.len]; exact hb
    have ih := loopt48_19 dp L ho hol kk d (i + 1) (ab.set b (U.nextS ab pl K (U.prevAt bl b) (-1))) (c || decide (U.nextS ab pl K (U.prevAt bl b) (-1) ≠ U.nt ab b)) (by omega) m1
    have hpl : (U.prevAt bl b).length ≤ bl.length := prev_len bl b bl.length 0
    have lp := loopt48_23 B hl M.tr M.sd [.sl ks, .sl bs, goI p, goI q, .sl (bl.map encB)] dp L c L.length i b (U.prevAt bl b) (by omega) (fun x hx => by obtain ⟨e, e2, e3, _⟩ := (prev_ok bl b hb x).1 hx; omega) K hK (U.prevAt bl b).length 0 (-1) (by omega) (.inl rfl)
    rw [List.drop_zero] at lp
    have wf := wf17 ks bs p q bl hc hl b
    have hcond : (decide ((b : Int) < 0) || decide ((b : Int) ≥ bl.length)) = false := by rw [decide_eq_false (by omega), decide_eq_false (by omega)]; rfl
    rw [hcond, if_neg (by simp)] at wf
    rw [ed, pass_cons]
    generalize U.nextS ab pl K (U.prevAt bl b) (-1) = m at m1 m2 ih lp
    have hpO : U.prevO (bl.map encB) b = U.prevAt bl b := by unfold U.prevO; rw [decBs_map]
    have e3 : rdI (rowAt (ab.map encI) b) 0 = U.nt ab b := by rw [rowI hb2]; rfl
    have in1 : 0 ≤ (b : Int) ∧ (b : Int) < (bl.length : Int) ∧ b < (ab.map encI).length := ⟨by omega, by omega, by rw [List.length_map]; exact hb2⟩
    have hlb : (bl.map encB).length = bl.length := List.length_map _
    have hlp : ((U.prevAt bl b).map encI).length = (U.prevAt bl b).length := List.length_map _
    refine turnK (td48_19 ks bs p q bl bl.length ab dp pl od L c L.length i m _) ?_
    rw [decide_eq_true (show (i : Int) < L.length by omega), e1, hgi, Int.toNat_natCast, Nat.zero_add, hpO, take_map, hlp, hlb, hcond, wrapS hi (by omega), set_mapI, e3, getI hb2]
    refine ⟨⟨by omega, rfl⟩, wf, lp, ?_⟩
    cases c with
    | true => exact ⟨in1, rfl, ih⟩
    | false =>
      have ec : (!(m == U.nt ab b)) = (false || decide (m ≠ U.nt ab b)) := by by_cases h : m = U.nt ab b <;> simp [h]
      rw [ec]
      exact ⟨in1, rfl, in1, rfl, ih⟩
theorem turn48_16 (dp L : List Int) (ho : od = 0 :: L) (hol : od.length ≤ 3000) (kk : Nat) (ab ab2 : List Int) (c2 : Bool) (Q : Lv (U.nextAt bl) bl.length pl kk ab) (hp : U.passS (U.prevAt bl) pl K L (ab, false) = (ab2, c2)) (r : Ex × St)
    (h : LoopTo Tryd.prog H (H 38) 0 (loopOf Tryd.prog 38 16) (mkS 172 [(1, .pt 0 0 0), (4, .pt 3 0 0), (5, .os 4 0 bl.length), (7, .sl (od.map encI)), (10, goB c2)] (gS [.sl ks, .sl bs, goI p, goI q, .sl (bl.map encB)] bl.length ab2 dp pl)) r) :
    LoopTo Tryd.prog H (H 38) 0 (loopOf Tryd.prog 38 16) (mkS 172 [(1, .pt 0 0 0), (4, .pt 3 0 0), (5, .os 4 0 bl.length), (7, .sl (od.map encI)), (10, goB true)] (gS [.sl ks, .sl bs, goI p, goI q, .sl (bl.map encB)] bl.length ab dp pl)) r := by
  have lp := loopt48_19 ks bs p q bl hc hl B K hK dp L ho hol kk L.length 0 ab false (by omega) (mid_of B Q)
  rw [List.drop_zero, hp] at lp
  have hl1 : ¬ (((od.map encI).length : Int) < 1) := by rw [ho, List.map_cons, List.length_cons]; omega
  have e1 : List.drop (Int.toNat 1) (List.take (od.map encI).length (od.map encI)) = L.map encI := by rw [List.take_length, ho]; rfl
  refine turnK (td48_16 ks bs p q bl bl.length ab dp pl od ab2 true c2 _) ?_
  rw [if_neg (show ¬ (false = true) by simp), if_neg hl1, e1, show (L.map encI).length = L.length from List.length_map _]
  exact ⟨rowsOk_of (enc := encI) (fun _ => rfl) od, ⟨by omega, by omega⟩, lp, h⟩
theorem loopt48_16 (dp L : List Int) (ho : od = 0 :: L) (hol : od.length ≤ 3000) (K0 : Nat) (hb : ∀ z, z < bl.length → ∀ x, x < bl.length → WayA (U.nextAt bl) bl.length z x → WayZ (U.nextAt bl) bl.length pl z K0 x) : ∀ (d k : Nat) (ab : List Int), K0 + 1 ≤ k + d → Lv (U.nextAt bl) bl.length pl k ab → ∃ ab2,
    LoopTo Tryd.prog H (H 38) 0 (loopOf Tryd.prog 38 16) (mkS 172 [(1, .pt 0 0 0), (4, .pt 3 0 0), (5, .os 4 0 bl.length), (7, .sl (od.map encI)), (10, goB true)] (gS [.sl ks, .sl bs, goI p, goI q, .sl (bl.map encB)] bl.length ab dp pl))
      (.exit 4, mkS 172 [(4, .pt 3 0 0), (7, .sl (od.map encI))] (gS [.sl ks, .sl bs, goI p, goI q, .sl (bl.map encB)] bl.length ab2 dp pl)) ∧ Exact (U.nextAt bl) bl.length pl ab2 := by
  intro d
  have still : ∀ (k : Nat) (ab : List Int), Lv (U.nextAt bl) bl.length pl k ab → U.passS (U.prevAt bl) pl K L (ab, false) = (ab, false) → Exact (U.nextAt bl) bl.length pl ab → ∃ ab2,
    LoopTo Tryd.prog H (H 38) 0 (loopOf Tryd.prog 38 16) (mkS 172 [(1, .pt 0 0 0), (4, .pt 3 0 0), (5, .os 4 0 bl.length), (7, .sl (od.map encI)), (10, goB true)] (gS [.sl ks, .sl bs, goI p, goI q, .sl (bl.map encB)] bl.length ab dp pl))
      (.exit 4, mkS 172 [(4, .pt 3 0 0), (7, .sl (od.map encI))] (gS [.sl ks, .sl bs, goI p, goI q, .sl (bl.map encB)] bl.length ab2 dp pl)) ∧ Exact (U.nextAt bl) bl.length pl ab2 := fun k ab Q h1 h2 =>
    ⟨ab, turn48_16 ks bs p q bl hc hl B K hK dp L ho hol k ab ab false Q h1 _ (turnK (td48_16 ks bs p q bl bl.length ab dp pl od ab false false _) rfl), h2⟩
  induction d with
  | zero =>
    intro k ab hk Q
    rcases round B (prev_ok bl) hK hb Q ho with ⟨h1, h2⟩ | ⟨ab', _, _, h3⟩
    · exact still k ab Q h1 h2
    · omega
  | succ d ih =>
    intro k ab hk Q
    rcases round B (prev_ok bl) hK hb Q ho with ⟨h1, h2⟩ | ⟨ab', h1, h2, h3⟩
    · exact still k ab Q h1 h2
    · obtain ⟨ab2, g1, g2⟩ := ih (k + 1) ab' (by omega) h2
      exact ⟨ab2, turn48_16 ks bs p q bl hc hl B K hK dp L ho hol k ab ab' true Q h1 _ g1, g2⟩
omit hc hK in
theorem loopt48_34 (ab L : List Int) (ho : od = 0 :: L) (hol : od.length ≤ 3000) (X : Exact (U.nextAt bl) bl.length pl ab) : ∀ (d i : Nat) (dp : List Int), i + d = L.length → dp.length = bl.length → (∀ x, x < bl.length → -1 ≤ U.nt dp x ∧ U.nt dp x ≤ i) →
    LoopTo Tryd.prog H (H 38) 0 (loopOf Tryd.prog 38 34) (mkS 172 [(4, .pt 3 0 0), (135, .sl (od.map encI)), (136, goI od.length), (137, goI ((i + 1 : Nat) : Int))] [.dead, .arr 1 (ab.map encI), .arr 1 (dp.map encI), .box [.os 1 0 bl.length, .os 2 0 bl.length], .dead])
      (.exit 11, mkS 172 [(4, .pt 3 0 0)] [.dead, .arr 1 (ab.map encI), .arr 1 ((U.deepS ab (L.drop i) dp).map encI), .box [.os 1 0 bl.length, .os 2 0 bl.length], .dead])
  | 0, i, dp, hd, hdl, hdp => by
    have e : od.length = L.length + 1 := by rw [ho, List.length_cons]
    rw [List.drop_of_length_le (by omega)]
    refine turnK (td48_34 bl.length ab dp od od.length (i + 1) _) ?_
    rw [decide_eq_false (by omega)]
    exact rfl
  | d + 1, i, dp, hd, hdl, hdp => by
    have e : od.length = L.length + 1 := by rw [ho, List.length_cons]
    have hi : i < L.length := by omega
    have hi1 : i + 1 < od.length := by omega
    have ed : L.drop i = U.nt L i :: L.drop (i + 1) := drop_cons' L hi
    have e0 : U.nt od (i + 1) = U.nt L i := by rw [ho]; rfl
    have e1 : rdI (rowAt (od.map encI) (i + 1)) 0 = U.nt L i := by rw [rowI hi1, e0]; rfl
    have hgi := getI hi1
    rw [e0] at hgi
    have esp : od = (0 :: L.take i) ++ U.nt L i :: L.drop (i + 1) := by rw [← ed, List.cons_append, List.take_append_drop]; exact ho
    have hps := B.pos _ _ _ esp
    obtain ⟨b0, b1⟩ := B.ord.ran (U.nt L i) (by rw [esp]; simp)
    clear esp
    generalize U.nt L i = y at ed e1 hgi hps b0 b1
    obtain ⟨b, rfl⟩ := Int.eq_ofNat_of_zero_le b0
    have hb : b < bl.length := by omega
    have hJ : U.nt pl b = ((i + 1 : Nat) : Int) := by rw [Int.toNat_natCast] at hps; rw [hps, List.length_cons, List.length_take]; congr 2; omega
    have hp0 := B.p0
    have hb0 : b ≠ 0 := fun q => by subst q; omega
    have hdb := (X.all b hb (by omega)).1
    have hab : 0 ≤ U.nt ab b := by
      rcases hdb.2.2 with q | q
      · exact absurd q hb0
      · exact q
    have hup := df_up B X.tr hdb hab
    have hab2 : (U.nt ab b).toNat < bl.length := hup.1.1
    obtain ⟨d1, d2⟩ := hdp _ hab2
    have hbl : b < ab.length := by rw [X.tr.len]; exact hb
    have hbd : b < dp.length := by omega
    have had : (U.nt ab b).toNat < dp.length := by omega
    have e2 : rdI (rowAt (ab.map encI) b) 0 = U.nt ab b := by rw [rowI hbl]; rfl
    have e3 : rdI (rowAt (dp.map encI) (U.nt ab b).toNat) 0 = U.nt dp (U.nt ab b).toNat := by rw [rowI had]; rfl
    have ih := loopt48_34 ab L ho hol X d (i + 1) (dp.set b (U.nt dp (U.nt ab b).toNat + 1)) (by omega) (by rw [List.length_set]; exact hdl) (fun x hx => by
      obtain ⟨q1, q2⟩ := hdp x hx
      rw [nt_set _ _ hbd]
      split <;> omega)
    rw [ed]
    unfold U.deepS
    rw [Int.toNat_natCast]
    refine turnK (td48_34 bl.length ab dp od od.length (i + 1) _) ?_
    rw [decide_eq_true (show ((i + 1 : Nat) : Int) < od.length by omega), show (((i + 1 : Nat) : Int) == 0) = false by rw [beq_eq_false_iff_ne]; omega, e1, hgi, Int.toNat_natCast, Nat.zero_add, Nat.zero_add, e2, e3, getI hbl, getI had, wrapS (n := od.length) hi1 (by omega), wrap64 (by omega) (by omega), set_mapI dp b (U.nt dp (U.nt ab b).toNat + 1)]
    exact ⟨⟨by omega, rfl⟩, ⟨by omega, by omega, by rw [List.length_map]; exact hbl⟩, rfl, ⟨by omega, by omega, by rw [List.length_map]; exact had⟩, rfl, ⟨by omega, by omega, by rw [List.length_map]; exact hbd⟩, by rw [getI hbd]; rfl, ih⟩
omit B hK in
/-- dom.grow: the tree, and how deep each block stands in it. -/
theorem wd48 (h0 : 0 < bl.length) (hT : TgtOk bl) : ∃ od pl ab dp, Wf Tryd.prog H 38 [.agg [.sl ks, .sl bs, goI p, goI q, .sl (bl.map encB)]] [] = some (.pt 0 0 0, [.box [.os 1 0 bl.length, .os 2 0 bl.length], .arr 1 (ab.map encI), .arr 1 (dp.map encI)], [])
    ∧ Base (U.nextAt bl) bl.length od pl ∧ od = (U.left (U.nextAt bl) bl.length).reverse ∧ Exact (U.nextAt bl) bl.length pl ab ∧ Deep bl.length pl ab dp := by
  have B := base_of (nx_of hT) h0
  have hw := wf40 ks bs p q bl hc hl h0
  have hll := left_len (nx := U.nextAt bl) bl.length
  have hol : (U.left (U.nextAt bl) bl.length).reverse.length ≤ 3000 := by rw [List.length_reverse]; omega
  generalize hod : (U.left (U.nextAt bl) bl.length).reverse = od at B hw hol
  obtain ⟨L, ho⟩ := B.ord.head
  obtain ⟨K0, hK0⟩ := wayZ_bound (nx := U.nextAt bl) h0 (U.placeS od 0 (List.replicate bl.length (-1)))
  have l5 := loopt48_5 [.sl ks, .sl bs, goI p, goI q, .sl (bl.map encB)] bl.length hl bl.length 0 (by omega)
  have l11 := loopt48_11 [.sl ks, .sl bs, goI p, goI q, .sl (bl.map encB)] bl.length hl (List.replicate bl.length (-1)) (List.replicate bl.length (-1)) od hol B.ord.ran od.length 0 (List.replicate bl.length (-1)) (by omega) (by simp)
  rw [List.drop_zero] at l11
  obtain ⟨ab, l16, X⟩ := loopt48_16 ks bs p q bl hc hl B (2 * od.length) (by omega) (List.replicate bl.length (-1)) L ho hol K0 hK0 (K0 + 1) 0 (List.replicate bl.length (-1)) (by omega) (lv_zero B)
  have l34 := loopt48_34 bl hl B ab L ho hol X L.length 0 ((List.replicate bl.length (-1)).set 0 0) (by omega) (by simp) (fun x hx => by
    rw [nt_set _ _ (by rw [List.length_replicate]; exact h0), nt_rep _ x _ hx]
    split <;> omega)
  rw [List.drop_zero] at l34
  have hD := deep_ok B X ho
  have ol : od.length = L.length + 1 := by rw [ho, List.length_cons]
  have e0 : U.nt od 0 = 0 := by rw [ho]; rfl
  have e1 : rdI (rowAt (od.map encI) 0) 0 = 0 := by rw [rowI (show 0 < od.length by omega), e0]; rfl
  have l34' : LoopTo Tryd.prog H (H 38) 0 (loopOf Tryd.prog 38 34) (mkS 172 [(4, .pt 3 0 0), (135, .sl (od.map encI)), (136, goI od.length), (137, goI ((0 : Nat) : Int))] [.dead, .arr 1 (ab.map encI), .arr 1 ((List.replicate bl.length (-1)).map encI), .box [.os 1 0 bl.length, .os 2 0 bl.length], .dead])
      (.exit 11, mkS 172 [(4, .pt 3 0 0)] [.dead, .arr 1 (ab.map encI), .arr 1 ((U.deepS ab L ((List.replicate bl.length (-1)).set 0 0)).map encI), .box [.os 1 0 bl.length, .os 2 0 bl.length], .dead]) := by
    refine turnK (td48_34 bl.length ab (List.replicate bl.length (-1)) od od.length 0 _) ?_
    rw [decide_eq_true (show ((0 : Nat) : Int) < od.length by omega), e1, getI (show 0 < od.length by omega), e0, wrapS (n := od.length) (show 0 < od.length by omega) (by omega)]
    refine ⟨⟨by omega, rfl⟩, ⟨by omega, by omega, by rw [List.length_map, List.length_replicate]; exact h0⟩, ?_, ?_⟩
    · show Option.map List.length ((List.replicate bl.length (-1)).map encI)[0]? = some 1
      rw [getI (by rw [List.length_replicate]; exact h0)]; rfl
    · show LoopTo Tryd.prog H (H 38) 0 (loopOf Tryd.prog 38 34) (mkS 172 [(4, .pt 3 0 0), (135, .sl (od.map encI)), (136, goI od.length), (137, goI ((1 : Nat) : Int))] [.dead, .arr 1 (ab.map encI), .arr 1 (((List.replicate bl.length (-1)).map encI).set 0 [goI 0]), .box [.os 1 0 bl.length, .os 2 0 bl.length], .dead]) _
      rw [set_mapI]
      exact l34
  refine ⟨od, _, ab, _, runK (td48 ks bs p q bl bl.length od (List.replicate bl.length (-1)) (List.replicate bl.length (-1)) (List.replicate bl.length (-1)) (U.placeS od 0 (List.replicate bl.length (-1))) ab (U.deepS ab L ((List.replicate bl.length (-1)).set 0 0)) _) ?_, B, rfl, X, hD⟩
  have er : List.replicate bl.length [goI 0] = (rep2 0 bl.length).map encI := by unfold rep2; rw [List.replicate_zero, List.nil_append, List.map_replicate]; rfl
  have el : ((rep2 0 bl.length).map encI).length = bl.length := by rw [List.length_map, rep2_len, Nat.zero_add]
  rw [show (bl.map encB).length = bl.length from List.length_map _, er, el, take_map, show (od.map encI).length = od.length from List.length_map _]
  exact ⟨⟨by omega, by omega, by omega⟩, ⟨by omega, by omega, by omega⟩, ⟨by omega, by omega, by omega⟩, l5, hw, l11, l16, l34', rfl⟩
end
end Go.Proofs.YtabdcfcnngnnoaaDoor.E
