/- live.outs: what is live at each block's end. -/
import Derived.Test.YtdnekkkpngnmkaaDoor11a
set_option linter.unusedVariables false
set_option linter.unusedSimpArgs false
set_option maxRecDepth 100000
namespace Go.Proofs.YtdnekkkpngnmkaaDoor.E
open Go
def upI (j d : Nat) : List Int := (List.range' j d).map (fun x : Nat => (x : Int))
theorem upI_len (j d : Nat) : (upI j d).length = d := by unfold upI; simp
theorem rowL {l : List (List Int)} {i : Nat} (h : i < l.length) : rdL (rowAt (l.map encL) i) 0 = (l.getD i []).map encU ∧ (l.map encL)[i]? = some [.sl ((l.getD i []).map encU)] := by
  have e1 : rowAt (l.map encL) i = encL (l.getD i default) := rowAt_map h
  have e2 : (l.map encL)[i]? = some (encL (l.getD i default)) := rows_map h
  rw [e1, e2]; exact ⟨rfl, rfl⟩
theorem set_mapL (W : List (List Int)) (i : Nat) (v : List Int) : (W.map encL).set i [.sl (v.map encU)] = (W.set i v).map encL := set_map encL W i v
theorem weak_rep (n : Nat) : List.map weakL (List.replicate n [AV.nil]) = (List.replicate n ([] : List Int)).map encL := by rw [List.map_replicate, List.map_replicate]; rfl
theorem take_snocI (l : List Int) (n : Nat) (h : n < l.length) : l.take (n + 1) = l.take n ++ [U.nt l n] := by
  rw [List.take_add_one, List.getElem?_eq_getElem h]
  unfold U.nt
  rw [List.getD_eq_getElem?_getD, List.getElem?_eq_getElem h]; rfl
def LenA (inn : List (List Int)) : Prop := ∀ l ∈ inn, l.length ≤ 1000
theorem LenA.at {inn : List (List Int)} (h : LenA inn) (i : Nat) : (inn.getD i []).length ≤ 1000 := by
  rw [List.getD_eq_getElem?_getD]
  rcases Nat.lt_or_ge i inn.length with hi | hi
  · rw [List.getElem?_eq_getElem hi]; exact h _ (List.getElem_mem hi)
  · rw [List.getElem?_eq_none hi]; simp
theorem LenA.set {inn : List (List Int)} (h : LenA inn) (i : Nat) {v : List Int} (hv : v.length ≤ 1000) : LenA (inn.set i v) := fun l hl => by
  rcases List.mem_or_eq_of_mem_set hl with hl | rfl
  · exact h l hl
  · exact hv
theorem join2_len {a b : List Int} (ha : a.length ≤ 1000) (hb : b.length ≤ 1000) : (Bit.joinL [a, b] []).length ≤ 1000 := Bit.joinL_length _ _ _ (by simp) (fun l hl => by
  simp only [List.mem_cons, List.not_mem_nil, or_false] at hl
  rcases hl with rfl | rfl <;> assumption)
theorem joinI_len {inn : List (List Int)} (h : LenA inn) : ∀ (nx : List Int) (s : List Int), s.length ≤ 1000 → (nx.foldl (fun s t => Bit.joinL [s, inn.getD t.toNat []] []) s).length ≤ 1000
  | [], s, hs => hs
  | t :: nx, s, hs => joinI_len h nx _ (join2_len hs (h.at _))
section
variable (ks bs : List (List AV)) (p q : Int) (bl : List XB)
theorem loopv47_5 (ou inn : List (List Int)) (n m : Nat) (N : Nat) (hN : N ≤ 3000) : ∀ (d j : Nat) (qu : List Int), j + d = N → qu.length = j →
    LoopTo Tryd.prog H (H 47) 0 (loopOf Tryd.prog 47 5) (mkS 90 [(1, .pt 0 0 0), (3, .os 1 0 n), (4, .os 2 0 m), (5, .os 3 0 qu.length), (26, goI N), (27, goI j)] [.box [.sl ks, .sl bs, goI p, goI q, .sl (bl.map encB)], .arr 1 (ou.map encL), .arr 1 (inn.map encL), .arr 1 (qu.map encI)])
      (.exit 0, mkS 90 [(1, .pt 0 0 0), (3, .os 1 0 n), (4, .os 2 0 m), (5, .os 3 0 (qu ++ upI j d).length)] [.box [.sl ks, .sl bs, goI p, goI q, .sl (bl.map encB)], .arr 1 (ou.map encL), .arr 1 (inn.map encL), .arr 1 ((qu ++ upI j d).map encI)])
  | 0, j, qu, hd, hq => by
    have e0 : upI j 0 = [] := rfl
    rw [e0, List.append_nil]
    refine turnK (v47_5 ks bs p q bl ou inn n m N j qu _) ?_
    rw [decide_eq_false (by omega)]; exact rfl
  | d + 1, j, qu, hd, hq => by
    have e0 : upI j (d + 1) = (j : Int) :: upI (j + 1) d := rfl
    have ih := loopv47_5 ou inn n m N hN d (j + 1) (qu ++ [(j : Int)]) (by omega) (by rw [List.length_append, List.length_singleton]; omega)
    have e1 : (qu ++ [(j : Int)]).length = qu.length + 1 := List.length_append
    rw [List.append_assoc, e1, List.map_append (l₁ := qu) (l₂ := [(j : Int)])] at ih
    rw [e0]
    refine turnK (v47_5 ks bs p q bl ou inn n m N j qu _) ?_
    rw [decide_eq_true (by omega), wrapS (show j < N by omega) (by omega)]
    exact ⟨rfl, ⟨by rw [List.length_map], by omega⟩, ih⟩
theorem loopv47_14 (X : List AV) (ou inn : List (List Int)) (qu : List Int) (z : Nat) (b : Int) (t : List Int) (ht : t.length ≤ 2) (hin : ∀ x ∈ t, 0 ≤ x ∧ x < inn.length) (hL : LenA inn) : ∀ (d i : Nat) (s : List Int), i + d = t.length → s.length ≤ 1000 →
    LoopTo Tryd.prog H (H 47) 0 (loopOf Tryd.prog 47 14) (mkS 90 [(1, .pt 0 0 0), (3, .os 1 0 ou.length), (4, .os 2 0 inn.length), (5, .os 3 0 z), (7, goI b), (8, .sl (s.map encU)), (51, .sl (t.map encI)), (52, goI t.length), (53, goI i)] [.box X, .arr 1 (ou.map encL), .arr 1 (inn.map encL), .arr 1 (qu.map encI)])
      (.exit 4, mkS 90 [(1, .pt 0 0 0), (3, .os 1 0 ou.length), (4, .os 2 0 inn.length), (5, .os 3 0 z), (7, goI b), (8, .sl (((t.drop i).foldl (fun s t => Bit.joinL [s, inn.getD t.toNat []] []) s).map encU))] [.box X, .arr 1 (ou.map encL), .arr 1 (inn.map encL), .arr 1 (qu.map encI)])
  | 0, i, s, hd, hs => by
    have e0 : t.drop i = [] := List.drop_of_length_le (by omega)
    rw [e0]
    refine turnK (v47_14 X ou inn qu z b t.length t s [] i _) ?_
    rw [decide_eq_false (by omega)]; exact rfl
  | d + 1, i, s, hd, hs => by
    have hi : i < t.length := by omega
    have ed : t.drop i = U.nt t i :: t.drop (i + 1) := drop_cons' t hi
    have e1 : rdI (rowAt (t.map encI) i) 0 = U.nt t i := by rw [rowI hi]; rfl
    obtain ⟨h0, h1⟩ := hin (U.nt t i) (getD_mem hi)
    obtain ⟨r1, r2⟩ := rowL (l := inn) (i := (U.nt t i).toNat) (by omega)
    have hj := wb74 s (inn.getD (U.nt t i).toNat []) hs (hL.at _)
    have ih := loopv47_14 X ou inn qu z b t ht hin hL d (i + 1) (Bit.joinL [s, inn.getD (U.nt t i).toNat []] []) (by omega) (join2_len hs (hL.at _))
    rw [ed, List.foldl_cons]
    refine turnK (v47_14 X ou inn qu z b t.length t s (Bit.joinL [s, inn.getD (U.nt t i).toNat []] []) i _) ?_
    rw [decide_eq_true (by omega), e1, getI hi, Nat.zero_add, r1, r2, wrapS hi (by omega)]
    exact ⟨⟨by omega, rfl⟩, ⟨h0, h1, by rw [List.length_map]; omega⟩, rfl, hj, ih⟩
variable (hc : CodeOk bl) (hn : bl.length ≤ 16) (hx : ∀ b ∈ bl, ∀ x ∈ b.code, InsIn x) (hu : UsesOk bl)
include hc hn hx hu
theorem loopv47_9 : ∀ (M : Nat) (out inn : List (List Int)) (qu : List Int) (z : Nat), z ≤ qu.length → LInv bl inn out (qu.take z) → LenA inn → LenA out → mu bl.length inn * 20000 + z ≤ M → z + 16 * mu bl.length inn ≤ 12304 →
    ∃ out' inn', LoopTo Tryd.prog H (H 47) 0 (loopOf Tryd.prog 47 9) (mkS 90 [(1, .pt 0 0 0), (3, .os 1 0 out.length), (4, .os 2 0 inn.length), (5, .os 3 0 z)] [.box [.sl ks, .sl bs, goI p, goI q, .sl (bl.map encB)], .arr 1 (out.map encL), .arr 1 (inn.map encL), .arr 1 (qu.map encI)])
        (.exit 2, mkS 90 [(3, .os 1 0 out'.length)] [.dead, .arr 1 (out'.map encL), .dead, .dead]) ∧ LInv bl inn' out' [] ∧ LenA inn' ∧ LenA out' := by
  intro M
  induction M with
  | zero =>
    intro out inn qu z hz hI hA hO hM hC
    have hz0 : z = 0 := by omega
    subst hz0
    rw [List.take_zero] at hI
    refine ⟨out, inn, turnK (v47_9 ks bs p q bl out inn qu 0 0 [] [] 0 false _) ?_, hI, hA, hO⟩
    rw [decide_eq_false (by omega)]; exact rfl
  | succ M ihM =>
    intro out inn qu z hz hI hA hO hM hC
    cases z with
    | zero =>
      rw [List.take_zero] at hI
      refine ⟨out, inn, turnK (v47_9 ks bs p q bl out inn qu 0 0 [] [] 0 false _) ?_, hI, hA, hO⟩
      rw [decide_eq_false (by omega)]; exact rfl
    | succ z =>
      rw [take_snocI qu z (by omega)] at hI
      obtain ⟨b0, b1⟩ := hI.que (U.nt qu z) (by simp)
      obtain ⟨b, hb⟩ := Int.eq_ofNat_of_zero_le b0
      rw [hb] at hI b1
      have hbl : b < bl.length := by omega
      have l1 := hI.len1
      have l2 := hI.len2
      have ew : IntKind.i64.wrap (((z + 1 : Nat) : Int) - 1) = (z : Int) := by rw [wrap64 (by omega) (by omega)]; omega
      have e1 : rdI (rowAt (qu.map encI) z) 0 = U.nt qu z := by rw [rowI (show z < qu.length by omega)]; rfl
      have hnext := hu.next b (by omega) (by omega)
      have h15 := wf15 ks bs p q bl b hc
      have h14 := loopv47_14 [.sl ks, .sl bs, goI p, goI q, .sl (bl.map encB)] out inn qu z b (U.nextAt bl b) (nextAt_len bl b) (fun x hx' => by have := hnext x hx'; omega) hA (U.nextAt bl b).length 0 [] (by omega) (by simp)
      rw [List.drop_zero] at h14
      have hsl : (U.joinI (U.nextAt bl b) inn).length ≤ 1000 := joinI_len hA _ _ (by simp)
      have hsw := (joinI_ok hI.wd (U.nextAt bl b)).1
      have h46 := wv46 ks bs p q bl hc hx b 0 (U.joinI (U.nextAt bl b) inn) hbl (Nat.zero_le _) hsw hsl
      have hml : (U.aheadI bl inn b).length ≤ 1000 := thr_len _ hsl _
      have h14s := wb14 (U.aheadI bl inn b) (inn.getD b []) (by omega) (by have := hA.at b; omega)
      obtain ⟨r1, r2⟩ := rowL (l := inn) (i := b) (by omega)
      obtain ⟨r3, r4⟩ := rowL (l := out) (i := b) (by omega)
      have h17 := wf17 ks bs p q bl hc (by omega) b
      rw [show (decide ((b : Int) < 0) || decide ((b : Int) ≥ bl.length)) = false by rw [decide_eq_false (by omega), decide_eq_false (by omega)]; rfl] at h17
      have hpO : U.prevO (bl.map encB) b = U.prevAt bl b := by unfold U.prevO; rw [decBs_map]
      have hpl : (U.prevAt bl b).length ≤ bl.length := prev_len bl b bl.length 0
      have elen : (bl.map encB).length = bl.length := List.length_map _
      have elx : ((U.nextAt bl b).map encI).length = (U.nextAt bl b).length := List.length_map _
      have elp : ((U.prevAt bl b).map encI).length = (U.prevAt bl b).length := List.length_map _
      have eqlen : (qu.map encI).length = qu.length := List.length_map _
      have etake : List.take z (List.drop 0 (qu.map encI)) = (qu.take z).map encI := by rw [List.drop_zero, List.map_take]
      have esI : (U.nextAt bl b).foldl (fun s t => Bit.joinL [s, inn.getD t.toNat []] []) [] = U.joinI (U.nextAt bl b) inn := rfl
      rw [esI] at h14
      have hin1 : 0 ≤ (b : Int) ∧ (b : Int) < (out.length : Int) ∧ b < (out.map encL).length := ⟨by omega, by omega, by rw [List.length_map]; omega⟩
      have hin2 : 0 ≤ (b : Int) ∧ (b : Int) < (inn.length : Int) ∧ b < (inn.map encL).length := ⟨by omega, by omega, by rw [List.length_map]; omega⟩
      cases hsm : decide (Bit.neatL (U.aheadI bl inn b) = Bit.neatL (inn.getD b [])) with
      | true =>
        rw [hsm] at h14s
        have hI' := step_same hu hI (of_decide_eq_true hsm)
        obtain ⟨out', inn', k1, k2, k3, k4⟩ := ihM (out.set b (U.joinI (U.nextAt bl b) inn)) inn qu z (by omega) hI' hA (hO.set b hsl) (by omega) (by omega)
        rw [List.length_set] at k1
        refine ⟨out', inn', turnK (v47_9 ks bs p q bl out inn qu (z + 1) b (U.joinI (U.nextAt bl b) inn) (U.aheadI bl inn b) 0 true _) ?_, k2, k3, k4⟩
        rw [decide_eq_true (by omega), ew, Int.toNat_natCast, Int.toNat_natCast, Nat.zero_add, Nat.zero_add, Nat.sub_zero, Nat.sub_zero, e1, getI (show z < qu.length by omega), hb, nextR_map, r1, r2, r4, set_mapL, elx, eqlen]
        exact ⟨⟨by omega, by omega, by omega⟩, rfl, ⟨by omega, by omega⟩, h15, h14, hin1, rfl, h46, hin2, rfl, h14s, k1⟩
      | false =>
        rw [hsm] at h14s
        have hne : Bit.neatL (U.aheadI bl inn b) ≠ Bit.neatL (inn.getD b []) := of_decide_eq_false hsm
        obtain ⟨hI', hmu⟩ := step_new hu (pr := U.prevAt bl b) hI (fun x => by
          rw [mem_prevAt]
          exact ⟨fun h => h.2, fun h => ⟨⟨by omega, by omega⟩, h⟩⟩) hne
        have hzl : (qu.take z).length = z := by rw [List.length_take]; omega
        have htk : (qu.take z ++ U.prevAt bl b).take (z + (U.prevAt bl b).length) = qu.take z ++ U.prevAt bl b := List.take_of_length_le (by rw [List.length_append]; omega)
        rw [← htk] at hI'
        obtain ⟨out', inn', k1, k2, k3, k4⟩ := ihM (out.set b (U.joinI (U.nextAt bl b) inn)) (inn.set b (U.aheadI bl inn b)) (qu.take z ++ U.prevAt bl b) (z + (U.prevAt bl b).length) (by rw [List.length_append]; omega) hI' (hA.set b hml) (hO.set b hsl) (by omega) (by omega)
        rw [List.length_set, List.length_set, List.map_append] at k1
        refine ⟨out', inn', turnK (v47_9 ks bs p q bl out inn qu (z + 1) b (U.joinI (U.nextAt bl b) inn) (U.aheadI bl inn b) 0 false _) ?_, k2, k3, k4⟩
        rw [decide_eq_true (by omega), ew, Int.toNat_natCast, Int.toNat_natCast, Nat.zero_add, Nat.zero_add, Nat.sub_zero, Nat.sub_zero, e1, getI (show z < qu.length by omega), hb, nextR_map, r1, r2, r4, set_mapL, set_mapL, elx, eqlen, elen, hpO, take_map, etake, decide_eq_false (show ¬ (b : Int) < 0 by omega), decide_eq_false (show ¬ (b : Int) ≥ bl.length by omega), elp]
        exact ⟨⟨by omega, by omega, by omega⟩, rfl, ⟨by omega, by omega⟩, h15, h14, hin1, rfl, h46, hin2, rfl, h14s, hin2, rfl, h17, rowsOkI _, ⟨by omega, by omega⟩, k1⟩
end
end Go.Proofs.YtdnekkkpngnmkaaDoor.E
