/- Functions, by what the evaluator asks; the theorems t.. were printed by show.txt, a program of this session. -/
import Derived.Test.Ythbkemkjkpaoaab17f
set_option linter.unusedVariables false
set_option linter.unusedSimpArgs false
set_option maxRecDepth 100000
namespace Go.Proofs.Ythbkemkjkpaoaab.E
open Go
def L25 (n : Nat) (k : Int) (zs : List (List AV)) : Nat → St → LT := fun id st => .is (.exit 0) (mkS 42 [(0, .os 0 0 n), (5, goI k)] [.arr 4 zs, .dead])

theorem t25 (l : List Mv) (v : Int) (k : Int) (zs : List (List AV)) (r : AV × List Row × List Nat) : (runT Try.prog H (fun f args sto => CT.of (F22 sameP v f args sto)) (L25 (List.length l) k zs) false 25
  [AV.os 0 0 (List.length l), AV.clo 21 []] [Row.arr 4 (List.map encM l)] fun q => q = r) = (Wf Try.prog H 32 [AV.sl (List.take (List.length l) (List.drop 0 (List.map encM l))), AV.clo 21 []] [] =
    some (goI v, [], []) ∧
  TB (v == -1) ((AV.os 0 0 (List.length l), [Row.arr 4 (List.map encM l)], []) = r)
    (LoopTo Try.prog H (H 25) 1 (loopOf Try.prog 25 5)
        (mkS 42
          [(0, AV.os 0 0 (List.length l)), (1, AV.clo 21 []), (5, goI v), (6, goI (IntKind.wrap IntKind.i64 (v + 1)))]
          [Row.arr 4 (List.map encM l), Row.dead])
        (Ex.exit 0, mkS 42 [(0, AV.os 0 0 (List.length l)), (5, goI k)] [Row.arr 4 zs, Row.dead]) ∧
      (0 ≤ k ∧ k ≤ (↑(List.length l) : Int)) ∧
        (0 ≤ k ∧
            k ≤
              (↑(List.length
                      (List.take (0 + Int.toNat k) zs ++
                          List.replicate (List.length l - Int.toNat k) [goI 0, goI 0, goI 0, goI 0] ++
                        List.drop (0 + Int.toNat k + (List.length l - Int.toNat k)) zs) -
                    0) :
                Int)) ∧
          (AV.os 0 0 (Int.toNat k - 0),
              [Row.arr 4
                  (List.take (0 + Int.toNat k) zs ++
                      List.replicate (List.length l - Int.toNat k) [goI 0, goI 0, goI 0, goI 0] ++
                    List.drop (0 + Int.toNat k + (List.length l - Int.toNat k)) zs)],
              []) =
            r)) := by kernel_rfl
theorem t25_5 (n : Nat) (i : Nat) (j : Nat) (xs : List (List AV)) (zs : List (List AV)) (k : Int) (r : Ex × St) : (turnT Try.prog H (fun f args sto => CT.of (F22 sameP 0 f args sto)) (L25 n k zs) false (H 25) 1 (loopOf Try.prog 25 5)
  (mkS 42 [(0, AV.os 0 0 n), (1, AV.clo 21 []), (5, goI (↑i : Int)), (6, goI (↑j : Int))] [Row.arr 4 xs, Row.dead]) r) = (TB (decide ((↑j : Int) < (↑n : Int)))
  ((0 ≤ (↑j : Int) ∧ (↑j : Int) < (↑n : Int) ∧ 0 + j < List.length xs) ∧
    cutAt 4 0 xs[0 + j]? =
        some
          [goI (rdI (rowAt xs (0 + j)) 0), goI (rdI (rowAt xs (0 + j)) 1), goI (rdI (rowAt xs (0 + j)) 2),
            goI (rdI (rowAt xs (0 + j)) 3)] ∧
      Wf Try.prog H 21
            [AV.agg
                [goI (rdI (rowAt xs (0 + j)) 0), goI (rdI (rowAt xs (0 + j)) 1), goI (rdI (rowAt xs (0 + j)) 2),
                  goI (rdI (rowAt xs (0 + j)) 3)]]
            [] =
          some
            (goB
                (decide
                  (Loc.mk (rdI (rowAt xs (0 + j)) 0) (rdI (rowAt xs (0 + j)) 1) =
                    Loc.mk (rdI (rowAt xs (0 + j)) 2) (rdI (rowAt xs (0 + j)) 3))),
              [], []) ∧
        TB
          (!decide
              (Loc.mk (rdI (rowAt xs (0 + j)) 0) (rdI (rowAt xs (0 + j)) 1) =
                Loc.mk (rdI (rowAt xs (0 + j)) 2) (rdI (rowAt xs (0 + j)) 3)))
          ((0 ≤ (↑i : Int) ∧ (↑i : Int) < (↑n : Int) ∧ 0 + i < List.length xs) ∧
            Option.map List.length xs[0 + i]? = some 4 ∧
              LoopTo Try.prog H (H 25) 1 (loopOf Try.prog 25 5)
                (mkS 42
                  [(0, AV.os 0 0 n), (1, AV.clo 21 []), (5, goI (IntKind.wrap IntKind.i64 ((↑i : Int) + 1))),
                    (6, goI (IntKind.wrap IntKind.i64 ((↑j : Int) + 1)))]
                  [Row.arr 4
                      (List.set xs (0 + i)
                        [goI (rdI (rowAt xs (0 + j)) 0), goI (rdI (rowAt xs (0 + j)) 1), goI (rdI (rowAt xs (0 + j)) 2),
                          goI (rdI (rowAt xs (0 + j)) 3)]),
                    Row.dead])
                r)
          (LoopTo Try.prog H (H 25) 1 (loopOf Try.prog 25 5)
            (mkS 42
              [(0, AV.os 0 0 n), (1, AV.clo 21 []), (5, goI (↑i : Int)),
                (6, goI (IntKind.wrap IntKind.i64 ((↑j : Int) + 1)))]
              [Row.arr 4 xs, Row.dead])
            r))
  ((Ex.exit 0, mkS 42 [(0, AV.os 0 0 n), (5, goI (↑i : Int))] [Row.arr 4 xs, Row.dead]) = r)) := by kernel_rfl
theorem loop25_5 (l : List Mv) (hl : l.length < 1000000) : ∀ (d j : Nat) (K : List Mv) (g : List AV) (G0 : List (List AV)), j + d = l.length → K.length + 1 + G0.length = j → rowsOk 4 (g :: G0) = true →
    ∃ G', rowsOk 4 G' = true ∧ (K ++ (l.drop j).filter (fun m => !sameP m)).length + G'.length = l.length ∧
      LoopTo Try.prog H (H 25) 1 (loopOf Try.prog 25 5) (mkS 42 [(0, .os 0 0 l.length), (1, .clo 21 []), (5, goI K.length), (6, goI j)] [.arr 4 (K.map encM ++ (g :: G0) ++ (l.drop j).map encM), .dead])
        (.exit 0, mkS 42 [(0, .os 0 0 l.length), (5, goI (K ++ (l.drop j).filter (fun m => !sameP m)).length)] [.arr 4 ((K ++ (l.drop j).filter (fun m => !sameP m)).map encM ++ G'), .dead])
  | 0, j, K, g, G0, hd, hK, hG => by
    have hj : j = l.length := by omega
    subst hj
    refine ⟨g :: G0, hG, by simp; omega, turnT_ok (viaK (t25_5 l.length K.length l.length _ [] 0 _) ?_)⟩
    simp [TB_iff]
  | d + 1, j, K, g, G0, hd, hK, hG => by
    have hj : j < l.length := by omega
    have hcons : l.drop j = l.getD j default :: l.drop (j + 1) := by
      rw [List.drop_eq_getElem_cons hj, List.getD_eq_getElem?_getD, List.getElem?_eq_getElem hj]; rfl
    generalize hm : l.getD j default = m at hcons
    have hlenA : (K.map encM ++ (g :: G0)).length = j := by simp; omega
    have hget : (K.map encM ++ (g :: G0) ++ (l.drop j).map encM)[0 + j]? = some (encM m) := by
      rw [Nat.zero_add, List.getElem?_append_right (by omega), hlenA, hcons]; simp
    have hrow : rowAt (K.map encM ++ (g :: G0) ++ (l.drop j).map encM) (0 + j) = encM m := by
      unfold rowAt; rw [List.getD_eq_getElem?_getD, hget]; rfl
    have hget2 : (K.map encM ++ (g :: G0) ++ (l.drop j).map encM)[0 + K.length]? = some g := by
      simp [List.getElem?_append]
    have hg : g.length = 4 := rowsOk_iff.1 hG g (by simp)
    have hwr : IntKind.i64.wrap ((j : Int) + 1) = ((j + 1 : Nat) : Int) := by rw [wrap64] <;> omega
    have hwr2 : IntKind.i64.wrap ((K.length : Int) + 1) = (((K ++ [m]).length : Nat) : Int) := by
      rw [List.length_append, List.length_singleton, wrap64] <;> omega
    have hlenx : (K.map encM ++ (g :: G0) ++ (l.drop j).map encM).length = l.length := by simp; omega
    have h21 := wf21 m
    have e1 : encM m = [goI m.to.k, goI m.to.n, goI m.fr.k, goI m.fr.n] := rfl
    have e3 : Loc.mk m.to.k m.to.n = m.to := rfl
    have e4 : Loc.mk m.fr.k m.fr.n = m.fr := rfl
    have eG : ∀ (G1 : List (List AV)), rowsOk 4 G1 = true → rowsOk 4 (G1 ++ [encM m]) = true := fun G1 h => rowsOk_append h (by rw [e1]; rfl)
    by_cases hs : m.to = m.fr
    · have hf : (l.drop j).filter (fun m => !sameP m) = (l.drop (j + 1)).filter (fun m => !sameP m) := by
        rw [hcons, List.filter_cons_of_neg (by simp [sameP, hs])]
      obtain ⟨G', h1, h2, ih⟩ := loop25_5 l hl d (j + 1) K g (G0 ++ [encM m]) (by omega) (by simp; omega) (by have := eG _ hG; simpa using this)
      rw [hf]
      refine ⟨G', h1, h2, turnT_ok (viaK (t25_5 l.length K.length j _ [] 0 _) ?_)⟩
      have ex : K.map encM ++ (g :: (G0 ++ [encM m])) ++ (l.drop (j + 1)).map encM = K.map encM ++ (g :: G0) ++ (l.drop j).map encM := by rw [hcons]; simp
      rw [ex] at ih
      simp only [TB_iff, decide_eq_true_eq, hwr, hget, hrow, hlenx, hget2, cutAt]
      refine ⟨fun _ => ⟨⟨by omega, by omega, by omega⟩, ?_⟩, fun h => absurd h (by simp; omega)⟩
      rw [e1] at h21 ⊢
      simp only [rdI, List.getD_cons_zero, List.getD_cons_succ, int_goI, e3, e4, hs]
      rw [hs] at h21
      refine ⟨by simp, by simpa [sameP] using h21, fun h => absurd h (by simp), fun _ => ih⟩
    · have hf : (l.drop j).filter (fun m => !sameP m) = m :: (l.drop (j + 1)).filter (fun m => !sameP m) := by
        rw [hcons, List.filter_cons_of_pos (by simp [sameP, hs])]
      have key : ∃ g' G0', (K ++ [m]).length + 1 + G0'.length = j + 1 ∧ rowsOk 4 (g' :: G0') = true ∧ (K ++ [m]).map encM ++ (g' :: G0') ++ (l.drop (j + 1)).map encM = (K.map encM ++ (g :: G0) ++ (l.drop j).map encM).set (0 + K.length) (encM m) := by
        have es : (K.map encM ++ (g :: G0) ++ (l.drop j).map encM).set (0 + K.length) (encM m) = K.map encM ++ encM m :: (G0 ++ (l.drop j).map encM) := by
          rw [Nat.zero_add, List.append_assoc, List.set_append, if_neg (by simp : ¬ K.length < (K.map encM).length)]; simp
        have hGt : rowsOk 4 G0 = true := by rw [rowsOk_iff] at hG ⊢; exact fun r hr => hG r (by simp [hr])
        cases hGc : G0 ++ [encM m] with
        | nil => simp at hGc
        | cons g' G0' =>
          refine ⟨g', G0', ?_, ?_, ?_⟩
          · have := congrArg List.length hGc; simp at this ⊢; omega
          · rw [← hGc]; exact eG _ hGt
          · rw [es, ← hGc, hcons]; simp
      obtain ⟨g', G0', k1, k2, k3⟩ := key
      obtain ⟨G', h1, h2, ih⟩ := loop25_5 l hl d (j + 1) (K ++ [m]) g' G0' (by omega) k1 k2
      rw [hf]
      have ea : K ++ m :: (l.drop (j + 1)).filter (fun m => !sameP m) = K ++ [m] ++ (l.drop (j + 1)).filter (fun m => !sameP m) := by simp
      rw [ea]
      refine ⟨G', h1, h2, turnT_ok (viaK (t25_5 l.length K.length j _ [] 0 _) ?_)⟩
      rw [k3] at ih
      simp only [TB_iff, decide_eq_true_eq, hwr, hget, hrow, hlenx, hget2, cutAt]
      refine ⟨fun _ => ⟨⟨by omega, by omega, by omega⟩, ?_⟩, fun h => absurd h (by simp; omega)⟩
      rw [hwr2]
      rw [e1] at h21 ih ⊢
      simp only [rdI, List.getD_cons_zero, List.getD_cons_succ, int_goI, e3, e4, hs]
      refine ⟨by simp, by simpa [sameP, hs] using h21, fun _ => ⟨⟨by omega, by omega, by omega⟩, by simp [hg], ih⟩, fun h => absurd h (by simp)⟩
theorem firstOf_some (l : List Mv) : ∀ (d i : Nat), i + d = l.length → (U.firstOf (fun j => sameP (l.getD j default)) d i = -1 ∧ (l.drop i).filter (fun m => !sameP m) = l.drop i) ∨
    ∃ v : Nat, U.firstOf (fun j => sameP (l.getD j default)) d i = v ∧ i ≤ v ∧ v < l.length ∧ (l.drop i).filter (fun m => !sameP m) = (l.drop i).take (v - i) ++ (l.drop (v + 1)).filter (fun m => !sameP m)
  | 0, i, hd => .inl ⟨rfl, by rw [List.drop_eq_nil_of_le (by omega)]; rfl⟩
  | d + 1, i, hd => by
    have hi : i < l.length := by omega
    have hcons : l.drop i = l.getD i default :: l.drop (i + 1) := by
      rw [List.drop_eq_getElem_cons hi, List.getD_eq_getElem?_getD, List.getElem?_eq_getElem hi]; rfl
    rcases Bool.eq_false_or_eq_true (sameP (l.getD i default)) with h | h
    · right
      refine ⟨i, by simp only [U.firstOf]; exact if_pos h, Nat.le_refl _, hi, ?_⟩
      rw [hcons, List.filter_cons_of_neg (by rw [h]; simp), Nat.sub_self, List.take_zero, List.nil_append]
    · have e1 : U.firstOf (fun j => sameP (l.getD j default)) (d + 1) i = U.firstOf (fun j => sameP (l.getD j default)) d (i + 1) := by simp only [U.firstOf]; exact if_neg (by rw [h]; simp)
      have e2 : (l.drop i).filter (fun m => !sameP m) = l.getD i default :: (l.drop (i + 1)).filter (fun m => !sameP m) := by
        rw [hcons, List.filter_cons_of_pos (by rw [h]; rfl)]
      rw [e1, e2]
      rcases firstOf_some l d (i + 1) (by omega) with ⟨h1, h2⟩ | ⟨v, h1, h2, h3, h4⟩
      · left; exact ⟨h1, by rw [h2, hcons]⟩
      · right
        refine ⟨v, h1, by omega, h3, ?_⟩
        rw [h4, hcons, show v - i = (v - (i + 1)) + 1 from by omega, List.take_succ_cons]; rfl
/-- slices.DeleteFunc, of what goes to where it comes from. -/
theorem wf25 (l : List Mv) (hl : l.length < 1000000) : ∃ ys, rowsOk 4 ys = true ∧ Wf Try.prog H 25 [.os 0 0 l.length, .clo 21 []] [.arr 4 (l.map encM)] = some (.os 0 0 (l.filter (fun m => !sameP m)).length, [.arr 4 ((l.filter (fun m => !sameP m)).map encM ++ ys)], []) := by
  have h32 := wf32c l hl
  have hT : List.take l.length (List.drop 0 (l.map encM)) = l.map encM := by rw [List.drop_zero]; exact List.take_of_length_le (by simp)
  rcases firstOf_some l l.length 0 (by omega) with ⟨h1, h2⟩ | ⟨v, h1, h2, h3, h4⟩
  · rw [List.drop_zero] at h2
    refine ⟨[], rfl, runT_ok (viaK (t25 l (-1) 0 [] _) ?_)⟩
    rw [h1] at h32
    rw [h2, hT]
    simp only [TB_iff, List.append_nil]
    exact ⟨h32, fun _ => trivial, fun h => absurd h (by simp)⟩
  · rw [h1] at h32
    rw [List.drop_zero, Nat.sub_zero] at h4
    have hcons : l.drop v = l.getD v default :: l.drop (v + 1) := by
      rw [List.drop_eq_getElem_cons h3, List.getD_eq_getElem?_getD, List.getElem?_eq_getElem h3]; rfl
    obtain ⟨G', g1, g2, g3⟩ := loop25_5 l hl (l.length - (v + 1)) (v + 1) (l.take v) (encM (l.getD v default)) [] (by omega) (by simp; omega) (by rw [rowsOk_iff]; simp [encM])
    have ex : (l.take v).map encM ++ [encM (l.getD v default)] ++ (l.drop (v + 1)).map encM = l.map encM := by
      rw [List.append_assoc, List.singleton_append, ← List.map_cons, ← hcons, ← List.map_append, List.take_append_drop]
    rw [ex, ← h4] at g3
    rw [← h4] at g2
    generalize hk : l.filter (fun m => !sameP m) = k at g2 g3
    have hwr : IntKind.i64.wrap ((v : Int) + 1) = ((v + 1 : Nat) : Int) := by rw [wrap64] <;> omega
    refine ⟨?ys, ?p1, ?p2⟩
    case p2 =>
      refine runT_ok (viaK (t25 l v k.length (k.map encM ++ G') _) ?_)
      rw [hT, hwr]
      have hlv : (l.take v).length = v := by simp; omega
      rw [hlv] at g3
      have en : Int.toNat (k.length : Int) = k.length := by omega
      have ek : 0 + k.length = (k.map encM).length := by simp
      rw [en, TB_iff]
      refine ⟨h32, fun h => absurd h (by simp <;> omega), fun _ => ⟨g3, ⟨by omega, by omega⟩, ⟨by omega, by simp <;> omega⟩, ?_⟩⟩
      rw [ek, List.take_left, List.append_assoc, Nat.sub_zero]
    case p1 =>
      refine rowsOk_append ?_ (rowsOk_drop _ (rowsOk_append (rowsOk_map _) g1))
      rw [rowsOk_iff]
      intro r hr
      rw [List.eq_of_mem_replicate hr]
      rfl
end Go.Proofs.Ythbkemkjkpaoaab.E
