/- Functions, by what the evaluator asks; the theorems t.. were printed by show.txt, a program of this session. -/
import Derived.Test.YtdnekkkpngnmkaaDoor05h
set_option linter.unusedVariables false
set_option linter.unusedSimpArgs false
set_option maxRecDepth 100000
namespace Go.Proofs.YtdnekkkpngnmkaaDoor.E
open Go
def bxF (ks bs : List (List AV)) (p q : Int) (bl : List XB) : List Row := [.box [.sl ks, .sl bs, goI p, goI q, .sl (bl.map encB)]]
namespace U
def nextR (bl : List (List AV)) (n : Int) : List (List AV) := (nextAt (bl.map decB) n).map encI
def hasR (l : List (List AV)) (n : Int) : Bool := hasI (decI l) n
end U
def FN : CallT := fun f args sto => match f, args with
 | 73, [.agg [_, _, _, _, .sl bl], .v (.int _ n)] => .is (.sl (U.nextR bl n), [], [])
 | 27, [.agg [_, _, _, _, .sl bl], .v (.int _ n)] => .is (.sl (U.nextR bl n), [], [])
 | 90, [.sl l, .v (.int _ n)] => .is (goB (U.hasR l n), [], [])
 | _, _ => .no
def L17 (n : Nat) (l : List Int) : Nat → St → LT := fun id st => .is (.exit 0) (mkS n [(5, .os 1 0 l.length)] [.dead, .arr 1 (l.map encI)])
structure XE where
  src : Int
  dst : Int
  deriving DecidableEq, Inhabited
def encE (x : XE) : List AV := [goI x.src, goI x.dst]
def L22 (n : Nat) (v : Int) : Nat → St → LT := fun id st => .is (.exit 0) (mkS n [(3, goI v)] st.sto)

theorem t17 (ks : List (List AV)) (bs : List (List AV)) (p : Int) (q : Int) (bl : List XB) (n : Int) (l : List Int) (r : AV × List Row × List Nat) : (runT Tryd.prog H FN (L17 33 l) false 75 [AV.agg [AV.sl ks, AV.sl bs, goI p, goI q, AV.sl (List.map encB bl)], goI n] []
 fun q => q = r) = (TB (decide (n < 0)) ((AV.sl [], [], []) = r)
 (TB (decide (n ≥ (↑(List.length (List.map encB bl)) : Int))) ((AV.sl [], [], []) = r)
 (LoopTo Tryd.prog H (H 75) 0 (loopOf Tryd.prog 75 5)
 (mkS 33
 [(1, goI n), (2, AV.pt 0 0 0), (5, AV.os 1 0 0), (18, goI (↑(List.length (List.map encB bl)) : Int)),
 (19, goI 0)]
 [Row.box [AV.sl ks, AV.sl bs, goI p, goI q, AV.sl (List.map encB bl)], Row.arr 1 []])
 (Ex.exit 0, mkS 33 [(5, AV.os 1 0 (List.length l))] [Row.dead, Row.arr 1 (List.map encI l)]) ∧
 (AV.os 0 0 (List.length l), [Row.arr 1 (List.map encI l)], []) = r))) := by kernel_rfl
theorem t17_5 (ks : List (List AV)) (bs : List (List AV)) (p : Int) (q : Int) (bl : List XB) (n : Int) (k : Int) (i : Nat) (l : List Int) (r : Ex × St) : (turnT Tryd.prog H FN L0 false (H 75) 0 (loopOf Tryd.prog 75 5)
 (mkS 33 [(1, goI n), (2, AV.pt 0 0 0), (5, AV.os 1 0 (List.length l)), (18, goI k), (19, goI (↑i : Int))]
 [Row.box [AV.sl ks, AV.sl bs, goI p, goI q, AV.sl (List.map encB bl)], Row.arr 1 (List.map encI l)])
 r) = (TB (decide ((↑i : Int) < k))
 (Wf Tryd.prog H 73 [AV.agg [AV.sl ks, AV.sl bs, goI p, goI q, AV.sl (List.map encB bl)], goI (↑i : Int)] [] =
 some (AV.sl (U.nextR (List.map encB bl) (↑i : Int)), [], []) ∧
 Wf Tryd.prog H 90 [AV.sl (U.nextR (List.map encB bl) (↑i : Int)), goI n] [] =
 some (goB (U.hasR (U.nextR (List.map encB bl) (↑i : Int)) n), [], []) ∧
 TB (U.hasR (U.nextR (List.map encB bl) (↑i : Int)) n)
 (true = true ∧
 (List.length l = List.length (List.map encI l) ∧ List.length l + 1 ≤ 1000000) ∧
 LoopTo Tryd.prog H (H 75) 0 (loopOf Tryd.prog 75 5)
 (mkS 33
 [(1, goI n), (2, AV.pt 0 0 0), (5, AV.os 1 0 (List.length l + 1)), (18, goI k),
 (19, goI (IntKind.wrap IntKind.i64 ((↑i : Int) + 1)))]
 [Row.box [AV.sl ks, AV.sl bs, goI p, goI q, AV.sl (List.map encB bl)],
 Row.arr 1 (List.map encI l ++ [[goI (↑i : Int)]])])
 r)
 (LoopTo Tryd.prog H (H 75) 0 (loopOf Tryd.prog 75 5)
 (mkS 33
 [(1, goI n), (2, AV.pt 0 0 0), (5, AV.os 1 0 (List.length l)), (18, goI k),
 (19, goI (IntKind.wrap IntKind.i64 ((↑i : Int) + 1)))]
 [Row.box [AV.sl ks, AV.sl bs, goI p, goI q, AV.sl (List.map encB bl)], Row.arr 1 (List.map encI l)])
 r))
 ((Ex.exit 0, mkS 33 [(5, AV.os 1 0 (List.length l))] [Row.dead, Row.arr 1 (List.map encI l)]) = r)) := by kernel_rfl
namespace U
def edg (l : List XE) (i : Nat) : XE := l.getD i default
/-- The blocks from i on, d of them, that lead to n. -/
def prevFrom (bl : List XB) (n : Int) : Nat → Nat → List Int
  | 0, _ => []
  | d + 1, i => (if (decide (n ≥ 0) && (decide (n < bl.length) && hasI (nextAt bl i) n)) = true then [(i : Int)] else []) ++ prevFrom bl n d (i + 1)
def prevAt (bl : List XB) (n : Int) : List Int := prevFrom bl n bl.length 0
def edgeTo (i : Nat) (t : List Int) : List XE := t.map fun to => ⟨i, to⟩
def edgesFrom (bl : List XB) : Nat → Nat → List XE
  | 0, _ => []
  | d + 1, i => edgeTo i (nextAt bl i) ++ edgesFrom bl d (i + 1)
def edges (bl : List XB) : List XE := edgesFrom bl bl.length 0
def size : List XB → Int
  | [] => 0
  | b :: l => b.code.length + size l
end U
theorem rowE {l : List XE} {i : Nat} (h : i < l.length) : rowAt (l.map encE) i = encE (U.edg l i) := rowAt_map h
theorem getE {l : List XE} {i : Nat} (h : i < l.length) : (l.map encE)[i]? = some (encE (U.edg l i)) := rows_map h
theorem edg_mem {l : List XE} {i : Nat} (h : i < l.length) : U.edg l i ∈ l := getD_mem h
theorem nextR_map (bl : List XB) (n : Int) : U.nextR (bl.map encB) n = (U.nextAt bl n).map encI := by unfold U.nextR; rw [decBs_map]
theorem hasR_map (l : List Int) (n : Int) : U.hasR (l.map encI) n = U.hasI l n := by unfold U.hasR; rw [decI_map]
theorem out_prev {bl : List XB} {n : Int} (h : n < 0 ∨ n ≥ bl.length) : ∀ d i, U.prevFrom bl n d i = []
  | 0, i => rfl
  | d + 1, i => by
    have e : (decide (n ≥ 0) && (decide (n < bl.length) && U.hasI (U.nextAt bl i) n)) = false := by
      rcases h with h | h
      · rw [decide_eq_false (by omega)]; rfl
      · rw [decide_eq_false (show ¬ n < bl.length by omega)]; cases decide (n ≥ 0) <;> rfl
    unfold U.prevFrom
    rw [e, out_prev h d (i + 1)]; rfl
section
variable (ks bs : List (List AV)) (p q : Int) (bl : List XB) (hc : CodeOk bl) (hl : bl.length ≤ 3000)
include hc hl
theorem loop17_5 (n : Int) (h0 : 0 ≤ n) (h1 : n < bl.length) : ∀ (d i : Nat) (l : List Int), i + d = bl.length → l.length ≤ i →
    LoopTo Tryd.prog H (H 75) 0 (loopOf Tryd.prog 75 5) (mkS 33 [(1, goI n), (2, .pt 0 0 0), (5, .os 1 0 l.length), (18, goI bl.length), (19, goI i)] [.box [.sl ks, .sl bs, goI p, goI q, .sl (bl.map encB)], .arr 1 (l.map encI)])
      (.exit 0, mkS 33 [(5, .os 1 0 (l ++ U.prevFrom bl n d i).length)] [.dead, .arr 1 ((l ++ U.prevFrom bl n d i).map encI)])
  | 0, i, l, hd, hll => by
    refine turnK (t17_5 ks bs p q bl n bl.length i l _) ?_
    rw [decide_eq_false (by omega), show U.prevFrom bl n 0 i = [] from rfl, List.append_nil]
    exact rfl
  | d + 1, i, l, hd, hll => by
    have hi : i < bl.length := by omega
    refine turnK (t17_5 ks bs p q bl n bl.length i l _) ?_
    rw [decide_eq_true (by omega), wrapS hi (by omega), nextR_map, hasR_map]
    refine ⟨wf15 ks bs p q bl i hc, wf47 _ n (by have := nextAt_len bl i; omega), ?_⟩
    have e : U.prevFrom bl n (d + 1) i = (if U.hasI (U.nextAt bl i) n = true then [(i : Int)] else []) ++ U.prevFrom bl n d (i + 1) := by
      show (if (decide (n ≥ 0) && (decide (n < bl.length) && U.hasI (U.nextAt bl i) n)) = true then [(i : Int)] else []) ++ _ = _
      rw [decide_eq_true (show n ≥ 0 from h0), decide_eq_true h1, Bool.true_and, Bool.true_and]
    rw [e]
    cases hh : U.hasI (U.nextAt bl i) n with
    | true =>
      have ih := loop17_5 n h0 h1 d (i + 1) (l ++ [(i : Int)]) (by omega) (by simp; omega)
      rw [List.append_assoc] at ih
      simp only [List.length_append, List.length_singleton, List.map_append, List.map_cons, List.map_nil] at ih
      refine ⟨rfl, ⟨(List.length_map _).symm, by omega⟩, ?_⟩
      rw [if_pos rfl]
      simp only [List.length_append, List.length_singleton, List.map_append, List.map_cons, List.map_nil]
      exact ih
    | false =>
      have ih := loop17_5 n h0 h1 d (i + 1) l (by omega) (by omega)
      rw [if_neg (by simp), List.nil_append]
      exact ih
omit hc hl in
theorem prev_len (n : Int) : ∀ d i, (U.prevFrom bl n d i).length ≤ d
  | 0, i => Nat.le_refl _
  | d + 1, i => by
    have ih := prev_len n d (i + 1)
    unfold U.prevFrom
    rw [List.length_append]
    split <;> simp <;> omega
/-- flow.Prev: new memory, or none. -/
theorem wf17 (n : Int) : Wf Tryd.prog H 75 [.agg [.sl ks, .sl bs, goI p, goI q, .sl (bl.map encB)], goI n] [] = some (if decide (n < 0) || decide (n ≥ bl.length) then (.sl [], [], []) else (.os 0 0 (U.prevAt bl n).length, [.arr 1 ((U.prevAt bl n).map encI)], [])) := by
  refine runK (t17 ks bs p q bl n (U.prevAt bl n) _) ?_
  rw [List.length_map]
  by_cases h0 : n < 0
  · rw [decide_eq_true h0]; exact rfl
  by_cases h1 : n ≥ bl.length
  · rw [decide_eq_false h0, decide_eq_true h1]; exact rfl
  rw [decide_eq_false h0, decide_eq_false h1]
  exact ⟨loop17_5 ks bs p q bl hc hl n (by omega) (by omega) bl.length 0 [] (by omega) (by simp), rfl⟩
end
theorem mem_prevFrom (bl : List XB) (n : Int) (x : Int) : ∀ d i, x ∈ U.prevFrom bl n d i ↔ (0 ≤ n ∧ n < bl.length) ∧ ∃ j : Nat, i ≤ j ∧ j < i + d ∧ x = j ∧ n ∈ U.nextAt bl j
  | 0, i => by
    constructor
    · intro h; cases h
    · rintro ⟨_, j, h1, h2, _⟩; omega
  | d + 1, i => by
    have ih := mem_prevFrom bl n x d (i + 1)
    unfold U.prevFrom
    rw [List.mem_append, ih]
    constructor
    · rintro (h | ⟨h1, j, h2, h3, h4⟩)
      · split at h
        · rename_i hc
          rw [Bool.and_eq_true, Bool.and_eq_true, decide_eq_true_eq, decide_eq_true_eq, hasI_iff] at hc
          exact ⟨⟨hc.1, hc.2.1⟩, i, Nat.le_refl _, by omega, by simpa using h, hc.2.2⟩
        · cases h
      · exact ⟨h1, j, by omega, by omega, h4⟩
    · rintro ⟨h1, j, h2, h3, h4, h5⟩
      by_cases e : j = i
      · subst e
        left
        rw [if_pos (by rw [Bool.and_eq_true, Bool.and_eq_true, decide_eq_true_eq, decide_eq_true_eq, hasI_iff]; exact ⟨h1.1, h1.2, h5⟩)]
        simpa using h4
      · exact Or.inr ⟨h1, j, by omega, by omega, h4, h5⟩
theorem mem_prevAt (bl : List XB) (n : Int) (x : Int) : x ∈ U.prevAt bl n ↔ (0 ≤ n ∧ n < bl.length) ∧ ∃ j : Nat, j < bl.length ∧ x = j ∧ n ∈ U.nextAt bl j := by
  unfold U.prevAt
  rw [mem_prevFrom]
  constructor
  · rintro ⟨h1, j, _, h3, h4⟩; exact ⟨h1, j, by omega, h4⟩
  · rintro ⟨h1, j, h3, h4⟩; exact ⟨h1, j, by omega, by omega, h4⟩
end Go.Proofs.YtdnekkkpngnmkaaDoor.E
