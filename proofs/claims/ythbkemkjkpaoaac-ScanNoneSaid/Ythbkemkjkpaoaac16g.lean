/- Functions, by what the evaluator asks; the theorems t.. were printed by show.txt, a program of this session. -/
import Derived.Test.Ythbkemkjkpaoaac16f
set_option linter.unusedVariables false
set_option linter.unusedSimpArgs false
set_option maxRecDepth 100000
namespace Go.Proofs.Ythbkemkjkpaoaac.E
open Go
namespace U
def rightR (l : List (List AV)) : Bool := right (decS l)
/-- Along the line. -/
def upTo (l : List Span) (n : Nat) : Nat → List Loc × List Int
  | 0 => (List.replicate l.length ⟨0, 0⟩, List.replicate n (-1))
  | i + 1 => place l i (upTo l n i).1 (upTo l n i).2
def scan (l : List Span) (n : Nat) : List Loc := (upTo l n l.length).1
def hsR (l : List (List AV)) (i : Nat) (hs rs : List (List AV)) : List (List AV) := ((place (decS l) i (decL hs) (decI rs)).1).map encL
def rsR (l : List (List AV)) (i : Nat) (hs rs : List (List AV)) : List (List AV) := ((place (decS l) i (decL hs) (decI rs)).2).map encI
end U
def F9 : CallT := fun f args sto => match f, args, sto with
 | 12, [.sl l], _ => .is (goB (U.rightR l), [], [])
 | 19, [.sl _, .v (.int _ n)], _ => .is (.os 0 0 n.toNat, [.arr 1 (List.replicate n.toNat [goI (-1)])], [])
 | 20, [_, .v (.int _ i)], [.box [.sl l, .os _ _ a, .os _ _ b], .arr _ hs, .arr _ rs] => .is (.tup [], [.box [.sl l, .os 1 0 a, .os 2 0 b], .arr 2 (U.hsR l i.toNat hs rs), .arr 1 (U.rsR l i.toNat hs rs)], [])
 | _, _, _ => .no
def L9 (l : List Span) (n : Nat) : Nat → St → LT := fun id st => .is (.exit 0) (mkS 41 [(6, .pt 0 0 0)] [.box [.sl (l.map encS), .os 1 0 l.length, .os 2 0 n], .arr 2 ((U.scan l n).map encL), .arr 1 ((U.upTo l n l.length).2.map encI)])

theorem t9 (l : List Span) (n : Nat) (k : Int) (r : AV × List Row × List Nat) : (runT Try.prog H F9 (L9 l n) false 9 [AV.sl (List.map encS l), goI k] [] fun q => q = r) = (TB (decide (k < 0)) ((AV.tup [AV.sl [], goI 1], [], []) = r)
  (TB (decide (k > 32)) ((AV.tup [AV.sl [], goI 1], [], []) = r)
    (Wf Try.prog H 12 [AV.sl (List.map encS l)] [] = some (goB (U.rightR (List.map encS l)), [], []) ∧
      TB (!U.rightR (List.map encS l)) ((AV.tup [AV.sl [], goI 1], [], []) = r)
        ((0 ≤ (↑(List.length (List.map encS l)) : Int) ∧
            (↑(List.length (List.map encS l)) : Int) ≤ (↑(List.length (List.map encS l)) : Int) ∧
              (↑(List.length (List.map encS l)) : Int) ≤ (↑1000000 : Int)) ∧
          Wf Try.prog H 19 [AV.sl [[goI (-1)]], goI k] [] =
              some (AV.os 0 0 (Int.toNat k), [Row.arr 1 (List.replicate (Int.toNat k) [goI (-1)])], []) ∧
            LoopTo Try.prog H (H 9) 0 (loopOf Try.prog 9 5)
                (mkS 41 [(6, AV.pt 0 0 0), (29, goI (↑(List.length (List.map encS l)) : Int)), (30, goI 0)]
                  [Row.box
                      [AV.sl (List.map encS l),
                        AV.os 1 0 (List.length (List.replicate (List.length (List.map encS l)) [goI 0, goI 0])),
                        AV.os 2 0 (Int.toNat k)],
                    Row.arr 2 (List.replicate (List.length (List.map encS l)) [goI 0, goI 0]),
                    Row.arr 1 (List.replicate (Int.toNat k) [goI (-1)])])
                (Ex.exit 0,
                  mkS 41 [(6, AV.pt 0 0 0)]
                    [Row.box [AV.sl (List.map encS l), AV.os 1 0 (List.length l), AV.os 2 0 n],
                      Row.arr 2 (List.map encL (U.scan l n)),
                      Row.arr 1 (List.map encI (U.upTo l n (List.length l)).2)]) ∧
              (AV.tup [AV.os 0 0 (List.length l), goI 0], [Row.arr 2 (List.map encL (U.scan l n))], []) = r)))) := by kernel_rfl
theorem t9_5 (l : List Span) (hs : List Loc) (rs : List Int) (m : Nat) (n : Nat) (i : Nat) (r : Ex × St) : (turnT Try.prog H F9 L0 false (H 9) 0 (loopOf Try.prog 9 5)
  (mkS 41 [(6, AV.pt 0 0 0), (29, goI (↑m : Int)), (30, goI (↑i : Int))]
    [Row.box [AV.sl (List.map encS l), AV.os 1 0 (List.length hs), AV.os 2 0 (List.length rs)],
      Row.arr 2 (List.map encL hs), Row.arr 1 (List.map encI rs)])
  r) = (TB (decide ((↑i : Int) < (↑m : Int)))
  (Wf Try.prog H 20 [AV.pt 0 0 0, goI (↑i : Int)]
        [Row.box [AV.sl (List.map encS l), AV.os 1 0 (List.length hs), AV.os 2 0 (List.length rs)],
          Row.arr 2 (List.map encL hs), Row.arr 1 (List.map encI rs)] =
      some
        (AV.tup [],
          [Row.box [AV.sl (List.map encS l), AV.os 1 0 (List.length hs), AV.os 2 0 (List.length rs)],
            Row.arr 2 (U.hsR (List.map encS l) i (List.map encL hs) (List.map encI rs)),
            Row.arr 1 (U.rsR (List.map encS l) i (List.map encL hs) (List.map encI rs))],
          []) ∧
    LoopTo Try.prog H (H 9) 0 (loopOf Try.prog 9 5)
      (mkS 41 [(6, AV.pt 0 0 0), (29, goI (↑m : Int)), (30, goI (IntKind.wrap IntKind.i64 ((↑i : Int) + 1)))]
        [Row.box [AV.sl (List.map encS l), AV.os 1 0 (List.length hs), AV.os 2 0 (List.length rs)],
          Row.arr 2 (U.hsR (List.map encS l) i (List.map encL hs) (List.map encI rs)),
          Row.arr 1 (U.rsR (List.map encS l) i (List.map encL hs) (List.map encI rs))])
      r)
  ((Ex.exit 0,
      mkS 41 [(6, AV.pt 0 0 0)]
        [Row.box [AV.sl (List.map encS l), AV.os 1 0 (List.length hs), AV.os 2 0 (List.length rs)],
          Row.arr 2 (List.map encL hs), Row.arr 1 (List.map encI rs)]) =
    r)) := by kernel_rfl
theorem wf19 : ∀ k : Nat, k ≤ 32 → Wf Try.prog H 19 [.sl [[goI (-1)]], goI (k : Int)] [] = some (.os 0 0 k, [.arr 1 (List.replicate k [goI (-1)])], [])
  | 0, _ => Wf_at 60 (by kernel_rfl)
  | 1, _ => Wf_at 60 (by kernel_rfl)
  | 2, _ => Wf_at 60 (by kernel_rfl)
  | 3, _ => Wf_at 60 (by kernel_rfl)
  | 4, _ => Wf_at 60 (by kernel_rfl)
  | 5, _ => Wf_at 60 (by kernel_rfl)
  | 6, _ => Wf_at 60 (by kernel_rfl)
  | 7, _ => Wf_at 60 (by kernel_rfl)
  | 8, _ => Wf_at 60 (by kernel_rfl)
  | 9, _ => Wf_at 60 (by kernel_rfl)
  | 10, _ => Wf_at 60 (by kernel_rfl)
  | 11, _ => Wf_at 60 (by kernel_rfl)
  | 12, _ => Wf_at 60 (by kernel_rfl)
  | 13, _ => Wf_at 60 (by kernel_rfl)
  | 14, _ => Wf_at 60 (by kernel_rfl)
  | 15, _ => Wf_at 60 (by kernel_rfl)
  | 16, _ => Wf_at 60 (by kernel_rfl)
  | 17, _ => Wf_at 60 (by kernel_rfl)
  | 18, _ => Wf_at 60 (by kernel_rfl)
  | 19, _ => Wf_at 60 (by kernel_rfl)
  | 20, _ => Wf_at 60 (by kernel_rfl)
  | 21, _ => Wf_at 60 (by kernel_rfl)
  | 22, _ => Wf_at 60 (by kernel_rfl)
  | 23, _ => Wf_at 60 (by kernel_rfl)
  | 24, _ => Wf_at 60 (by kernel_rfl)
  | 25, _ => Wf_at 60 (by kernel_rfl)
  | 26, _ => Wf_at 60 (by kernel_rfl)
  | 27, _ => Wf_at 60 (by kernel_rfl)
  | 28, _ => Wf_at 60 (by kernel_rfl)
  | 29, _ => Wf_at 60 (by kernel_rfl)
  | 30, _ => Wf_at 60 (by kernel_rfl)
  | 31, _ => Wf_at 60 (by kernel_rfl)
  | 32, _ => Wf_at 60 (by kernel_rfl)
  | n + 33, h => absurd h (by omega)
theorem place_len (l : List Span) (i : Nat) (hs : List Loc) (rs : List Int) : (U.place l i hs rs).1.length = hs.length ∧ (U.place l i hs rs).2.length = rs.length := by
  unfold U.place
  split
  · simp [expire_len]
  · split
    · simp [expire_len]
    · simp only
      split <;> simp [expire_len]
theorem upTo_len (l : List Span) (n : Nat) : ∀ i, (U.upTo l n i).1.length = l.length ∧ (U.upTo l n i).2.length = n
  | 0 => by simp [U.upTo]
  | i + 1 => by
    obtain ⟨h1, h2⟩ := upTo_len l n i
    obtain ⟨h3, h4⟩ := place_len l i (U.upTo l n i).1 (U.upTo l n i).2
    exact ⟨h3.trans h1, h4.trans h2⟩
theorem regs_set {n : Nat} {rs : List Int} (h : RegsOk n rs) (w : Nat) {i : Nat} (hi : i < n) : RegsOk n (rs.set w i) := fun k hk => by
  rcases List.mem_or_eq_of_mem_set hk with h1 | h1
  · exact h k h1
  · subst h1; exact .inr ⟨by omega, by omega⟩
theorem place_regs (l : List Span) (i : Nat) (hi : i < l.length) (hs : List Loc) (rs : List Int) (hr : RegsOk l.length rs) : RegsOk l.length (U.place l i hs rs).2 := by
  have h1 := expire_ok (p := (U.sp l i).fr) hr
  unfold U.place
  split
  · exact h1
  · split
    · exact regs_set h1 _ hi
    · simp only
      split
      · exact regs_set h1 _ hi
      · exact h1
theorem upTo_regs (l : List Span) (n : Nat) : ∀ i, i ≤ l.length → RegsOk l.length (U.upTo l n i).2
  | 0, _ => fun k hk => .inl (List.eq_of_mem_replicate hk)
  | i + 1, h => place_regs l i (by omega) _ _ (upTo_regs l n i (by omega))
theorem hsR_map (l : List Span) (i : Nat) (hs : List Loc) (rs : List Int) : U.hsR (l.map encS) i (hs.map encL) (rs.map encI) = (U.place l i hs rs).1.map encL := by unfold U.hsR; rw [decS_map, decL_map, decI_map]
theorem rsR_map (l : List Span) (i : Nat) (hs : List Loc) (rs : List Int) : U.rsR (l.map encS) i (hs.map encL) (rs.map encI) = (U.place l i hs rs).2.map encI := by unfold U.rsR; rw [decS_map, decL_map, decI_map]
theorem loop9_5 (l : List Span) (n : Nat) (hl : l.length ≤ 48) (hn : n ≤ 32) : ∀ (d i : Nat), i + d = l.length →
    LoopTo Try.prog H (H 9) 0 (loopOf Try.prog 9 5) (mkS 41 [(6, .pt 0 0 0), (29, goI l.length), (30, goI i)] (scn l (U.upTo l n i).1 (U.upTo l n i).2))
      (.exit 0, mkS 41 [(6, .pt 0 0 0)] (scn l (U.upTo l n l.length).1 (U.upTo l n l.length).2))
  | 0, i, hd => by
    refine turnK (t9_5 l _ _ l.length n i _) ?_
    have hi : i = l.length := by omega
    subst hi
    rw [decide_eq_false (by omega)]
    exact rfl
  | d + 1, i, hd => by
    have hi : i < l.length := by omega
    have ih := loop9_5 l n hl hn d (i + 1) (by omega)
    obtain ⟨h1, h2⟩ := upTo_len l n i
    obtain ⟨h3, h4⟩ := upTo_len l n (i + 1)
    have h20 := wf20 l (U.upTo l n i).1 (U.upTo l n i).2 i hi h1 (by omega) (upTo_regs l n i (by omega)) (by omega)
    have e : U.upTo l n (i + 1) = U.place l i (U.upTo l n i).1 (U.upTo l n i).2 := rfl
    rw [← e] at h20
    unfold scn at h20 ih
    refine turnK (t9_5 l _ _ l.length n i _) ?_
    rw [decide_eq_true (by omega), wrapS hi (by omega), hsR_map, rsR_map, ← e]
    rw [h3, h4] at h20 ih
    rw [h1, h2] at h20 ⊢
    exact ⟨h20, ih⟩
theorem wf9_no (l : List Span) (k : Int) (hw : ∀ s ∈ l, In64 s.v) (h : (decide (k < 0) || (decide (k > 32) || !(U.right l))) = true) : Wf Try.prog H 9 [.sl (l.map encS), goI k] [] = some (.tup [.sl [], goI 1], [], []) := by
  refine runK (t9 l 0 k _) ?_
  cases h1 : decide (k < 0) with
  | true => exact rfl
  | false =>
    cases h2 : decide (k > 32) with
    | true => exact rfl
    | false =>
      rw [h1, h2] at h
      have h3 : U.right l = false := by simpa using h
      have h12 := wf12 l hw
      have e : U.rightR (l.map encS) = U.right l := by unfold U.rightR; rw [decS_map]
      rw [e]
      rw [h3] at h12 ⊢
      exact ⟨h12, rfl⟩
theorem right_len {l : List Span} (h : U.right l = true) : l.length ≤ 48 := by
  unfold U.right at h
  rw [Bool.and_eq_true, decide_eq_true_eq] at h
  exact h.1
theorem wf9 (l : List Span) (n : Nat) (hw : ∀ s ∈ l, In64 s.v) (hn : n ≤ 32) (h : U.right l = true) : Wf Try.prog H 9 [.sl (l.map encS), goI (n : Int)] [] = some (.tup [.os 0 0 l.length, goI 0], [.arr 2 ((U.scan l n).map encL)], []) := by
  have hl := right_len h
  refine runK (t9 l n n _) ?_
  have h12 := wf12 l hw
  have e : U.rightR (l.map encS) = U.right l := by unfold U.rightR; rw [decS_map]
  have h5 := loop9_5 l n hl hn l.length 0 (by omega)
  have h19 := wf19 n hn
  rw [e]
  rw [h] at h12 ⊢
  rw [decide_eq_false (by omega), decide_eq_false (by omega)]
  unfold scn at h5
  obtain ⟨h1, h2⟩ := upTo_len l n 0
  obtain ⟨h3, h4⟩ := upTo_len l n l.length
  rw [h1, h2, h3, h4] at h5
  have e1 : ((U.upTo l n 0).1.map encL) = List.replicate l.length [goI 0, goI 0] := List.map_replicate
  have e2 : ((U.upTo l n 0).2.map encI) = List.replicate n [goI (-1)] := List.map_replicate
  rw [e1, e2] at h5
  rw [List.length_map, List.length_replicate, Int.toNat_natCast]
  exact ⟨h12, ⟨by omega, by omega, by omega⟩, h19, h5, rfl⟩
end Go.Proofs.Ythbkemkjkpaoaac.E
