/- The memory of a call's own, and what stands behind it. -/
import Derived.Test.YtnmnaomfohlmcaaE2
set_option linter.unusedVariables false
set_option linter.unusedSimpArgs false
namespace Go.Proofs.Ytnmnaomfohlmcaa.E
open Go

mutual
theorem killV_nil : ∀ x : AV, killV [] x = x
  | .v _ | .nil | .sl _ | .cl _ | .dead => by simp [killV]
  | .os .. | .pt .. | .mp _ => by simp [killV]
  | .rp cells => by simp [killV, killL_nil cells]
  | .clo f caps => by simp [killV, killL_nil caps]
  | .agg cells => by simp [killV, killL_nil cells]
  | .tup xs => by simp [killV, killL_nil xs]
theorem killL_nil : ∀ l : List AV, killL [] l = l
  | [] => rfl
  | x :: r => by simp [killL, killV_nil x, killL_nil r]
end
theorem killR_nil : ∀ r : Row, killR [] r = r
  | .arr _ _ | .map _ _ | .dead => rfl
  | .box cells => by simp [killR, killL_nil]

theorem foldl_dead (ts : List Nat) : ∀ (σ : List Row) (u : Nat), (ts.foldl (fun s t => s.set t Row.dead) σ)[u]? = (σ[u]?).map fun r => if u ∈ ts then Row.dead else r := by
  induction ts with
  | nil => intro σ u; simp
  | cons t ts ih =>
    intro σ u
    rw [List.foldl_cons, ih, List.getElem?_set]
    by_cases h : t = u
    · subst h
      by_cases hl : t < σ.length
      · simp [hl]
      · simp [hl]
    · have h' : ¬ u = t := fun e => h e.symm
      simp [h, h']
theorem giveUp_get (ts : List Nat) (σ : List Row) (u : Nat) : (giveUp ts σ)[u]? = (σ[u]?).map fun r => if u ∈ ts then Row.dead else killR ts r := by
  unfold giveUp
  split
  · rename_i h
    obtain rfl : ts = [] := by simpa using h
    simp [killR_nil]
  · rw [List.getElem?_map, foldl_dead, Option.map_map]
    congr 1
    funext r
    simp only [Function.comp]
    split <;> rfl
theorem foldl_dead_len (ts : List Nat) : ∀ σ : List Row, (ts.foldl (fun s t => s.set t Row.dead) σ).length = σ.length := by
  induction ts with
  | nil => intro σ; rfl
  | cons t ts ih => intro σ; rw [List.foldl_cons, ih, List.length_set]
theorem giveUp_len (ts : List Nat) (σ : List Row) : (giveUp ts σ).length = σ.length := by
  unfold giveUp
  split
  · rfl
  · rw [List.length_map, foldl_dead_len]

/-- A map's entries. -/
def entsOf (kd : Bool × List IntKind) (L : List (List Int × Value)) : Array MapEntry := (L.zipIdx.map fun x => (⟨encKey kd x.1.1, x.1.2, x.2⟩ : MapEntry)).toArray
/-- What stands behind a row. -/
def RowOk (ρ : Gh) (w : World) (g : Option Blk) : Row → Prop
  | .dead => True
  | .arr sz xs => match g with
    | none => xs = []
    | some k => k.sz = sz ∧ k.n = xs.length ∧ k.n ≤ k.cap ∧ ∃ cs e, w.heap[k.b]? = some (.cells cs e (0, 0)) ∧ (k.o + k.cap) * k.sz ≤ cs.size ∧
      ∀ (i : Nat) (row : List AV), xs[i]? = some row → row.length = k.sz ∧ ∀ (j : Nat) (x : AV), row[j]? = some x → frozen x = true ∧ ∃ y, cs[(k.o + i) * k.sz + j]? = some y ∧ RV ρ w x y
  | .box cells => ∃ k, g = some k ∧ k.o = 0 ∧ ∃ cs e, w.heap[k.b]? = some (.cells cs e (0, 0)) ∧ ∀ (j : Nat) (x : AV), cells[j]? = some x → ∃ y, cs[j]? = some y ∧ RV ρ w x y
  | .map kd L => ∃ k, g = some k ∧ (L.map (·.1)).Nodup ∧ (∀ p ∈ L, goodKey kd.2 p.1 = true) ∧ w.heap[k.b]? = some (.map (entsOf kd L) L.length)
theorem RowOk.ext {ρ ρ' : Gh} {w w' : World} {mv : List Nat} {g : Option Blk} {r : Row} (hx : Ext ρ w ρ' w' mv) (hb : ∀ k, g = some k → w'.heap[k.b]? = w.heap[k.b]?) (h : RowOk ρ w g r) : RowOk ρ' w' g (killR mv r) := by
  cases r with
  | dead => exact trivial
  | arr sz xs =>
    cases g with
    | none => exact h
    | some k =>
      obtain ⟨h0, h1, h2, cs, e, h3, h4, h5⟩ := h
      refine ⟨h0, h1, h2, cs, e, (hb k rfl).trans h3, h4, fun i row hi => ⟨(h5 i row hi).1, fun j x hj => ?_⟩⟩
      obtain ⟨h6, y, h7, h8⟩ := (h5 i row hi).2 j x hj
      have := h8.ext hx
      rw [killV_frozen mv x h6] at this
      exact ⟨h6, y, h7, this⟩
  | box cells =>
    obtain ⟨k, hg, h1, cs, e, h3, h5⟩ := h
    refine ⟨k, hg, h1, cs, e, (hb k hg).trans h3, fun j x hj => ?_⟩
    rw [killL_get] at hj
    obtain ⟨x0, hj0, rfl⟩ := Option.map_eq_some_iff.1 hj
    obtain ⟨y, h7, h8⟩ := h5 j x0 hj0
    exact ⟨y, h7, h8.ext hx⟩
  | map kd L =>
    obtain ⟨k, hg, h1, h2, h3⟩ := h
    exact ⟨k, hg, h1, h2, (hb k hg).trans h3⟩
structure StoOk (ρ : Gh) (w : World) (σ : List Row) : Prop where
  len : ∀ t k, ρ t = some k → t < σ.length
  inj : ∀ t t' k k', ρ t = some k → ρ t' = some k' → k.b = k'.b → t = t'
  blk : ∀ t k, ρ t = some k → k.b < w.heap.size
  apart : ∀ t k, ρ t = some k → ¬ ρ.X k.b
  old : ∀ b, ρ.X b → b < w.heap.size
  row : ∀ t r, σ[t]? = some r → RowOk ρ w (ρ t) r
/-- Memory of which nothing of one's own has changed. -/
theorem StoOk.ext {ρ : Gh} {w w' : World} {σ : List Row} (h : StoOk ρ w σ) (hx : Ext ρ w ρ w' []) (hb : ∀ t k, ρ t = some k → w'.heap[k.b]? = w.heap[k.b]?) : StoOk ρ w' σ where
  len := h.len
  inj := h.inj
  blk := fun t k ht => Nat.lt_of_lt_of_le (h.blk t k ht) hx.size
  apart := h.apart
  old := fun b hb => Nat.lt_of_lt_of_le (h.old b hb) hx.size
  row := fun t r hr => by
    have := (h.row t r hr).ext hx (fun k hk => hb t k hk)
    rwa [killR_nil] at this
/-- One row is laid anew; others may be given up. -/
theorem StoOk.put {ρ ρ' : Gh} {w w' : World} {σ : List Row} {mv : List Nat} (h : StoOk ρ w σ) (hx : Ext ρ w ρ' w' mv) (t : Nat) (row : Row) (hrow : RowOk ρ' w' (ρ' t) row)
    (hlen : ∀ u k, ρ' u = some k → u < σ.length) (hinj : ∀ u u' k k', ρ' u = some k → ρ' u' = some k' → k.b = k'.b → u = u') (hblk : ∀ u k, ρ' u = some k → k.b < w'.heap.size ∧ ¬ ρ.X k.b)
    (ho : ∀ u k, u ≠ t → u ∉ mv → ρ u = some k → w'.heap[k.b]? = w.heap[k.b]?) : StoOk ρ' w' ((giveUp mv σ).set t row) where
  len := fun u k hu => by rw [List.length_set, giveUp_len]; exact hlen u k hu
  inj := hinj
  blk := fun u k hu => (hblk u k hu).1
  apart := fun u k hu => by rw [hx.X]; exact (hblk u k hu).2
  old := fun b hb => by rw [hx.X] at hb; exact Nat.lt_of_lt_of_le (h.old b hb) hx.size
  row := fun u r hr => by
    rw [List.getElem?_set] at hr
    split at hr
    · rename_i e
      subst e
      split at hr
      · cases hr; exact hrow
      · cases hr
    · rename_i e
      rw [giveUp_get] at hr
      obtain ⟨r0, h0, rfl⟩ := Option.map_eq_some_iff.1 hr
      split
      · exact trivial
      · rename_i hm
        rw [hx.tok u hm]
        exact (h.row u r0 h0).ext hx (fun k hk => ho u k (fun e' => e e'.symm) hm hk)
/-- Tokens that stand for nothing any more. -/
def del (ρ : Gh) (ts : List Nat) : Gh := ⟨fun t => if t ∈ ts then none else ρ t, ρ.X⟩
theorem del_at (ρ : Gh) (ts : List Nat) (t : Nat) : (del ρ ts) t = if t ∈ ts then none else ρ t := rfl
theorem del_some {ρ : Gh} {ts : List Nat} {t : Nat} {k : Blk} (h : (del ρ ts) t = some k) : ρ t = some k ∧ t ∉ ts := by
  rw [del_at] at h
  split at h
  · cases h
  · rename_i hm; exact ⟨h, hm⟩
theorem Ext.giveUp (ρ : Gh) (w : World) (ts : List Nat) : Ext ρ w (del ρ ts) w ts :=
  ⟨rfl, rfl, rfl, Nat.le_refl _, fun _ _ _ => rfl, fun b ⟨t, k, h1, h2⟩ => .inl ⟨t, k, (del_some h1).1, h2⟩, rfl, fun t ht => by rw [del_at, if_neg ht]⟩
/-- Rows are given up, and nothing else. -/
theorem StoOk.giveUp {ρ : Gh} {w : World} {σ : List Row} (ts : List Nat) (h : StoOk ρ w σ) : StoOk (del ρ ts) w (giveUp ts σ) where
  len := fun u k hu => by rw [giveUp_len]; exact h.len u k (del_some hu).1
  inj := fun u u' k k' hu hu' hk => h.inj u u' k k' (del_some hu).1 (del_some hu').1 hk
  blk := fun u k hu => h.blk u k (del_some hu).1
  apart := fun u k hu => h.apart u k (del_some hu).1
  old := h.old
  row := fun u r hr => by
    rw [giveUp_get] at hr
    obtain ⟨r0, h0, rfl⟩ := Option.map_eq_some_iff.1 hr
    split
    · exact trivial
    · rename_i hm
      rw [del_at, if_neg hm]
      exact (h.row u r0 h0).ext (Ext.giveUp ρ w ts) (fun _ _ => rfl)

/-! ### Cells -/
theorem cell1_one {ρ : Gh} {w : World} {x : AV} {y : Value} (h : RV ρ w x y) (h1 : cell1 x = true) : y.oneCell' = true := by
  cases h <;> first | rfl | (simp [cell1] at h1; done) | skip
  cases y <;> first | rfl | simp [cell1] at h1
theorem frozen_cell1 : ∀ x : AV, frozen x = true → cell1 x = true := by
  intro x h
  cases x <;> first | rfl | (simp [frozen] at h; done) | skip
  rename_i x
  cases x <;> first | rfl | simp [frozen] at h
theorem cells_one {y : Value} (h : y.oneCell' = true) : y.cells = #[y] := by
  cases y <;> first | rfl | simp [Value.oneCell'] at h
/-- The cells of a value that can be put into memory. -/
theorem RV.cells {ρ : Gh} {w : World} {x : AV} {y : Value} (h : RV ρ w x y) (hb : boxable x = true) : RVs ρ w (cellsA x) y.cells.toList ∧ (y.cells.all fun u => u.oneCell') = true := by
  have one : ∀ {x : AV}, cellsA x = [x] → boxable x = true → RV ρ w x y → RVs ρ w (cellsA x) y.cells.toList ∧ (y.cells.all fun u => u.oneCell') = true := fun {x} hc hb h => by
    have h1 : cell1 x = true := by simpa [boxable, hc] using hb
    have h2 := cell1_one h h1
    rw [hc, cells_one h2]
    exact ⟨RVs.cons' h RVs.nil', by simp [h2]⟩
  cases x with
  | agg l =>
    cases h with
    | agg l vs hl hsub =>
      refine ⟨⟨by simpa [cellsA, Value.cells] using hl, fun j x y h1 h2 => hsub j x y h1 (by simpa [Value.cells] using h2)⟩, ?_⟩
      simp only [Value.cells, Array.all_eq_true]
      intro i hi
      have hi' : i < l.length := by rw [hl]; exact hi
      have hx := hsub i l[i] vs[i] (List.getElem?_eq_getElem hi') (Array.getElem?_eq_getElem hi)
      exact cell1_one hx (by have := List.all_eq_true.1 hb l[i] (List.getElem_mem hi'); exact this)
  | _ => exact one rfl hb h
end Go.Proofs.Ytnmnaomfohlmcaa.E
