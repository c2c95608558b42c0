/- The memory of a call's own, and what stands behind it. -/
import Derived.Test.YtabdcfcnngnnoaaDoorE2
import Derived.Test.YtabdcfcnngnnoaaDoorT0
import Derived.Laws.StructEq
set_option linter.unusedVariables false
set_option linter.unusedSimpArgs false
namespace Go.Proofs.YtabdcfcnngnnoaaDoor.E
open Go

mutual
theorem killV_nil : ∀ x : AV, killV [] x = x
  | .v _ | .nil | .sl _ | .cl _ | .dead => by simp [killV]
  | .os .. | .pt .. | .mp _ => by simp [killV]
  | .rp cells => by simp [killV, killL_nil cells]
  | .clo f caps => by simp [killV, killL_nil caps]
  | .agg cells => by simp [killV, killL_nil cells]
  | .tup xs => by simp [killV, killL_nil xs]
theorem killL_nil : ∀ l : List AV, killL [] l = l
  | [] => rfl
  | x :: r => by simp [killL, killV_nil x, killL_nil r]
end
theorem killR_nil : ∀ r : Row, killR [] r = r
  | .arr _ _ | .map _ _ | .dead => rfl
  | .box cells => by simp [killR, killL_nil]

theorem foldl_dead (ts : List Nat) : ∀ (σ : List Row) (u : Nat), (ts.foldl (fun s t => s.set t Row.dead) σ)[u]? = (σ[u]?).map fun r => if u ∈ ts then Row.dead else r := by
  induction ts with
  | nil => intro σ u; simp
  | cons t ts ih =>
    intro σ u
    rw [List.foldl_cons, ih, List.getElem?_set]
    by_cases h : t = u
    · subst h
      by_cases hl : t < σ.length
      · simp [hl]
      · simp [hl]
    · have h' : ¬ u = t := fun e => h e.symm
      simp [h, h']
theorem giveUp_get (ts : List Nat) (σ : List Row) (u : Nat) : (giveUp ts σ)[u]? = (σ[u]?).map fun r => if u ∈ ts then Row.dead else killR ts r := by
  unfold giveUp
  split
  · rename_i h
    obtain rfl : ts = [] := by simpa using h
    simp [killR_nil]
  · rw [List.getElem?_map, foldl_dead, Option.map_map]
    congr 1
    funext r
    simp only [Function.comp]
    split <;> rfl
theorem foldl_dead_len (ts : List Nat) : ∀ σ : List Row, (ts.foldl (fun s t => s.set t Row.dead) σ).length = σ.length := by
  induction ts with
  | nil => intro σ; rfl
  | cons t ts ih => intro σ; rw [List.foldl_cons, ih, List.length_set]
theorem giveUp_len (ts : List Nat) (σ : List Row) : (giveUp ts σ).length = σ.length := by
  unfold giveUp
  split
  · rfl
  · rw [List.length_map, foldl_dead_len]

/-- A map's entries. -/
def entsOf (kd : Bool × List IntKind) (L : List (List Int × Value)) : Array MapEntry := (L.zipIdx.map fun x => (⟨encKey kd x.1.1, x.1.2, x.2⟩ : MapEntry)).toArray
/-- What stands behind a row. -/
def RowOk (ρ : Gh) (w : World) (g : Option Blk) : Row → Prop
  | .dead => True
  | .arr sz xs => match g with
    | none => xs = []
    | some k => k.sz = sz ∧ k.n = xs.length ∧ k.n ≤ k.cap ∧ ∃ cs e, w.heap[k.b]? = some (.cells cs e (0, 0)) ∧ (k.o + k.cap) * k.sz ≤ cs.size ∧
      ∀ (i : Nat) (row : List AV), xs[i]? = some row → row.length = k.sz ∧ ∀ (j : Nat) (x : AV), row[j]? = some x → frozen x = true ∧ ∃ y, cs[(k.o + i) * k.sz + j]? = some y ∧ RV ρ w x y
  | .box cells => ∃ k, g = some k ∧ k.o = 0 ∧ ∃ cs e, w.heap[k.b]? = some (.cells cs e (0, 0)) ∧ ∀ (j : Nat) (x : AV), cells[j]? = some x → ∃ y, cs[j]? = some y ∧ RV ρ w x y
  | .map kd L => ∃ k, g = some k ∧ (L.map (·.1)).Nodup ∧ (∀ p ∈ L, goodKey kd.2 p.1 = true) ∧ w.heap[k.b]? = some (.map (entsOf kd L) L.length)
theorem RowOk.ext {ρ ρ' : Gh} {w w' : World} {mv : List Nat} {g : Option Blk} {r : Row} (hx : Ext ρ w ρ' w' mv) (hb : ∀ k, g = some k → w'.heap[k.b]? = w.heap[k.b]?) (h : RowOk ρ w g r) : RowOk ρ' w' g (killR mv r) := by
  cases r with
  | dead => exact trivial
  | arr sz xs =>
    cases g with
    | none => exact h
    | some k =>
      obtain ⟨h0, h1, h2, cs, e, h3, h4, h5⟩ := h
      refine ⟨h0, h1, h2, cs, e, (hb k rfl).trans h3, h4, fun i row hi => ⟨(h5 i row hi).1, fun j x hj => ?_⟩⟩
      obtain ⟨h6, y, h7, h8⟩ := (h5 i row hi).2 j x hj
      have := h8.ext hx
      rw [killV_frozen mv x h6] at this
      exact ⟨h6, y, h7, this⟩
  | box cells =>
    obtain ⟨k, hg, h1, cs, e, h3, h5⟩ := h
    refine ⟨k, hg, h1, cs, e, (hb k hg).trans h3, fun j x hj => ?_⟩
    rw [killL_get] at hj
    obtain ⟨x0, hj0, rfl⟩ := Option.map_eq_some_iff.1 hj
    obtain ⟨y, h7, h8⟩ := h5 j x0 hj0
    exact ⟨y, h7, h8.ext hx⟩
  | map kd L =>
    obtain ⟨k, hg, h1, h2, h3⟩ := h
    exact ⟨k, hg, h1, h2, (hb k hg).trans h3⟩
/-- The tables stand where they stood, and are nobody's own. -/
def TabOk (ρ : Gh) (w : World) : Prop := ∀ p ∈ TABS, ¬ own ρ p.1.block ∧ w.cell? p.1 = some p.2
theorem TabOk.ext {ρ ρ' : Gh} {w w' : World} {mv : List Nat} (h : TabOk ρ w) (hx : Ext ρ w ρ' w' mv) : TabOk ρ' w' := fun p hp => by
  obtain ⟨h1, h2⟩ := h p hp
  have hlt := lt_of_cell h2
  exact ⟨fun q => (hx.new _ q).elim h1 (fun q => by omega), by rw [cell_keep (hx.keep _ hlt h1)]; exact h2⟩
theorem TabOk.sub {ρ ρ' : Gh} {w : World} (h : TabOk ρ w) (hs : ∀ b, own ρ' b → own ρ b) : TabOk ρ' w := fun p hp => ⟨fun q => (h p hp).1 (hs _ q), (h p hp).2⟩
structure StoOk (ρ : Gh) (w : World) (σ : List Row) : Prop where
  len : ∀ t k, ρ t = some k → t < σ.length
  inj : ∀ t t' k k', ρ t = some k → ρ t' = some k' → k.b = k'.b → t = t'
  blk : ∀ t k, ρ t = some k → k.b < w.heap.size
  apart : ∀ t k, ρ t = some k → ¬ ρ.X k.b
  old : ∀ b, ρ.X b → b < w.heap.size
  row : ∀ t r, σ[t]? = some r → RowOk ρ w (ρ t) r
  tab : TabOk ρ w
/-- Memory of which nothing of one's own has changed. -/
theorem StoOk.ext {ρ : Gh} {w w' : World} {σ : List Row} (h : StoOk ρ w σ) (hx : Ext ρ w ρ w' []) (hb : ∀ t k, ρ t = some k → w'.heap[k.b]? = w.heap[k.b]?) : StoOk ρ w' σ where
  len := h.len
  inj := h.inj
  blk := fun t k ht => Nat.lt_of_lt_of_le (h.blk t k ht) hx.size
  apart := h.apart
  old := fun b hb => Nat.lt_of_lt_of_le (h.old b hb) hx.size
  row := fun t r hr => by
    have := (h.row t r hr).ext hx (fun k hk => hb t k hk)
    rwa [killR_nil] at this
  tab := h.tab.ext hx
/-- One row is laid anew; others may be given up. -/
theorem StoOk.put {ρ ρ' : Gh} {w w' : World} {σ : List Row} {mv : List Nat} (h : StoOk ρ w σ) (hx : Ext ρ w ρ' w' mv) (t : Nat) (row : Row) (hrow : RowOk ρ' w' (ρ' t) row)
    (hlen : ∀ u k, ρ' u = some k → u < σ.length) (hinj : ∀ u u' k k', ρ' u = some k → ρ' u' = some k' → k.b = k'.b → u = u') (hblk : ∀ u k, ρ' u = some k → k.b < w'.heap.size ∧ ¬ ρ.X k.b)
    (ho : ∀ u k, u ≠ t → u ∉ mv → ρ u = some k → w'.heap[k.b]? = w.heap[k.b]?) : StoOk ρ' w' ((giveUp mv σ).set t row) where
  len := fun u k hu => by rw [List.length_set, giveUp_len]; exact hlen u k hu
  inj := hinj
  blk := fun u k hu => (hblk u k hu).1
  apart := fun u k hu => by rw [hx.X]; exact (hblk u k hu).2
  old := fun b hb => by rw [hx.X] at hb; exact Nat.lt_of_lt_of_le (h.old b hb) hx.size
  row := fun u r hr => by
    rw [List.getElem?_set] at hr
    split at hr
    · rename_i e
      subst e
      split at hr
      · cases hr; exact hrow
      · cases hr
    · rename_i e
      rw [giveUp_get] at hr
      obtain ⟨r0, h0, rfl⟩ := Option.map_eq_some_iff.1 hr
      split
      · exact trivial
      · rename_i hm
        rw [hx.tok u hm]
        exact (h.row u r0 h0).ext hx (fun k hk => ho u k (fun e' => e e'.symm) hm hk)
  tab := h.tab.ext hx
/-- Tokens that stand for nothing any more. -/
def del (ρ : Gh) (ts : List Nat) : Gh := ⟨fun t => if t ∈ ts then none else ρ t, ρ.X⟩
theorem del_at (ρ : Gh) (ts : List Nat) (t : Nat) : (del ρ ts) t = if t ∈ ts then none else ρ t := rfl
theorem del_some {ρ : Gh} {ts : List Nat} {t : Nat} {k : Blk} (h : (del ρ ts) t = some k) : ρ t = some k ∧ t ∉ ts := by
  rw [del_at] at h
  split at h
  · cases h
  · rename_i hm; exact ⟨h, hm⟩
theorem Ext.giveUp (ρ : Gh) (w : World) (ts : List Nat) : Ext ρ w (del ρ ts) w ts :=
  ⟨rfl, rfl, rfl, Nat.le_refl _, fun _ _ _ => rfl, fun b ⟨t, k, h1, h2⟩ => .inl ⟨t, k, (del_some h1).1, h2⟩, rfl, fun t ht => by rw [del_at, if_neg ht]⟩
/-- Rows are given up, and nothing else. -/
theorem StoOk.giveUp {ρ : Gh} {w : World} {σ : List Row} (ts : List Nat) (h : StoOk ρ w σ) : StoOk (del ρ ts) w (giveUp ts σ) where
  len := fun u k hu => by rw [giveUp_len]; exact h.len u k (del_some hu).1
  inj := fun u u' k k' hu hu' hk => h.inj u u' k k' (del_some hu).1 (del_some hu').1 hk
  blk := fun u k hu => h.blk u k (del_some hu).1
  apart := fun u k hu => h.apart u k (del_some hu).1
  old := h.old
  tab := h.tab.sub fun b hb => by
    obtain ⟨t, k, h1, h2⟩ := hb
    exact ⟨t, k, (del_some h1).1, h2⟩
  row := fun u r hr => by
    rw [giveUp_get] at hr
    obtain ⟨r0, h0, rfl⟩ := Option.map_eq_some_iff.1 hr
    split
    · exact trivial
    · rename_i hm
      rw [del_at, if_neg hm]
      exact (h.row u r0 h0).ext (Ext.giveUp ρ w ts) (fun _ _ => rfl)

/-! ### Cells -/
theorem cell1_one {ρ : Gh} {w : World} {x : AV} {y : Value} (h : RV ρ w x y) (h1 : cell1 x = true) : y.oneCell' = true := by
  cases h <;> first | rfl | (simp [cell1] at h1; done) | skip
  cases y <;> first | rfl | simp [cell1] at h1
theorem frozen_cell1 : ∀ x : AV, frozen x = true → cell1 x = true := by
  intro x h
  cases x <;> first | rfl | (simp [frozen] at h; done) | skip
  rename_i x
  cases x <;> first | rfl | simp [frozen] at h
theorem cells_one {y : Value} (h : y.oneCell' = true) : y.cells = #[y] := by
  cases y <;> first | rfl | simp [Value.oneCell'] at h
/-- The cells of a value that can be put into memory. -/
theorem RV.cells {ρ : Gh} {w : World} {x : AV} {y : Value} (h : RV ρ w x y) (hb : boxable x = true) : RVs ρ w (cellsA x) y.cells.toList ∧ (y.cells.all fun u => u.oneCell') = true := by
  have one : ∀ {x : AV}, cellsA x = [x] → boxable x = true → RV ρ w x y → RVs ρ w (cellsA x) y.cells.toList ∧ (y.cells.all fun u => u.oneCell') = true := fun {x} hc hb h => by
    have h1 : cell1 x = true := by simpa [boxable, hc] using hb
    have h2 := cell1_one h h1
    rw [hc, cells_one h2]
    exact ⟨RVs.cons' h RVs.nil', by simp [h2]⟩
  cases x with
  | agg l =>
    cases h with
    | agg l vs hl hsub =>
      refine ⟨⟨by simpa [cellsA, Value.cells] using hl, fun j x y h1 h2 => hsub j x y h1 (by simpa [Value.cells] using h2)⟩, ?_⟩
      simp only [Value.cells, Array.all_eq_true]
      intro i hi
      have hi' : i < l.length := by rw [hl]; exact hi
      have hx := hsub i l[i] vs[i] (List.getElem?_eq_getElem hi') (Array.getElem?_eq_getElem hi)
      exact cell1_one hx (by have := List.all_eq_true.1 hb l[i] (List.getElem_mem hi'); exact this)
  | _ => exact one rfl hb h
end Go.Proofs.YtabdcfcnngnnoaaDoor.E
set_option linter.unusedVariables false
set_option linter.unusedSimpArgs false
namespace Go.Proofs.YtabdcfcnngnnoaaDoor.E
open Go

section lists
variable {ρ : Gh} {w : World}
theorem RVs.append {l m : List AV} {u v : List Value} (h : RVs ρ w l u) (g : RVs ρ w m v) : RVs ρ w (l ++ m) (u ++ v) :=
  ⟨by simp [h.1, g.1], fun j x y h1 h2 => by
    rw [List.getElem?_append] at h1 h2
    by_cases hj : j < l.length
    · rw [if_pos hj] at h1; rw [if_pos (by rw [← h.1]; exact hj)] at h2
      exact h.2 j x y h1 h2
    · rw [if_neg hj] at h1; rw [if_neg (by rw [← h.1]; exact hj), ← h.1] at h2
      exact g.2 _ x y h1 h2⟩
theorem RVs.take {l : List AV} {u : List Value} (n : Nat) (h : RVs ρ w l u) : RVs ρ w (l.take n) (u.take n) :=
  ⟨by simp [h.1], fun j x y h1 h2 => by
    rw [List.getElem?_take] at h1 h2
    split at h1
    · rename_i hj; rw [if_pos hj] at h2; exact h.2 j x y h1 h2
    · cases h1⟩
theorem RVs.drop {l : List AV} {u : List Value} (n : Nat) (h : RVs ρ w l u) : RVs ρ w (l.drop n) (u.drop n) :=
  ⟨by simp [h.1], fun j x y h1 h2 => by
    rw [List.getElem?_drop] at h1 h2
    exact h.2 _ x y h1 h2⟩
theorem RVs.splice {row cs : List AV} {u v : List Value} (j : Nat) (h : RVs ρ w row u) (g : RVs ρ w cs v) : RVs ρ w (splice row j cs) (u.take j ++ v ++ u.drop (j + v.length)) := by
  unfold E.splice
  rw [g.1]
  exact ((h.take j).append g).append (h.drop _)
theorem RVs.get {l : List AV} {u : List Value} (h : RVs ρ w l u) {j : Nat} {x : AV} (hx : l[j]? = some x) : ∃ y, u[j]? = some y ∧ RV ρ w x y := by
  have hj : j < u.length := by rw [← h.1]; exact (List.getElem?_eq_some_iff.1 hx).1
  exact ⟨u[j], List.getElem?_eq_getElem hj, h.2 j x _ hx (List.getElem?_eq_getElem hj)⟩
theorem leaf_ok (x : Value) : RV ρ w (leaf x) x := by
  unfold leaf
  split
  · exact .nil _
  · exact .v _
theorem leafs_ok : ∀ l : List Value, RVs ρ w (l.map leaf) l
  | [] => RVs.nil'
  | x :: r => RVs.cons' (leaf_ok x) (leafs_ok r)
theorem constA_ok (x : Value) : RV ρ w (constA x) x := by
  unfold constA
  split
  · rename_i cs
    exact .agg _ cs (by simp) (fun j x y h1 h2 => by
      have := (leafs_ok (ρ := ρ) (w := w) cs.toList).2 j x y h1 (by simpa using h2)
      exact this)
  · exact .dead _
  · exact leaf_ok _
end lists
theorem foldl_cells : ∀ (l : List Value) (k off : Nat) (cells : Array Value), off + k + l.length ≤ cells.size →
    ((l.zipIdx k).foldl (fun (cs : Array Value) (x : Value × Nat) => cs.setIfInBounds (off + x.2) x.1) cells).toList = cells.toList.take (off + k) ++ l ++ cells.toList.drop (off + k + l.length)
  | [], k, off, cells, _ => by simp
  | c :: l, k, off, cells, h => by
    simp only [List.length_cons] at h
    rw [List.zipIdx_cons, List.foldl_cons, foldl_cells l (k + 1) off _ (by simp; omega)]
    have e := list_seg_step cells.toList (off + k) c l (by simp; omega)
    simp only [Array.toList_setIfInBounds, List.length_cons]
    simpa [Nat.add_assoc] using e
theorem fill_cells (cells vs : Array Value) (off : Nat) (h : off + vs.size ≤ cells.size) :
    (vs.zipIdx.foldl (fun (cs : Array Value) (x : Value × Nat) => cs.setIfInBounds (off + x.2) x.1) cells).toList = cells.toList.take off ++ vs.toList ++ cells.toList.drop (off + vs.size) := by
  have e : vs.zipIdx = (vs.toList.zipIdx 0).toArray := by
    apply Array.ext'
    simp
  rw [e]
  have := foldl_cells vs.toList 0 off cells (by simpa using h)
  simpa using this
/-- 'fill' of the model, and the evaluator's. -/
theorem fill_ok {ρ : Gh} {w : World} (place : Nat → Option (Nat × Nat)) : ∀ (ps : List (Nat × Nat × List AV)) (vs : List (Nat × Value)) (cells : List AV) (zs : Array Value) (out : List AV),
    RVs ρ w cells zs.toList → (ps.length = vs.length ∧ ∀ (i : Nat) p v, ps[i]? = some p → vs[i]? = some v → place v.1 = some (p.1, p.2.1) ∧ RVs ρ w p.2.2 v.2.cells.toList) → fillA cells ps = some out →
    ∃ zs', Instr.fill place zs vs = some zs' ∧ RVs ρ w out zs'.toList
  | [], vs, cells, zs, out, hz, hp, h => by
    cases vs with
    | nil => simp [fillA] at h; subst h; exact ⟨zs, rfl, hz⟩
    | cons v r => have := hp.1; simp at this
  | (off, sz, cs) :: r, vs, cells, zs, out, hz, hp, h => by
    cases vs with
    | nil => have := hp.1; simp at this
    | cons v vs =>
      obtain ⟨i, v⟩ := v
      simp only [fillA] at h
      split at h
      · rename_i hc
        obtain ⟨h1, h2⟩ := hp.2 0 _ _ rfl rfl
        simp only at h1 h2
        have hsz : v.cells.size = sz := by have := h2.1; simp at this; omega
        have hlen : zs.size = cells.length := by have := hz.1; simp at this; omega
        have := fill_ok place r vs (splice cells off cs) (v.cells.zipIdx.foldl (fun (cs : Array Value) (x : Value × Nat) => cs.setIfInBounds (off + x.2) x.1) zs) out (by
          rw [fill_cells zs v.cells off (by omega)]
          have := hz.splice off h2
          simpa using this) ⟨by have := hp.1; simpa using this, fun i p v h3 h4 => hp.2 (i + 1) p v (by simpa using h3) (by simpa using h4)⟩ h
        obtain ⟨zs', h3, h4⟩ := this
        refine ⟨zs', ?_, h4⟩
        unfold Instr.fill
        simp only [h1]
        rw [if_neg (by simp [hsz]; omega)]
        exact h3
      · cases h

section
variable {P : Program} {o : Oper} {a : Act} {w : World} {ρ : Gh} {σ : List Row}
/-- One operation comes to what R says. -/
def OpRuns (P : Program) (o : Oper) (a : Act) (w : World) (R : Value → World → Prop) : Prop :=
  ∀ (K : Act → World → Prop) (Q : Exit → Act → World → Prop), (∀ v w', R v w' → K (a.put o.dst v) w') → o.wp P a w K Q
theorem OpRuns.value {R : Value → World → Prop} {v : Value} {w' : World} (h : (execOp a.eval o).run P w = .ok (.value v) w') (hR : R v w') : OpRuns P o a w R :=
  fun K Q hK => by unfold Oper.wp; rw [h]; exact hK v w' hR
theorem OpRuns.skip {R : Value → World → Prop} {w' : World} (h : (execOp a.eval o).run P w = .ok .skip w') (hR : R undef w') : OpRuns P o a w R :=
  fun K Q hK => by unfold Oper.wp; rw [h]; exact hK undef w' hR
theorem OpRuns.mono {R R' : Value → World → Prop} (h : OpRuns P o a w R) (hR : ∀ v w', R v w' → R' v w') : OpRuns P o a w R' := fun K Q hK => h K Q (fun v w' hv => hK v w' (hR v w' hv))
/-- What an operation leaves behind. -/
def Post (ρ : Gh) (w : World) (out : Out) : Value → World → Prop := fun v w' => ∃ ρ', RV ρ' w' out.val v ∧ StoOk ρ' w' out.sto ∧ Ext ρ w ρ' w' out.mv
theorem Post.same (hS : StoOk ρ w σ) {x : AV} {v : Value} (h : RV ρ w x v) (b : Bool) : Post ρ w ⟨x, σ, [], b⟩ v w := ⟨ρ, h, hS, Ext.refl _ _ _⟩

theorem zeroA_ok {t : TypeId} {cs : List AV} (h : zeroA P t = some cs) : ∃ i z, P.info? t = some i ∧ i.zero = some z ∧ (∀ w, (zeroValue t).run P w = .ok z w) ∧ cs = z.cells.toList.map leaf := by
  unfold zeroA at h
  cases hi : P.info? t with
  | none => simp [hi] at h
  | some i =>
    cases hz : i.zero with
    | none => simp [hi, hz] at h
    | some z =>
      simp [hi, hz] at h
      exact ⟨i, z, rfl, hz, fun w => by simp [zeroValue, typeInfo, hi, hz], h.symm⟩
theorem elemA_ok {e : TypeId} {q : Nat × List AV} (h : elemA P e = some q) : ∃ i z, P.info? e = some i ∧ i.zero = some z ∧ (∀ w, (zeroValue e).run P w = .ok z w) ∧ (∀ w, (sizeOf e).run P w = .ok i.size w) ∧ q.1 = i.size ∧ q.2 = z.cells.toList.map leaf ∧ z.cells.size = i.size ∧ 0 < i.size ∧ (z.cells.toList.map leaf).all frozen = true ∧ i.bytes ≤ 1048576 ∧ 0 < i.bytes := by
  unfold elemA at h
  replace h := Option.bind_eq_some_iff.1 h
  obtain ⟨i, hi, h⟩ := h
  replace h := Option.bind_eq_some_iff.1 h
  obtain ⟨z, hz, h⟩ := h
  split at h
  · rename_i hc
    cases h
    obtain ⟨i', zv, hi', hzv, hr, rfl⟩ := zeroA_ok hz
    rw [hi] at hi'
    cases hi'
    exact ⟨i, zv, hi, hzv, hr, fun w => by simp [sizeOf, typeInfo, hi], rfl, rfl, by simpa using hc.2.1, hc.1, hc.2.2.1, hc.2.2.2.1, hc.2.2.2.2⟩
  · cases h
theorem esz_ok {t : TypeId} {n : Nat} (h : esz P t = some n) : ∃ i, P.info? t = some i ∧ i.size = n ∧ ∀ w, (sizeOf t).run P w = .ok n w := by
  unfold esz at h
  obtain ⟨i, hi, rfl⟩ := Option.map_eq_some_iff.1 h
  exact ⟨i, hi, rfl, fun w => by simp [sizeOf, typeInfo, hi]⟩
theorem isAgg_run {t : TypeId} {d : TypeDesc} (h : P.underlying t = some d) (w : World) : (isAgg t).run P w = .ok (isAggT P t) w := by
  unfold isAgg isAggT
  simp only [Sem.run_bind, run_underlying h, Result.andThen_ok, h]
  cases d <;> rfl

/-! #### New memory -/
theorem below_alloc_keep (w : World) (x : Obj) (b : Nat) (h : b < w.heap.size) : (w.alloc x).heap[b]? = w.heap[b]? := by
  show (w.heap.push x)[b]? = _
  rw [Array.getElem?_push, if_neg (by omega)]
theorem alloc_new (w : World) (x : Obj) : (w.alloc x).heap[w.heap.size]? = some x := by
  show (w.heap.push x)[w.heap.size]? = _
  rw [Array.getElem?_push, if_pos rfl]
theorem alloc_size (w : World) (x : Obj) : (w.alloc x).heap.size = w.heap.size + 1 := by
  show (w.heap.push x).size = _
  simp
theorem Ext.alloc (ρ : Gh) (w : World) (x : Obj) : Ext ρ w ρ (w.alloc x) [] :=
  ⟨rfl, rfl, rfl, by rw [alloc_size]; omega, fun b hb _ => below_alloc_keep w x b hb, fun b h => .inl h, rfl, fun _ _ => rfl⟩
theorem StoOk.alloc (h : StoOk ρ w σ) (x : Obj) : StoOk ρ (w.alloc x) σ := h.ext (Ext.alloc ρ w x) (fun t k ht => below_alloc_keep w x _ (h.blk t k ht))
theorem StoOk.fresh (h : StoOk ρ w σ) : ¬ owns ρ w.heap.size := fun hh => by
  rcases hh with ⟨t, k, h1, h2⟩ | h1
  · have := h.blk t k h1; omega
  · have := h.old _ h1; omega
/-- A token stands for a new block from now on. -/
def upd (ρ : Gh) (t : Nat) (k : Blk) : Gh := ⟨fun u => if u = t then some k else ρ u, ρ.X⟩
theorem upd_at (ρ : Gh) (t : Nat) (k : Blk) (u : Nat) : (upd ρ t k) u = if u = t then some k else ρ u := rfl
theorem Ext.allocUpd (ρ : Gh) (w : World) (x : Obj) (t : Nat) (k : Blk) (hk : k.b = w.heap.size) : Ext ρ w (upd ρ t k) (w.alloc x) [t] :=
  ⟨rfl, rfl, rfl, by rw [alloc_size]; omega, fun b hb _ => below_alloc_keep w x b hb, fun b h => by
    obtain ⟨u, k', h1, h2⟩ := h
    rw [upd_at] at h1
    split at h1
    · cases h1; exact .inr (by omega)
    · exact .inl ⟨u, k', h1, h2⟩, rfl, fun u hu => by rw [upd_at, if_neg (by simpa using hu)]⟩
theorem StoOk.allocUpd (h : StoOk ρ w σ) (x : Obj) (t : Nat) (k : Blk) (hk : k.b = w.heap.size) (ht : t < σ.length) (row : Row) (hrow : RowOk (upd ρ t k) (w.alloc x) (some k) row) :
    StoOk (upd ρ t k) (w.alloc x) ((E.giveUp [t] σ).set t row) := by
  refine h.put (Ext.allocUpd ρ w x t k hk) t row (by rw [upd_at, if_pos rfl]; exact hrow) (fun u k' hu => ?_) (fun u u' k1 k2 h1 h2 he => ?_) (fun u k' hu => ?_) (fun u k' _ _ hu => below_alloc_keep w x _ (h.blk u k' hu))
  · rw [upd_at] at hu
    split at hu
    · rename_i e; rw [e]; exact ht
    · exact h.len u k' hu
  · rw [upd_at] at h1 h2
    split at h1
    · split at h2
      · rename_i e1 e2; rw [e1, e2]
      · cases h1; have := h.blk u' k2 h2; omega
    · split at h2
      · cases h2; have := h.blk u k1 h1; omega
      · exact h.inj u u' k1 k2 h1 h2 he
  · rw [upd_at] at hu
    split at hu
    · cases hu; rw [hk, alloc_size]; exact ⟨by omega, fun hX => by have := h.old _ hX; omega⟩
    · have := h.blk u k' hu
      rw [alloc_size]; exact ⟨by omega, h.apart u k' hu⟩
mutual
theorem killV_not (ts : List Nat) : ∀ x : AV, (∀ t ∈ toksV x, t ∉ ts) → killV ts x = x
  | .v _, _ | .nil, _ | .sl _, _ | .cl _, _ | .dead, _ => by simp [killV]
  | .os t _ _, h => by have := h t (by simp [toksV]); simp [killV, this]
  | .pt t _ _, h => by have := h t (by simp [toksV]); simp [killV, this]
  | .mp t, h => by have := h t (by simp [toksV]); simp [killV, this]
  | .rp cells, h => by simp [killV, killL_not ts cells (fun t ht => h t (by simpa [toksV] using ht))]
  | .clo f caps, h => by simp [killV, killL_not ts caps (fun t ht => h t (by simpa [toksV] using ht))]
  | .agg cells, h => by simp [killV, killL_not ts cells (fun t ht => h t (by simpa [toksV] using ht))]
  | .tup xs, h => by simp [killV, killL_not ts xs (fun t ht => h t (by simpa [toksV] using ht))]
theorem killL_not (ts : List Nat) : ∀ l : List AV, (∀ t ∈ toksL l, t ∉ ts) → killL ts l = l
  | [], _ => rfl
  | x :: r, h => by rw [killL, killV_not ts x (fun t ht => h t (by simp [toksL, ht])), killL_not ts r (fun t ht => h t (by simp [toksL, ht]))]
end
theorem toksL_mem {l : List AV} {j : Nat} {x : AV} (h : l[j]? = some x) {t : Nat} (ht : t ∈ toksV x) : t ∈ toksL l := by
  induction l generalizing j with
  | nil => simp at h
  | cons y r ih =>
    cases j with
    | zero => simp at h; subst h; simp [toksL, ht]
    | succ j => simp at h; simp [toksL, ih h]
theorem cell_new (w : World) (cs : Array Value) (e : TypeId) (j : Nat) : (w.alloc (.cells cs e)).cell? ((⟨w.heap.size, 0, none⟩ : Addr).add j) = cs[j]? := by
  have : (⟨w.heap.size, 0, none⟩ : Addr).add j = ⟨w.heap.size, j, none⟩ := by unfold Addr.add; split <;> simp_all
  rw [this]
  unfold World.cell?
  simp only [alloc_new]
  rfl
theorem freshBox_ok {base : Nat} {own : List Nat} {cells : List AV} {out : Out} (h : freshBox base own cells σ = some out) (hS : StoOk ρ w σ) (cs : Array Value) (e : TypeId) (hc : RVs ρ w cells cs.toList) :
    Post ρ w out (.pointer (some ⟨w.heap.size, 0, none⟩)) (w.alloc (.cells cs e)) := by
  unfold freshBox at h
  split at h
  · cases h
    have hx := Ext.alloc ρ w (.cells cs e)
    refine ⟨ρ, .rp cells _ (fun j => cs.toList.getD j undef) (fun j x hj => ?_) (fun j x hj => ?_), hS.alloc _, hx⟩
    · obtain ⟨y, hy, _⟩ := hc.get hj
      refine ⟨hS.fresh, ?_⟩
      rw [cell_new]
      simp at hy
      simp [hy]
    · obtain ⟨y, hy, hr⟩ := hc.get hj
      have := hr.ext hx
      rw [killV_nil] at this
      simp [hy]
      exact this
  · rename_i k
    split at h
    · rename_i hk
      cases h
      refine ⟨upd ρ (base + k) ⟨w.heap.size, 0, 0, 1, 1⟩, ?_, hS.allocUpd _ _ _ rfl hk.1 _ ⟨_, rfl, rfl, cs, e, by rw [alloc_new], fun j x hj => ?_⟩, Ext.allocUpd ρ w _ _ _ rfl⟩
      · have := RV.pt (ρ := upd ρ (base + k) ⟨w.heap.size, 0, 0, 1, 1⟩) (w := w.alloc (.cells cs e)) (base + k) 0 0 ⟨w.heap.size, 0, 0, 1, 1⟩ (by rw [upd_at, if_pos rfl])
        simpa using this
      · obtain ⟨y, hy, hr⟩ := hc.get hj
        have := hr.ext (Ext.allocUpd ρ w (.cells cs e) (base + k) ⟨w.heap.size, 0, 0, 1, 1⟩ rfl)
        rw [killV_not [base + k] x (fun t ht hm => by
          have h1 : t = base + k := by simpa using hm
          have h2 := toksL_mem hj ht
          have h3 := hk.2
          rw [h1] at h2
          simp [h2] at h3)] at this
        exact ⟨y, by simpa using hy, this⟩
    · cases h
  · cases h
end
end Go.Proofs.YtabdcfcnngnnoaaDoor.E
set_option linter.unusedVariables false
set_option linter.unusedSimpArgs false
namespace Go.Proofs.YtabdcfcnngnnoaaDoor.E
open Go
section
variable {P : Program} {o : Oper} {a : Act} {w : World} {ρ : Gh} {σ : List Row}

theorem add_add' (b off j : Nat) : (⟨b, off, none⟩ : Addr).add j = ⟨b, off + j, none⟩ := by unfold Addr.add; split <;> simp_all
theorem cell_row {k : Blk} {cs : Array Value} {e : TypeId} (h : w.heap[k.b]? = some (.cells cs e (0, 0))) (j : Nat) : w.cell? ⟨k.b, j, none⟩ = cs[j]? := by
  unfold World.cell?
  simp only [h]
  rfl
theorem cellsAt_ok {x : AV} {y : Value} {cells : List AV} (h : cellsAt σ x = some cells) (hr : RV ρ w x y) (hS : StoOk ρ w σ) :
    ∃ ad, y = .pointer (some ad) ∧ ∀ j c, cells[j]? = some c → ∃ u, w.cell? (ad.add j) = some u ∧ RV ρ w c u := by
  cases hr with
  | rp cs ad U hcell hsub =>
    simp [cellsAt] at h
    subst h
    exact ⟨ad, rfl, fun j c hj => ⟨U j, (hcell j c hj).2, hsub j c hj⟩⟩
  | pt t i j k ht =>
    refine ⟨_, rfl, ?_⟩
    simp only [cellsAt] at h
    split at h
    · rename_i sz xs hσ
      obtain ⟨row, hrow, rfl⟩ := Option.map_eq_some_iff.1 h
      have hk := hS.row t _ hσ
      rw [ht] at hk
      obtain ⟨_, _, _, cs, e, hb, _, hc⟩ := hk
      intro j' c hj
      rw [List.getElem?_drop] at hj
      obtain ⟨_, y, hy, hr⟩ := (hc i row hrow).2 _ c hj
      refine ⟨y, ?_, hr⟩
      rw [add_add', cell_row hb, ← hy]
      congr 1
      omega
    · rename_i cs0 hσ
      split at h
      · rename_i hi
        cases h
        have hk := hS.row t _ hσ
        obtain ⟨k', hg, ho, cs, e, hb, hc⟩ := hk
        rw [ht] at hg
        cases hg
        intro j' c hj
        rw [List.getElem?_drop] at hj
        obtain ⟨y, hy, hr⟩ := hc _ c hj
        refine ⟨y, ?_, hr⟩
        rw [add_add', cell_row hb, ← hy, hi, ho]
        congr 1
        omega
      · cases h
    · cases h
  | _ => simp [cellsAt] at h
theorem loadA_ok {t : TypeId} {cells : List AV} {x : AV} {ad : Addr} (h : loadA P t cells = some x) (hc : ∀ j c, cells[j]? = some c → ∃ u, w.cell? (ad.add j) = some u ∧ RV ρ w c u) :
    ∃ v, (loadVar t ad).run P w = .ok v w ∧ RV ρ w x v := by
  unfold loadA at h
  split at h
  · cases h
  · rename_i d hd
    split at h
    · rename_i hagg
      replace h := Option.bind_eq_some_iff.1 h
      obtain ⟨n, hn, h⟩ := h
      obtain ⟨i, hi, rfl, hrun⟩ := esz_ok hn
      split at h
      · rename_i hle
        cases h
        have hex : ∀ j : Fin i.size, ∃ u, w.cell? (ad.add j.val) = some u ∧ ∀ c, cells[j.val]? = some c → RV ρ w c u := fun j => by
          have hj : j.val < cells.length := Nat.lt_of_lt_of_le j.isLt hle
          obtain ⟨u, h1, h2⟩ := hc j.val _ (List.getElem?_eq_getElem hj)
          exact ⟨u, h1, fun c hc' => by rw [List.getElem?_eq_getElem hj] at hc'; cases hc'; exact h2⟩
        let vs := List.ofFn fun j => Classical.choose (hex j)
        have hvs : ∀ j (hj : j < i.size), vs[j]? = some (Classical.choose (hex ⟨j, hj⟩)) := fun j hj => by
          rw [List.getElem?_ofFn, dif_pos hj]
        have hlen : vs.length = i.size := List.length_ofFn
        have hl := run_loadCells_list (P := P) w ad vs (fun j v hv => by
          have hj : j < i.size := by rw [← hlen]; exact (List.getElem?_eq_some_iff.1 hv).1
          rw [hvs j hj] at hv
          cases hv
          exact (Classical.choose_spec (hex ⟨j, hj⟩)).1)
        rw [hlen] at hl
        refine ⟨.agg vs.toArray, ?_, .agg _ _ (by simp [hlen, hle]) (fun j c y h1 h2 => ?_)⟩
        · simp [loadVar, isAgg_run hd, hagg, hrun, hl]
        · rw [List.getElem?_take] at h1
          split at h1
          · rename_i hj
            have h2' : vs[j]? = some y := by simpa using h2
            rw [hvs j hj] at h2'
            cases h2'
            exact (Classical.choose_spec (hex ⟨j, hj⟩)).2 c h1
          · cases h1
      · cases h
    · rename_i hagg
      have hagg' : isAggT P t = false := by simpa using hagg
      rw [List.head?_eq_getElem?] at h
      obtain ⟨u, h1, h2⟩ := hc 0 x h
      have h0 : ad.add 0 = ad := by simp [Addr.add]
      rw [h0] at h1
      exact ⟨u, by simp [loadVar, isAgg_run hd, hagg', run_load, h1], h2⟩
theorem part_ok {t : TypeId} {cells : List AV} {x : AV} {cs : Array Value} {off : Nat} (h : loadA P t (cells.drop off) = some x) (hc : RVs ρ w cells cs.toList) :
    ∃ v, (part t cs off).run P w = .ok v w ∧ RV ρ w x v := by
  unfold loadA at h
  split at h
  · cases h
  · rename_i d hd
    split at h
    · rename_i hagg
      replace h := Option.bind_eq_some_iff.1 h
      obtain ⟨n, hn, h⟩ := h
      obtain ⟨i, hi, rfl, hrun⟩ := esz_ok hn
      split at h
      · rename_i hle
        cases h
        have hd' := (hc.drop off).take i.size
        refine ⟨.agg (cs.extract off (off + i.size)), by simp [part, isAgg_run hd, hagg, hrun], .agg _ _ ?_ (fun j c y h1 h2 => ?_)⟩
        · have := hd'.1
          have h3 := hc.1
          simp at this h3 hle ⊢
          omega
        · refine hd'.2 j c y h1 ?_
          rw [← h2]
          rw [List.getElem?_take, List.getElem?_drop, Array.getElem?_extract]
          have h3 : i.size ≤ cs.size - off := by have := hc.1; simp at this hle; omega
          by_cases hj : j < i.size
          · rw [if_pos hj, if_pos (by omega)]
            simp
          · rw [if_neg hj, if_neg (by omega)]
      · cases h
    · rename_i hagg
      have hagg' : isAggT P t = false := by simpa using hagg
      rw [List.head?_eq_getElem?, List.getElem?_drop] at h
      obtain ⟨u, h1, h2⟩ := hc.get h
      have h1' : cs[off]? = some u := by simpa using h1
      exact ⟨u, by simp [part, isAgg_run hd, hagg', h1'], h2⟩
theorem fieldAddrA_ok {s : TypeId} {x r : AV} {y : Value} {f : Nat} (h : fieldAddrA P s x f = some r) (hr : RV ρ w x y) : ∃ v, (Instr.fieldAt s y f).run P w = .ok v w ∧ RV ρ w r v := by
  unfold fieldAddrA at h
  split at h
  · rename_i fs hu
    replace h := Option.bind_eq_some_iff.1 h
    obtain ⟨fd, hf, h⟩ := h
    replace h := Option.bind_eq_some_iff.1 h
    obtain ⟨n, hn, h⟩ := h
    obtain ⟨i, hi, rfl, hrun⟩ := esz_ok hn
    split at h
    · cases h
    · rename_i hn0
      have run : ∀ ad : Addr, (Instr.fieldAt s (.pointer (some ad)) f).run P w = .ok (.pointer (some (ad.add fd.offset))) w := fun ad => by
        simp [Instr.fieldAt, run_underlying hu, hf, Instr.sureAddr, fieldPlace, hrun, hn0]
      split at h
      · rename_i cells
        cases h
        cases hr with
        | rp cs ad U hcell hsub =>
          refine ⟨_, run ad, .rp _ _ (fun j => U (fd.offset + j)) (fun j x hj => ?_) (fun j x hj => ?_)⟩
          · rw [List.getElem?_drop] at hj
            rw [Addr.add_add, add_block]
            exact hcell _ x hj
          · rw [List.getElem?_drop] at hj
            exact hsub _ x hj
      · cases h
        cases hr with
        | pt _ _ _ k ht =>
          refine ⟨_, run _, ?_⟩
          rw [add_add', Nat.add_assoc]
          exact .pt _ _ _ k ht
      · cases h
  · cases h
theorem fieldA_ok {t : TypeId} {x r : AV} {y : Value} {f : Nat} (h : fieldA P t x f = some r) (hr : RV ρ w x y) : ∃ v, (Instr.field t y f).run P w = .ok v w ∧ RV ρ w r v := by
  unfold fieldA at h
  split at h
  · rename_i fs cells hu
    replace h := Option.bind_eq_some_iff.1 h
    obtain ⟨fd, hf, h⟩ := h
    cases hr with
    | agg l vs hl hsub =>
      obtain ⟨v, h1, h2⟩ := part_ok (cs := vs) h ⟨by simpa using hl, fun j x y h1 h2 => hsub j x y h1 (by simpa using h2)⟩
      exact ⟨v, by simp [Instr.field, run_underlying hu, hf, asAgg, h1], h2⟩
  · cases h
theorem len_of {x : AV} {y : Value} {n : Nat} (h : lenA x = some n) (hr : RV ρ w x y) : ∃ a c, y = .slice a n c := by
  cases hr with
  | nil a => simp [lenA] at h; subst h; exact ⟨_, _, rfl⟩
  | sl xs a c => simp [lenA] at h; subst h; exact ⟨_, _, rfl⟩
  | os t off len => simp [lenA] at h; subst h; exact ⟨_, _, rfl⟩
  | osn t a => simp [lenA] at h; subst h; exact ⟨_, _, rfl⟩
  | v x =>
    unfold lenA at h
    split at h
    · rename_i he; cases he
    · rename_i he; cases he
    · rename_i he; cases he
    · rename_i he; cases he; cases h; exact ⟨_, _, rfl⟩
    · cases h
  | _ => simp [lenA] at h
theorem indexAddrA_ok {t : TypeId} {x i r : AV} {y z : Value} (h : indexAddrA P σ t x i = some r) (hr : RV ρ w x y) (hi : RV ρ w i z) (hS : StoOk ρ w σ) : ∃ v, (Instr.indexAt t y z).run P w = .ok v w ∧ RV ρ w r v := by
  unfold indexAddrA at h
  split at h
  · rename_i e kd n hu
    cases hi with
    | v =>
      replace h := Option.bind_eq_some_iff.1 h
      obtain ⟨s, hs, h⟩ := h
      obtain ⟨inf, hinf, rfl, hrun⟩ := esz_ok hs
      have run : ∀ (ad : Addr) (len cap : Nat), 0 ≤ n → n < len → (Instr.indexAt t (.slice (some ad) len cap) (.int kd n)).run P w = .ok (.pointer (some (ad.add (n.toNat * inf.size)))) w := fun ad len cap h0 h1 => by
        simp [Instr.indexAt, run_underlying hu, asIntOf, h0, h1, hrun]
      split at h
      · rename_i xs
        split at h
        · rename_i hb
          replace h := Option.bind_eq_some_iff.1 h
          obtain ⟨row, hrow, h⟩ := h
          split at h
          · rename_i hl
            cases h
            cases hr with
            | sl xs ad c sz U hc ha hrow' hcell hsub =>
              have hsz : sz = inf.size := by rw [← hrow' _ _ hrow, hl]
              obtain ⟨ad', had⟩ := Option.isSome_iff_exists.1 (ha (by omega))
              subst had
              refine ⟨_, run ad' xs.length c hb.1 hb.2, .rp row _ (fun j => U n.toNat j) (fun j x hj => ?_) (fun j x hj => ?_)⟩
              · obtain ⟨_, ad2, e2, h2, h3⟩ := hcell _ row j x hrow hj
                cases e2
                rw [Addr.add_add, add_block, ← hsz]
                exact ⟨h2, h3⟩
              · exact hsub _ row j x hrow hj
          · cases h
        · cases h
      · rename_i k off len
        split at h
        · rename_i sz xs hσ
          split at h
          · rename_i hb
            replace h := Option.bind_eq_some_iff.1 h
            obtain ⟨row, hrow, h⟩ := h
            cases h
            cases hr with
            | os _ _ _ bk ad ht hn hcap ha =>
              have hk := hS.row k _ hσ
              rw [ht] at hk
              obtain ⟨h0, h1, h2, cs, e', hb', _, hc⟩ := hk
              have hsz : bk.sz = inf.size := by rw [h0]; exact hb.2.2
              have had := ha (by omega)
              subst had
              refine ⟨_, run _ len _ hb.1 hb.2.1, ?_⟩
              rw [add_add', ← hsz]
              have := RV.pt (ρ := ρ) (w := w) k (off + n.toNat) 0 bk ht
              rw [show (bk.o + (off + n.toNat)) * bk.sz + 0 = (bk.o + off) * bk.sz + n.toNat * bk.sz from by rw [← Nat.add_assoc, Nat.add_mul, Nat.add_zero]] at this
              exact this
            | osn => simp at hb; omega
          · cases h
        · cases h
      · cases h
  · rename_i len e kd n hu
    cases hi with
    | v =>
      replace h := Option.bind_eq_some_iff.1 h
      obtain ⟨s, hs, h⟩ := h
      obtain ⟨inf, hinf, rfl, hrun⟩ := esz_ok hs
      split at h
      · rename_i hb
        have run : ∀ (ad : Addr), (Instr.indexAt t (.pointer (some ad)) (.int kd n)).run P w = .ok (.pointer (some (ad.add (n.toNat * inf.size)))) w := fun ad => by
          simp [Instr.indexAt, run_underlying hu, asIntOf, hb.1, hb.2, hrun, Instr.sureAddr]
        split at h
        · rename_i cells
          cases h
          cases hr with
          | rp cs ad U hcell hsub =>
            refine ⟨_, run ad, .rp _ _ (fun j => U (n.toNat * inf.size + j)) (fun j x hj => ?_) (fun j x hj => ?_)⟩
            · rw [List.getElem?_drop] at hj
              rw [Addr.add_add, add_block]
              exact hcell _ x hj
            · rw [List.getElem?_drop] at hj
              exact hsub _ x hj
        · cases h
          cases hr with
          | pt _ _ _ k ht =>
            refine ⟨_, run _, ?_⟩
            rw [add_add', Nat.add_assoc]
            exact .pt _ _ _ k ht
        · cases h
      · cases h
  · cases h
theorem indexA_ok {t : TypeId} {x i r : AV} {y z : Value} (h : indexA P t x i = some r) (hr : RV ρ w x y) (hi : RV ρ w i z) : ∃ v, (Instr.index t y z).run P w = .ok v w ∧ RV ρ w r v := by
  unfold indexA at h
  split at h
  · rename_i len e cells kd n hu
    cases hi with
    | v =>
      split at h
      · rename_i hb
        replace h := Option.bind_eq_some_iff.1 h
        obtain ⟨s, hs, h⟩ := h
        obtain ⟨inf, hinf, rfl, hrun⟩ := esz_ok hs
        cases hr with
        | agg l vs hl hsub =>
          obtain ⟨v, h1, h2⟩ := part_ok (cs := vs) h ⟨by simpa using hl, fun j x y h1 h2 => hsub j x y h1 (by simpa using h2)⟩
          exact ⟨v, by simp [Instr.index, asIntOf, run_underlying hu, hb.1, hb.2, hrun, h1], h2⟩
      · cases h
  · rename_i s kd n hu
    cases hi with
    | v =>
      cases hr with
      | v =>
        split at h
        · rename_i h0
          obtain ⟨b, hb, rfl⟩ := Option.map_eq_some_iff.1 h
          exact ⟨_, by simp [Instr.index, asIntOf, run_underlying hu, h0, hb], .v _⟩
        · cases h
  · cases h
theorem unA_ok {op : UnOp} {x r : AV} {y : Value} (h : unA op x = some r) (hr : RV ρ w x y) : ∃ v, (Op.unary op y).run P w = .ok v w ∧ RV ρ w r v := by
  cases hr with
  | v =>
    cases op <;> cases y <;> simp only [unA, Option.some.injEq, reduceCtorEq] at h <;> subst h <;> exact ⟨_, rfl, .v _⟩
  | _ => cases op <;> simp [unA] at h
theorem convA_ok {s d : TypeId} {x r : AV} {y : Value} (h : convA P s d x = some r) (hr : RV ρ w x y) : ∃ v, (convert s d y).run P w = .ok v w ∧ RV ρ w r v := by
  unfold convA at h
  split at h
  · rename_i k k' k'' n hs hd
    cases h
    cases hr with
    | v => exact ⟨_, by simp [convert, run_underlying hs, run_underlying hd, Conv.intToInt], .v _⟩
  · cases h
end
end Go.Proofs.YtabdcfcnngnnoaaDoor.E
set_option linter.unusedVariables false
set_option linter.unusedSimpArgs false
namespace Go.Proofs.YtabdcfcnngnnoaaDoor.E
open Go
section
variable {P : Program} {o : Oper} {a : Act} {w : World} {ρ : Gh} {σ : List Row}

theorem eqA_ok : ∀ (n d : Nat) (t : TypeId) (xs ys : List AV) (b : Bool) (X Y : Value), eqA P n t xs ys = some b → n ≤ d → RVs ρ w xs X.cells.toList → RVs ρ w ys Y.cells.toList →
    ((∃ fs, P.underlying t = some (.struct fs)) → (∃ us, X = .agg us) ∧ ∃ us, Y = .agg us) → ((¬ ∃ fs, P.underlying t = some (.struct fs)) → X.cells = #[X] ∧ Y.cells = #[Y]) → (Op.equalIn d t X Y).run P w = .ok b w
  | 0, _, _, _, _, _, _, _, h, _, _, _, _, _ => by simp [eqA] at h
  | n + 1, d, t, xs, ys, b, X, Y, h, hd, hX, hY, hs, h1 => by
    obtain ⟨d, rfl⟩ : ∃ d', d = d' + 1 := ⟨d - 1, by omega⟩
    have one : ∀ {x : Value} {U : Value}, RVs ρ w [AV.v x] U.cells.toList → U.cells = #[U] → U = x := fun {x U} hU hc => by
      rw [hc] at hU
      have := hU.2 0 (.v x) U rfl rfl
      cases this
      rfl
    simp only [eqA] at h
    split at h
    · rename_i k hu
      obtain ⟨e1, e2⟩ := h1 (by rintro ⟨fs, hf⟩; rw [hu] at hf; cases hf)
      split at h
      · rename_i k1 a1 k2 a2
        split at h
        · rename_i hk
          subst hk
          cases h
          rw [one hX e1, one hY e2]
          exact run_equalIn_int w d t k1 k a1 a2 hu
        · cases h
      · cases h
    · rename_i hu
      obtain ⟨e1, e2⟩ := h1 (by rintro ⟨fs, hf⟩; rw [hu] at hf; cases hf)
      split at h
      · rename_i a1 a2
        cases h
        rw [one hX e1, one hY e2]
        exact run_equalIn_bool' w d t a1 a2 hu
      · cases h
    · rename_i fs hu
      split at h
      · cases h
      · rename_i hst
        obtain ⟨⟨us, rfl⟩, vs, rfl⟩ := hs ⟨fs, hu⟩
        have hfo : P.fieldsOf t = fs := by simp [Program.fieldsOf, hu]
        rw [run_equalIn_struct w d t us vs (by rw [hfo]; exact hu) (by simpa using hst), hfo]
        have key : ∀ (l : List Field) (b : Bool), eqFields P (eqA P n) xs ys l = some b → (Op.eqFields d us vs l).run P w = .ok b w := by
          intro l
          induction l with
          | nil => intro b h; simp [eqFields] at h; subst h; rfl
          | cons f r ih =>
            intro b h
            simp only [eqFields] at h
            split at h
            · cases h
            · rename_i hn
              replace h := Option.bind_eq_some_iff.1 h
              obtain ⟨s, hsz, h⟩ := h
              replace h := Option.bind_eq_some_iff.1 h
              obtain ⟨q, hq, h⟩ := h
              obtain ⟨inf, hinf, rfl, hrun⟩ := esz_ok hsz
              have hXd := (hX.drop f.offset).take inf.size
              have hYd := (hY.drop f.offset).take inf.size
              simp only [Value.cells] at hXd hYd
              -- the two parts
              have parts : ∃ A B, (part f.type us f.offset).run P w = .ok A w ∧ (part f.type vs f.offset).run P w = .ok B w ∧ (Op.equalIn d f.type A B).run P w = .ok q w := by
                by_cases hstr : ∃ fs, P.underlying f.type = some (.struct fs)
                · obtain ⟨gs, hg⟩ := hstr
                  have hagg : isAggT P f.type = true := by simp [isAggT, hg]
                  have e1 : (us.extract f.offset (f.offset + inf.size)).toList = (us.toList.drop f.offset).take inf.size := by simp [List.take_drop]
                  have e2 : (vs.extract f.offset (f.offset + inf.size)).toList = (vs.toList.drop f.offset).take inf.size := by simp [List.take_drop]
                  refine ⟨.agg (us.extract f.offset (f.offset + inf.size)), .agg (vs.extract f.offset (f.offset + inf.size)), by simp [part, isAgg_run hg, hagg, hrun], by simp [part, isAgg_run hg, hagg, hrun], ?_⟩
                  exact eqA_ok n d f.type _ _ q _ _ hq (by omega) (by simp only [Value.cells]; rw [e1]; exact hXd) (by simp only [Value.cells]; rw [e2]; exact hYd) (fun _ => ⟨⟨_, rfl⟩, _, rfl⟩) (fun hne => absurd ⟨gs, hg⟩ hne)
                · have hsome : ∃ dsc, P.underlying f.type = some dsc ∧ isAggT P f.type = false ∧ ∃ A B, us[f.offset]? = some A ∧ vs[f.offset]? = some B ∧ RVs ρ w ((xs.drop f.offset).take inf.size) [A] ∧ RVs ρ w ((ys.drop f.offset).take inf.size) [B] ∧ A.cells = #[A] ∧ B.cells = #[B] := by
                    cases n with
                    | zero => simp [eqA] at hq
                    | succ n =>
                      simp only [eqA] at hq
                      have fin : ∀ {c1 c2 : Value}, ((xs.drop f.offset).take inf.size) = [AV.v c1] → ((ys.drop f.offset).take inf.size) = [AV.v c2] → c1.cells = #[c1] → c2.cells = #[c2] →
                          ∃ A B, us[f.offset]? = some A ∧ vs[f.offset]? = some B ∧ RVs ρ w ((xs.drop f.offset).take inf.size) [A] ∧ RVs ρ w ((ys.drop f.offset).take inf.size) [B] ∧ A.cells = #[A] ∧ B.cells = #[B] := by
                        intro c1 c2 ex ey o1 o2
                        have gx : xs[f.offset]? = some (.v c1) := by
                          have : ((xs.drop f.offset).take inf.size)[0]? = some (.v c1) := by rw [ex]; rfl
                          rw [List.getElem?_take, List.getElem?_drop] at this
                          split at this
                          · simpa using this
                          · cases this
                        have gy : ys[f.offset]? = some (.v c2) := by
                          have : ((ys.drop f.offset).take inf.size)[0]? = some (.v c2) := by rw [ey]; rfl
                          rw [List.getElem?_take, List.getElem?_drop] at this
                          split at this
                          · simpa using this
                          · cases this
                        obtain ⟨A, hA, rA⟩ := hX.get gx
                        obtain ⟨B, hB, rB⟩ := hY.get gy
                        rw [ex, ey]
                        cases rA
                        cases rB
                        exact ⟨c1, c2, by simpa [Value.cells] using hA, by simpa [Value.cells] using hB, RVs.cons' (.v _) RVs.nil', RVs.cons' (.v _) RVs.nil', o1, o2⟩
                      split at hq
                      · rename_i hu'
                        split at hq
                        · rename_i ex ey
                          exact ⟨_, hu', by simp [isAggT, hu'], fin ex ey rfl rfl⟩
                        · cases hq
                      · rename_i hu'
                        split at hq
                        · rename_i ex ey
                          exact ⟨_, hu', by simp [isAggT, hu'], fin ex ey rfl rfl⟩
                        · cases hq
                      · rename_i gs hu'
                        exact absurd ⟨gs, hu'⟩ hstr
                      · cases hq
                  obtain ⟨dsc, hdsc, hna, A, B, hA, hB, rA, rB, oA, oB⟩ := hsome
                  refine ⟨A, B, by simp [part, isAgg_run hdsc, hna, hA], by simp [part, isAgg_run hdsc, hna, hB], ?_⟩
                  exact eqA_ok n d f.type _ _ q A B hq (by omega) (by rw [oA]; exact rA) (by rw [oB]; exact rB) (fun hh => absurd hh hstr) (fun _ => ⟨oA, oB⟩)
              obtain ⟨A, B, pA, pB, pq⟩ := parts
              simp only [Op.eqFields, if_pos hn, Sem.run_bind, pA, pB, pq, Result.andThen_ok, Sem.run_ite]
              split at h
              · rename_i hb
                rw [hb]
                simpa using ih b h
              · rename_i hb
                have hb' : q = false := by simpa using hb
                cases h
                rw [hb']
                rfl
        exact key _ b h
    · cases h
theorem run_equalIn_nil (w : World) (d : Nat) (t : TypeId) (a : Option Addr) (l c : Nat) {e : TypeId} (hu : P.underlying t = some (.slice e)) : (Op.equalIn (d + 1) t (.slice a l c) (.slice none 0 0)).run P w = .ok a.isNone w := by
  cases a <;> simp [Op.equalIn, run_underlying hu, Result.andThen]
theorem nilTest_ok {op : BinOp} {t : TypeId} {p q : Operand} {x r : AV} {u : Value} (h : nilTest P op t x = some r) (hx : RV ρ w x u) :
    ∃ z, (do eqGuard op t p q u (.slice none 0 0); binOp op t u (.slice none 0 0) : Sem Value).run P w = .ok z w ∧ RV ρ w r z := by
  unfold nilTest at h
  split at h
  · rename_i e hu
    have yes : ∀ (l c : Nat) {r : AV}, asNil op true = some r → ∃ z, (do eqGuard op t p q (.slice none l c) (.slice none 0 0); binOp op t (.slice none l c) (.slice none 0 0) : Sem Value).run P w = .ok z w ∧ RV ρ w r z := fun l c {r} h => by
      unfold asNil at h
      split at h
      · cases h; exact ⟨_, by simp [eqGuard, binOp, Op.equal, Op.maxDepth, run_equalIn_nil w 9999 t _ _ _ hu], .v _⟩
      · cases h; exact ⟨_, by simp [eqGuard, binOp, Op.equal, Op.maxDepth, run_equalIn_nil w 9999 t _ _ _ hu], .v _⟩
      · cases h
    have no : ∀ (a : Addr) (l c : Nat) {r : AV}, asNil op false = some r → ∃ z, (do eqGuard op t p q (.slice (some a) l c) (.slice none 0 0); binOp op t (.slice (some a) l c) (.slice none 0 0) : Sem Value).run P w = .ok z w ∧ RV ρ w r z := fun a l c {r} h => by
      unfold asNil at h
      split at h
      · cases h; exact ⟨_, by simp [eqGuard, binOp, Op.equal, Op.maxDepth, run_equalIn_nil w 9999 t _ _ _ hu], .v _⟩
      · cases h; exact ⟨_, by simp [eqGuard, binOp, Op.equal, Op.maxDepth, run_equalIn_nil w 9999 t _ _ _ hu], .v _⟩
      · cases h
    split at h
    · split at h
      · rename_i hl
        cases hx with
        | sl xs a c sz U hc ha hrow hcell hsub =>
          have := ha hl
          cases a with
          | none => cases this
          | some a => exact no a _ _ h
      · cases h
    · split at h
      · rename_i hl
        cases hx with
        | os t off len k a ht hn hcap ha =>
          rw [ha (by omega)]
          exact no _ _ _ h
        | osn t a ht => omega
      · cases h
    · cases hx; exact yes _ _ h
    · cases hx; exact no _ _ _ h
    · cases h
  · cases h
theorem binA_ok {op : BinOp} {t : TypeId} {p q : Operand} {x y r : AV} {u v : Value} (h : binA P op t x y = some r) (hx : RV ρ w x u) (hy : RV ρ w y v) :
    ∃ z, (do eqGuard op t p q u v; binOp op t u v : Sem Value).run P w = .ok z w ∧ RV ρ w r z := by
  have ints : ∀ (op : BinOp) {k k' : IntKind} {a b : Int} {r : AV}, op ≠ .shl → op ≠ .shr → (if k ≠ k' then none else
      match op with
      | .add | .sub | .mul | .quo | .rem | .and | .or | .xor | .andNot => (arithI op k a b).map fun n => AV.v (.int k n)
      | _ => (cmpI op a b).map fun r => AV.v (.bool r)) = some r → ∃ z, (do eqGuard op t p q (.int k a) (.int k' b); binOp op t (.int k a) (.int k' b) : Sem Value).run P w = .ok z w ∧ RV ρ w r z := by
    intro op k k' a b r n1 n2 h
    split at h
    · cases h
    · rename_i hk
      have hk' : k = k' := by simpa using hk
      subst hk'
      cases op <;> first
        | exact absurd rfl n1
        | exact absurd rfl n2
        | (simp only [arithI, bitI, Option.map_some, Option.some.injEq] at h; subst h; exact ⟨_, by simp [eqGuard, binOp, Op.intArith, Op.intBits], .v _⟩)
        | (simp only [cmpI, Option.map_some, Option.some.injEq] at h; subst h; exact ⟨_, by simp [eqGuard, binOp, Op.intCmp], .v _⟩)
        | (simp only [arithI, bitI] at h
           split at h
           · simp at h
           · rename_i hb
             simp only [Option.map_some, Option.some.injEq] at h
             subst h
             exact ⟨_, by simp [eqGuard, binOp, Op.intDiv, hb], .v _⟩)
        | (simp [cmpI] at h; done)
  have shs : ∀ (op : BinOp) {k k' : IntKind} {a b : Int} {r : AV}, (op = .shl ∨ op = .shr) → ((shiftI op k a b).map fun n => AV.v (.int k n)) = some r → ∃ z, (do eqGuard op t p q (.int k a) (.int k' b); binOp op t (.int k a) (.int k' b) : Sem Value).run P w = .ok z w ∧ RV ρ w r z := by
    intro op k k' a b r ho h
    obtain ⟨n, hn, rfl⟩ := Option.map_eq_some_iff.1 h
    unfold shiftI shlI shrI at hn
    split at hn
    · cases hn
    · rename_i hb
      rcases ho with rfl | rfl <;> simp only [Option.some.injEq] at hn <;> subst hn <;> exact ⟨_, by simp [eqGuard, binOp, Op.shift, hb], .v _⟩
  have aggs : ∀ {xs ys : List AV} {us vs : Array Value} {b : Bool} {fs : Array Field}, P.underlying t = some (.struct fs) → RVs ρ w xs us.toList → RVs ρ w ys vs.toList → eqA P 100 t xs ys = some b → (Op.equal t (.agg us) (.agg vs)).run P w = .ok b w :=
    fun {xs ys us vs b fs} hu h1 h2 h3 => eqA_ok 100 10000 t xs ys b (.agg us) (.agg vs) h3 (by omega) h1 h2 (fun _ => ⟨⟨_, rfl⟩, _, rfl⟩) (fun hne => absurd ⟨fs, hu⟩ hne)
  unfold binA at h
  split at h
  · cases hx; cases hy; exact shs .shl (.inl rfl) h
  · cases hx; cases hy; exact shs .shr (.inr rfl) h
  · rename_i n1 n2
    cases hx; cases hy
    exact ints op (by rintro rfl; simp_all) (by rintro rfl; simp_all) h
  · cases hx; cases hy
    split at h
    · rename_i hu
      cases h
      exact ⟨_, by simp [eqGuard, binOp, Op.equal, Op.maxDepth, run_equalIn_bool' w 9999 t _ _ hu], .v _⟩
    · cases h
  · cases hx; cases hy
    split at h
    · rename_i hu
      cases h
      exact ⟨_, by simp [eqGuard, binOp, Op.equal, Op.maxDepth, run_equalIn_bool' w 9999 t _ _ hu], .v _⟩
    · cases h
  · cases hx; cases hy
    cases h
    exact ⟨_, by simp [eqGuard, binOp, Op.stringOp], .v _⟩
  · cases hx; cases hy
    cases h
    exact ⟨_, by simp [eqGuard, binOp, Op.stringOp], .v _⟩
  · split at h
    · rename_i fs hu
      split at h
      · cases h
      · rename_i hgd
        obtain ⟨b, hb, rfl⟩ := Option.map_eq_some_iff.1 h
        cases hx with
        | agg l us hl hsub =>
          cases hy with
          | agg m vs hl2 hsub2 =>
            have := aggs hu ⟨by simpa using hl, fun j x y h1 h2 => hsub j x y h1 (by simpa using h2)⟩ ⟨by simpa using hl2, fun j x y h1 h2 => hsub2 j x y h1 (by simpa using h2)⟩ hb
            exact ⟨_, by simp [eqGuard, binOp, hgd, this], .v _⟩
    · cases h
  · split at h
    · rename_i fs hu
      split at h
      · cases h
      · rename_i hgd
        obtain ⟨b, hb, rfl⟩ := Option.map_eq_some_iff.1 h
        cases hx with
        | agg l us hl hsub =>
          cases hy with
          | agg m vs hl2 hsub2 =>
            have := aggs hu ⟨by simpa using hl, fun j x y h1 h2 => hsub j x y h1 (by simpa using h2)⟩ ⟨by simpa using hl2, fun j x y h1 h2 => hsub2 j x y h1 (by simpa using h2)⟩ hb
            exact ⟨_, by simp [eqGuard, binOp, hgd, this], .v _⟩
    · cases h
  · cases h

/-! #### Slices of slices -/
theorem boundA_ok {lim d n : Nat} {x : Option AV} {y : Option Value} {code : BoundsCode} (h : boundA lim x d = some n) (hn : x = none ↔ y = none) (hr : ∀ u v, x = some u → y = some v → RV ρ w u v) :
    (y = none ∧ n = d) ∨ (∃ v, y = some v ∧ n ≤ lim ∧ ∀ code, (Instr.sliceBound v lim code).run P w = .ok n w) := by
  cases x with
  | none => simp [boundA] at h; exact .inl ⟨hn.1 rfl, h.symm⟩
  | some u =>
    cases y with
    | none => have := hn.2 rfl; cases this
    | some v =>
      have hv := hr u v rfl rfl
      unfold boundA at h
      split at h
      · rename_i heq; cases heq
      · rename_i k m heq
        cases heq
        cases hv
        split at h
        · rename_i hb
          cases h
          exact .inr ⟨_, rfl, by omega, fun code => by simp [Instr.sliceBound, asIntOf, hb.1, hb.2]⟩
        · cases h
      · cases h
theorem sliceA_ok {t : TypeId} {x r : AV} {y : Value} {lo hi : Option AV} {l h : Option Value} (hh : sliceA P σ t x lo hi = some r) (hr : RV ρ w x y) (hS : StoOk ρ w σ)
    (nl : lo = none ↔ l = none) (rl : ∀ u v, lo = some u → l = some v → RV ρ w u v) (nh : hi = none ↔ h = none) (rh : ∀ u v, hi = some u → h = some v → RV ρ w u v) : ∃ v, (Instr.sliceAt t y l h none).run P w = .ok v w ∧ RV ρ w r v := by
  have bounds : ∀ {b : Bool} {len cap hv lv : Nat}, boundA cap hi len = some hv → boundA hv lo 0 = some lv → (Instr.sliceBounds b len cap l h none).run P w = .ok (lv, hv, cap) w ∧ lv ≤ hv ∧ (h = none → hv = len) ∧ (h ≠ none → hv ≤ cap) := by
    intro b len cap hv lv h1 h2
    have c1 := boundA_ok (P := P) (code := .index) h1 nh rh
    have c2 := boundA_ok (P := P) (code := .index) h2 nl rl
    rcases c1 with ⟨rfl, rfl⟩ | ⟨v1, rfl, hle, hrun⟩ <;> rcases c2 with ⟨rfl, rfl⟩ | ⟨v2, rfl, hle2, hrun2⟩
    · exact ⟨by simp [Instr.sliceBounds], Nat.zero_le _, fun _ => rfl, fun hne => absurd rfl hne⟩
    · exact ⟨by simp [Instr.sliceBounds, hrun2], hle2, fun _ => rfl, fun hne => absurd rfl hne⟩
    · exact ⟨by simp [Instr.sliceBounds, hrun], Nat.zero_le _, (fun hne => by cases hne), fun _ => hle⟩
    · exact ⟨by simp [Instr.sliceBounds, hrun, hrun2], hle2, (fun hne => by cases hne), fun _ => hle⟩
  unfold sliceA at hh
  split at hh
  · rename_i e hu
    replace hh := Option.bind_eq_some_iff.1 hh
    obtain ⟨s, hs, hh⟩ := hh
    replace hh := Option.bind_eq_some_iff.1 hh
    obtain ⟨hv, h1, hh⟩ := hh
    replace hh := Option.bind_eq_some_iff.1 hh
    obtain ⟨lv, h2, hh⟩ := hh
    cases hh
    obtain ⟨inf, hinf, rfl, hrun⟩ := esz_ok hs
    cases hr with
    | nil a =>
      obtain ⟨hb, hle, hn1, hn2⟩ := bounds (b := true) h1 h2
      have e0 : hv = 0 := by
        by_cases hc : h = none
        · exact hn1 hc
        · have := hn2 hc; omega
      have e1 : lv = 0 := by omega
      subst e0; subst e1
      exact ⟨.slice a 0 0, by simp [Instr.sliceAt, Instr.slice, run_underlying hu, hb, hrun], .nil _⟩
  · rename_i e xs hu
    replace hh := Option.bind_eq_some_iff.1 hh
    obtain ⟨s, hs, hh⟩ := hh
    split at hh
    case isFalse => cases hh
    rename_i hrows
    replace hh := Option.bind_eq_some_iff.1 hh
    obtain ⟨hv, h1, hh⟩ := hh
    replace hh := Option.bind_eq_some_iff.1 hh
    obtain ⟨lv, h2, hh⟩ := hh
    cases hh
    obtain ⟨inf, hinf, hsi, hrun⟩ := esz_ok hs
    cases hr with
    | sl xs a c sz U hc ha hrow hcell hsub =>
      have hle1 : hv ≤ xs.length := by
        have c1 := boundA_ok (P := P) (code := .index) h1 nh rh
        rcases c1 with ⟨_, rfl⟩ | ⟨_, _, hle, _⟩
        · exact Nat.le_refl _
        · exact hle
      have h1' : boundA c hi xs.length = some hv := by
        unfold boundA at h1 ⊢
        split at h1
        · exact h1
        · split at h1
          · rename_i hb
            rw [if_pos ⟨hb.1, by omega⟩]; exact h1
          · cases h1
        · cases h1
      obtain ⟨hb, hle, hn1, hn2⟩ := bounds (b := true) h1' h2
      refine ⟨.slice (if c = lv then a else a.map (·.add (lv * s))) (hv - lv) (c - lv), by simp [Instr.sliceAt, Instr.slice, run_underlying hu, hb, hrun], ?_⟩
      have hl : ((xs.take hv).drop lv).length = hv - lv := by simp; omega
      rw [← hl]
      refine .sl _ _ _ sz (fun i j => U (lv + i) j) (by rw [hl]; omega) (fun hp => ?_) (fun i row hi' => ?_) (fun i row j x hi' hj => ?_) (fun i row j x hi' hj => ?_)
      · rw [hl] at hp
        have := ha (by omega)
        split
        · exact this
        · simpa using this
      · rw [List.getElem?_drop, List.getElem?_take] at hi'
        split at hi'
        · exact hrow _ row hi'
        · cases hi'
      · rw [List.getElem?_drop, List.getElem?_take] at hi'
        split at hi'
        · rename_i hlt
          obtain ⟨hf, ad, rfl, hno, hcl⟩ := hcell _ row j x hi' hj
          refine ⟨hf, ad.add (lv * s), ?_, by rw [add_block]; exact hno, ?_⟩
          · rw [if_neg (by omega)]; rfl
          · have hsz' : sz = s := by
              cases hxs : xs with
              | nil => rw [hxs] at hi'; simp at hi'
              | cons r0 rs =>
                have h3 := List.all_eq_true.1 hrows r0 (by rw [hxs]; simp)
                have h4 := hrow 0 r0 (by rw [hxs]; rfl)
                rw [← h4]
                simpa using h3
            rw [Addr.add_add, ← hsz', ← Nat.add_assoc, ← Nat.add_mul]
            exact hcl
        · cases hi'
      · rw [List.getElem?_drop, List.getElem?_take] at hi'
        split at hi'
        · exact hsub _ row j x hi' hj
        · cases hi'
  · rename_i e k off len hu
    split at hh
    · rename_i sz xs hσ
      replace hh := Option.bind_eq_some_iff.1 hh
      obtain ⟨s, hs, hh⟩ := hh
      split at hh
      case isFalse => cases hh
      rename_i hrows
      obtain ⟨inf, hinf, hsi, hrun⟩ := esz_ok hs
      replace hh := Option.bind_eq_some_iff.1 hh
      obtain ⟨hv, h1, hh⟩ := hh
      replace hh := Option.bind_eq_some_iff.1 hh
      obtain ⟨lv, h2, hh⟩ := hh
      cases hh
      cases hr with
      | os _ _ _ bk a ht hn hcap ha =>
        have hk := hS.row k _ hσ
        rw [ht] at hk
        obtain ⟨hksz, hkn, _, _, _, _, _, hkr⟩ := hk
        have hle1 : hv ≤ xs.length - off := by
          have c1 := boundA_ok (P := P) (code := .index) h1 nh rh
          rcases c1 with ⟨_, rfl⟩ | ⟨_, _, hle, _⟩
          · omega
          · exact hle
        have h1' : boundA (bk.cap - off) hi len = some hv := by
          unfold boundA at h1 ⊢
          split at h1
          · exact h1
          · split at h1
            · rename_i hb
              rw [if_pos ⟨hb.1, by omega⟩]; exact h1
            · cases h1
          · cases h1
        obtain ⟨hb, hle, hn1, hn2⟩ := bounds (b := true) h1' h2
        have hsz : lv * s = lv * bk.sz := by rw [hksz, hrows]
        refine ⟨.slice (if bk.cap - off = lv then a else a.map (·.add (lv * s))) (hv - lv) (bk.cap - off - lv), by simp [Instr.sliceAt, Instr.slice, run_underlying hu, hb, hrun], ?_⟩
        rw [show bk.cap - off - lv = bk.cap - (off + lv) from by omega]
        refine .os k (off + lv) (hv - lv) bk _ ht (by omega) hcap (fun hlt => ?_)
        rw [if_neg (by omega), ha (by omega)]
        simp only [Option.map_some]
        rw [add_add', hsz, ← Nat.add_mul, Nat.add_assoc]
      | osn _ a ht =>
        have hk := hS.row k _ hσ
        rw [ht] at hk
        have hk' : xs = [] := hk
        subst hk'
        simp only [List.length_nil, Nat.zero_sub] at h1
        obtain ⟨hb, hle, hn1, hn2⟩ := bounds (b := true) h1 h2
        have e0 : hv = 0 := by
          by_cases hc : h = none
          · exact hn1 hc
          · have := hn2 hc; omega
        have e1 : lv = 0 := by omega
        subst e0; subst e1
        exact ⟨.slice a 0 0, by simp [Instr.sliceAt, Instr.slice, run_underlying hu, hb, hrun], .osn k _ ht⟩
    · cases hh
  · rename_i s hu
    replace hh := Option.bind_eq_some_iff.1 hh
    obtain ⟨hv, h1, hh⟩ := hh
    replace hh := Option.bind_eq_some_iff.1 hh
    obtain ⟨lv, h2, hh⟩ := hh
    cases hh
    cases hr
    obtain ⟨hb, _⟩ := bounds (b := false) h1 h2
    exact ⟨_, by simp [Instr.sliceAt, Instr.slice, run_underlying hu, hb], .v _⟩
  · cases hh
end
end Go.Proofs.YtabdcfcnngnnoaaDoor.E
set_option linter.unusedVariables false
set_option linter.unusedSimpArgs false
namespace Go.Proofs.YtabdcfcnngnnoaaDoor.E
open Go
section
variable {P : Program} {o : Oper} {a : Act} {w : World} {ρ : Gh} {σ : List Row}

/-- A block of one's own is laid anew. -/
theorem setRow_ok (hS : StoOk ρ w σ) {t : Nat} {k : Blk} (ht : ρ t = some k) {cur : Array Value} {e : TypeId} (hb : w.heap[k.b]? = some (.cells cur e (0, 0))) (cs' : Array Value) (row : Row)
    (hrow : (∀ x y, RV ρ w x y → RV ρ (w.setRow k.b cs') x y) → RowOk ρ (w.setRow k.b cs') (some k) row) :
    StoOk ρ (w.setRow k.b cs') (σ.set t row) ∧ Ext ρ w ρ (w.setRow k.b cs') [] ∧ (∀ x y, RV ρ w x y → RV ρ (w.setRow k.b cs') x y) := by
  have hx : Ext ρ w ρ (w.setRow k.b cs') [] := ⟨rfl, rfl, rfl, by rw [setRow_size]; exact Nat.le_refl _, fun b _ hno => setRow_other w k.b b cs' (fun e => hno ⟨t, k, ht, e.symm⟩), fun b h => .inl h, rfl, fun _ _ => rfl⟩
  have hv : ∀ x y, RV ρ w x y → RV ρ (w.setRow k.b cs') x y := fun x y h => by have := h.ext hx; rwa [killV_nil] at this
  refine ⟨?_, hx, hv⟩
  have := hS.put hx t row (by rw [ht]; exact hrow hv) hS.len hS.inj (fun u k' hu => by rw [setRow_size]; exact ⟨hS.blk u k' hu, hS.apart u k' hu⟩) (fun u k' hne _ hu => setRow_other w k.b k'.b cs' (fun e => hne (hS.inj u t k' k hu ht e)))
  simpa [giveUp] using this

theorem freezeV_ok (hS : StoOk ρ w σ) {x x' : AV} {y : Value} {ts TS : List Nat} (h : freezeV σ x = some (x', ts)) (hr : RV ρ w x y) (hsub : ∀ t ∈ ts, t ∈ TS) : RV (del ρ TS) w x' y ∧ frozen x' = true := by
  have hfin : ∀ {x : AV}, frozen x = true → RV ρ w x y → RV (del ρ TS) w x y := fun {x} hf hr => by
    have := hr.ext (Ext.giveUp ρ w TS)
    rwa [killV_frozen TS x hf] at this
  cases hr with
  | os t off len k a ht hn hcap ha =>
    simp only [freezeV] at h
    split at h
    · rename_i sz xs hσ
      cases h
      have hk := hS.row t _ hσ
      rw [ht] at hk
      obtain ⟨h0, h1, h2, cs, e, hb, hsz, hc⟩ := hk
      refine ⟨?_, rfl⟩
      have hl : ((xs.drop off).take len).length = len := by simp; omega
      have := RV.sl (ρ := del ρ TS) (w := w) ((xs.drop off).take len) a (k.cap - off) k.sz (fun i j => cs.getD ((k.o + off + i) * k.sz + j) undef) (by rw [hl]; omega) (fun hp => by
          rw [hl] at hp; rw [ha (by omega)]; rfl) (fun i row hi => ?_) (fun i row j x hi hj => ?_) (fun i row j x hi hj => ?_)
      · rwa [hl] at this
      · rw [List.getElem?_take] at hi
        split at hi
        · rw [List.getElem?_drop] at hi; exact (hc _ row hi).1
        · cases hi
      · rw [List.getElem?_take] at hi
        split at hi
        · rename_i hlt
          rw [List.getElem?_drop] at hi
          obtain ⟨hf, u, hu, hru⟩ := (hc _ row hi).2 j x hj
          refine ⟨hf, _, ha (by omega), ?_, ?_⟩
          · rintro (⟨t', k', h3, h4⟩ | h3)
            · obtain ⟨h3, hm⟩ := del_some h3
              have := hS.inj t' t k' k h3 ht h4
              subst this
              exact hm (hsub t' (by simp))
            · exact hS.apart t k ht h3
          · rw [add_add', cell_row hb]
            have e1 : (k.o + off) * k.sz + (i * k.sz + j) = (k.o + off + i) * k.sz + j := by rw [Nat.add_mul (k.o + off) i, Nat.add_assoc]
            have e2 : (k.o + (off + i)) * k.sz + j = (k.o + off + i) * k.sz + j := by rw [Nat.add_assoc]
            rw [e1]
            rw [e2] at hu
            simp [hu]
        · cases hi
      · rw [List.getElem?_take] at hi
        split at hi
        · rename_i hlt
          rw [List.getElem?_drop] at hi
          obtain ⟨hf, u, hu, hru⟩ := (hc _ row hi).2 j x hj
          have e2 : (k.o + (off + i)) * k.sz + j = (k.o + off + i) * k.sz + j := by rw [Nat.add_assoc]
          rw [e2] at hu
          simp only [Array.getD_eq_getD_getElem?, hu, Option.getD_some]
          have := hru.ext (Ext.giveUp ρ w TS)
          rwa [killV_frozen TS x hf] at this
        · cases hi
    · cases h
  | osn t a ht =>
    simp only [freezeV] at h
    split at h
    · rename_i sz xs hσ
      cases h
      have hk := hS.row t _ hσ
      rw [ht] at hk
      have : xs = [] := hk
      subst this
      refine ⟨?_, rfl⟩
      exact .sl [] a 0 0 (fun _ _ => undef) (by simp) (fun h => by simp at h) (fun i row h => by simp at h) (fun i row j x h => by simp at h) (fun i row j x h => by simp at h)
    · cases h
  | nil a =>
    simp only [freezeV] at h
    cases h
    exact ⟨.sl [] a 0 0 (fun _ _ => undef) (by simp) (fun h => by simp at h) (fun i row h => by simp at h) (fun i row j x h => by simp at h) (fun i row j x h => by simp at h), rfl⟩
  | v =>
    simp only [freezeV] at h
    split at h
    · rename_i hf
      cases h
      exact ⟨.v _, hf⟩
    · cases h
  | sl xs a c sz U hc ha hrow hcell hsub' =>
    simp only [freezeV] at h
    cases h
    exact ⟨hfin rfl (.sl xs a c sz U hc ha hrow hcell hsub'), rfl⟩
  | _ => simp [freezeV] at h

theorem freezeL_ok (hS : StoOk ρ w σ) {TS : List Nat} : ∀ {l l' : List AV} {vs : List Value} {ts : List Nat}, freezeL σ l = some (l', ts) → RVs ρ w l vs → (∀ t ∈ ts, t ∈ TS) → RVs (del ρ TS) w l' vs ∧ ∀ x ∈ l', frozen x = true
  | [], l', vs, ts, h, hr, hsub => by
    cases h
    have : vs = [] := List.eq_nil_of_length_eq_zero (by rw [← hr.1]; rfl)
    subst this
    exact ⟨RVs.nil', fun x hx => by cases hx⟩
  | x :: r, l', vs, ts, h, hr, hsub => by
    simp only [freezeL] at h
    replace h := Option.bind_eq_some_iff.1 h
    obtain ⟨⟨x', t1⟩, h1, h⟩ := h
    replace h := Option.bind_eq_some_iff.1 h
    obtain ⟨⟨r', t2⟩, h2, h⟩ := h
    cases h
    obtain ⟨y, vr, rfl, hy, hvr⟩ := hr.head
    obtain ⟨a1, a2⟩ := freezeV_ok hS h1 hy (TS := TS) (fun t ht => hsub t (by simp [ht]))
    obtain ⟨b1, b2⟩ := freezeL_ok hS (TS := TS) h2 hvr (fun t ht => hsub t (by simp [ht]))
    exact ⟨RVs.cons' a1 b1, fun z hz => by
      rcases List.mem_cons.1 hz with rfl | hz
      · exact a2
      · exact b2 z hz⟩

/-- Elements of s cells each, side by side. -/
def Flat (ρ : Gh) (w : World) (s : Nat) (xs : List (List AV)) (news : List Value) : Prop :=
  news.length = xs.length * s ∧ ∀ (i : Nat) (row : List AV), xs[i]? = some row → RVs ρ w row ((news.drop (i * s)).take s)
theorem Flat.nil' {s : Nat} : Flat ρ w s [] [] := ⟨by simp, fun i row h => by simp at h⟩
theorem Flat.append {s : Nat} {xs ys : List (List AV)} {u v : List Value} (h : Flat ρ w s xs u) (g : Flat ρ w s ys v) : Flat ρ w s (xs ++ ys) (u ++ v) := by
  refine ⟨by simp [h.1, g.1, Nat.add_mul], fun i row hi => ?_⟩
  rw [List.getElem?_append] at hi
  split at hi
  · rename_i hlt
    have h1 : i * s + s ≤ u.length := by
      rw [h.1, ← Nat.succ_mul]
      exact Nat.mul_le_mul_right s hlt
    rw [List.drop_append_of_le_length (by omega), List.take_append_of_le_length (by rw [List.length_drop]; omega)]
    exact h.2 i row hi
  · rename_i hlt
    have := g.2 _ row hi
    rw [List.drop_append, List.drop_eq_nil_of_le (by rw [h.1]; exact Nat.mul_le_mul_right s (by omega)), List.nil_append]
    rwa [h.1, ← Nat.sub_mul]
theorem Flat.one {s : Nat} {row : List AV} {u : List Value} (h : RVs ρ w row u) (hs : row.length = s) : Flat ρ w s [row] u := by
  have hu : u.length = s := by rw [← h.1, hs]
  refine ⟨by simp [hu], fun i r hi => ?_⟩
  cases i with
  | zero =>
    simp at hi
    subst hi
    rw [Nat.zero_mul, List.drop_zero, List.take_of_length_le (by omega)]
    exact h
  | succ i => simp at hi
theorem Flat.take {s : Nat} {xs : List (List AV)} {u : List Value} (n : Nat) (h : Flat ρ w s xs u) : Flat ρ w s (xs.take n) (u.take (n * s)) := by
  refine ⟨by rw [List.length_take, List.length_take, h.1]; rcases Nat.le_total n xs.length with hle | hle
             · rw [Nat.min_eq_left hle, Nat.min_eq_left (Nat.mul_le_mul_right s hle)]
             · rw [Nat.min_eq_right hle, Nat.min_eq_right (Nat.mul_le_mul_right s hle)], fun i row hi => ?_⟩
  rw [List.getElem?_take] at hi
  split at hi
  · rename_i hlt
    have := h.2 i row hi
    have h1 : i * s + s ≤ n * s := by rw [← Nat.succ_mul]; exact Nat.mul_le_mul_right s hlt
    rw [List.drop_take, List.take_take, Nat.min_eq_left (by omega)]
    exact this
  · cases hi
theorem Flat.drop {s : Nat} {xs : List (List AV)} {u : List Value} (n : Nat) (h : Flat ρ w s xs u) : Flat ρ w s (xs.drop n) (u.drop (n * s)) := by
  refine ⟨by rw [List.length_drop, List.length_drop, h.1, Nat.sub_mul], fun i row hi => ?_⟩
  rw [List.getElem?_drop] at hi
  have := h.2 _ row hi
  rw [List.drop_drop, ← Nat.add_mul]
  exact this
theorem Flat.replicate {s : Nat} {row : List AV} {u : List Value} (h : RVs ρ w row u) (hs : row.length = s) : ∀ n, Flat ρ w s (List.replicate n row) (List.replicate n u).flatten
  | 0 => by simpa using Flat.nil'
  | n + 1 => by
    rw [List.replicate_succ, List.replicate_succ, List.flatten_cons]
    exact (Flat.one h hs).append (Flat.replicate h hs n)
theorem Flat.set {s : Nat} {xs : List (List AV)} {row : List AV} {u v : List Value} {i : Nat} (h : Flat ρ w s xs u) (hr : RVs ρ w row v) (hs : row.length = s) (hi : i < xs.length) : Flat ρ w s (xs.set i row) (u.take (i * s) ++ v ++ u.drop ((i + 1) * s)) := by
  rw [List.set_eq_take_append_cons_drop, if_pos hi]
  have := ((h.take i).append (Flat.one hr hs)).append (h.drop (i + 1))
  simpa using this
theorem Flat.mono {ρ' : Gh} {w' : World} {s : Nat} {xs : List (List AV)} {u : List Value} (h : Flat ρ w s xs u) (hv : ∀ (i : Nat) (row : List AV) (j : Nat) (x : AV) (y : Value), xs[i]? = some row → row[j]? = some x → RV ρ w x y → RV ρ' w' x y) : Flat ρ' w' s xs u :=
  ⟨h.1, fun i row hi => ⟨(h.2 i row hi).1, fun j x y h1 h2 => hv i row j x y hi h1 ((h.2 i row hi).2 j x y h1 h2)⟩⟩
theorem Flat.len {s : Nat} {xs : List (List AV)} {u : List Value} (h : Flat ρ w s xs u) {i : Nat} {row : List AV} (hi : xs[i]? = some row) : row.length = s := by
  have h1 := (h.2 i row hi).1
  have hlt : i < xs.length := (List.getElem?_eq_some_iff.1 hi).1
  have h2 : i * s + s ≤ u.length := by rw [h.1, ← Nat.succ_mul]; exact Nat.mul_le_mul_right s hlt
  rw [h1, List.length_take, List.length_drop]
  omega
def froz (xs : List (List AV)) : Prop := ∀ (i : Nat) (row : List AV) (j : Nat) (x : AV), xs[i]? = some row → row[j]? = some x → frozen x = true
/-- A row's content is the list. -/
theorem rowOk_of_flat {k : Blk} {sz : Nat} {xs : List (List AV)} {u : List Value} {cs : Array Value} {e : TypeId} (hz : k.sz = sz) (hn : k.n = xs.length) (hc : k.n ≤ k.cap) (hb : w.heap[k.b]? = some (.cells cs e (0, 0))) (hsz : (k.o + k.cap) * k.sz ≤ cs.size)
    (hF : Flat ρ w k.sz xs u) (hu : ∀ j v, u[j]? = some v → cs[k.o * k.sz + j]? = some v) (hf : froz xs) : RowOk ρ w (some k) (.arr sz xs) := by
  refine ⟨hz, hn, hc, cs, e, hb, hsz, fun i row hi => ⟨hF.len hi, fun j x hj => ⟨hf i row j x hi hj, ?_⟩⟩⟩
  obtain ⟨y, hy, hr⟩ := (hF.2 i row hi).get hj
  rw [List.getElem?_take] at hy
  split at hy
  · rw [List.getElem?_drop] at hy
    have := hu _ y hy
    refine ⟨y, ?_, hr⟩
    rw [← this]
    congr 1
    rw [Nat.add_mul]
    omega
  · cases hy
theorem flat_of_row {k : Blk} {sz : Nat} {xs : List (List AV)} (h : RowOk ρ w (some k) (.arr sz xs)) : k.sz = sz ∧ ∃ cs e, w.heap[k.b]? = some (.cells cs e (0, 0)) ∧ (k.o + k.cap) * k.sz ≤ cs.size ∧ k.n = xs.length ∧ k.n ≤ k.cap ∧
    Flat ρ w k.sz xs ((cs.toList.drop (k.o * k.sz)).take (k.n * k.sz)) ∧ froz xs := by
  obtain ⟨hz, hn, hc, cs, e, hb, hsz, hr⟩ := h
  have h1 : k.o * k.sz + k.n * k.sz ≤ cs.size := by
    rw [← Nat.add_mul]
    exact Nat.le_trans (Nat.mul_le_mul_right _ (by omega)) hsz
  refine ⟨hz, cs, e, hb, hsz, hn, hc, ⟨by rw [List.length_take, List.length_drop, ← hn]; simp; omega, fun i row hi => ?_⟩, fun i row j x hi hj => ((hr i row hi).2 j x hj).1⟩
  have hlt : i < xs.length := (List.getElem?_eq_some_iff.1 hi).1
  have h2 : i * k.sz + k.sz ≤ k.n * k.sz := by rw [← Nat.succ_mul, hn]; exact Nat.mul_le_mul_right _ hlt
  obtain ⟨hl, hc'⟩ := hr i row hi
  refine ⟨by rw [hl, List.length_take, List.length_drop, List.length_take, List.length_drop]; simp; omega, fun j x y hj hy => ?_⟩
  obtain ⟨_, y', hy', hrv⟩ := hc' j x hj
  rw [List.getElem?_take] at hy
  split at hy
  · rw [List.getElem?_drop, List.getElem?_take] at hy
    split at hy
    · rw [List.getElem?_drop] at hy
      have e1 : (k.o + i) * k.sz + j = k.o * k.sz + (i * k.sz + j) := by rw [Nat.add_mul, Nat.add_assoc]
      rw [e1] at hy'
      simp only [Array.getElem?_toList] at hy
      rw [hy] at hy'
      cases hy'
      exact hrv
    · cases hy
  · cases hy
/-- What is listed can be read. -/
theorem listOf_ok (hS : StoOk ρ w σ) {s : Nat} {y : AV} {Y : Value} {ys : List (List AV)} (h : listOf σ y = some ys) (hr : RV ρ w y Y) (hs : rowsOk s ys = true) :
    ∃ A c u, Y = .slice A ys.length c ∧ Flat ρ w s ys u ∧ froz ys ∧ (∀ n, n ≤ ys.length → (Builtin.firstCells s n Y).run P w = .ok (u.take (n * s)).toArray w) ∧ ∀ v ∈ u, v.oneCell' = true := by
  have hlen : ∀ (i : Nat) row, ys[i]? = some row → row.length = s := fun i row hi => by
    have := List.all_eq_true.1 hs row (List.mem_of_getElem? hi)
    simpa using this
  have main : ∀ (A : Option Addr) (c : Nat) (u : List Value), Y = .slice A ys.length c → Flat ρ w s ys u → froz ys → (0 < ys.length → ∃ ad, A = some ad ∧ ∀ j v, u[j]? = some v → w.cell? (ad.add j) = some v) →
      ∃ A c u, Y = .slice A ys.length c ∧ Flat ρ w s ys u ∧ froz ys ∧ (∀ n, n ≤ ys.length → (Builtin.firstCells s n Y).run P w = .ok (u.take (n * s)).toArray w) ∧ ∀ v ∈ u, v.oneCell' = true := by
    intro A c u hY hF hf hA
    refine ⟨A, c, u, hY, hF, hf, fun n hn => ?_, fun v hv => ?_⟩
    · subst hY
      rcases Nat.eq_zero_or_pos ys.length with h0 | h0
      · have hn0 : n = 0 := by omega
        subst hn0
        cases A <;> simp [Builtin.firstCells, loadCells, loadCellsFrom]
      · obtain ⟨ad, rfl, had⟩ := hA h0
        have hlu : (u.take (n * s)).length = n * s := by
          rw [List.length_take, hF.1]
          exact Nat.min_eq_left (Nat.mul_le_mul_right s hn)
        have := run_loadCells_list (P := P) w ad (u.take (n * s)) (fun j v hv => by
          rw [List.getElem?_take] at hv
          split at hv
          · exact had j v hv
          · cases hv)
        rw [hlu] at this
        simpa [Builtin.firstCells] using this
    · obtain ⟨j, hj, rfl⟩ := List.getElem_of_mem hv
      have hs0 : 0 < s := by
        rcases Nat.eq_zero_or_pos s with h0 | h0
        · rw [hF.1, h0, Nat.mul_zero] at hj; omega
        · exact h0
      have hq : j / s < ys.length := by
        rw [Nat.div_lt_iff_lt_mul hs0, ← hF.1]; exact hj
      have hrow := hF.2 (j / s) _ (List.getElem?_eq_getElem hq)
      have hrl := hlen (j / s) _ (List.getElem?_eq_getElem hq)
      have hm : j % s < (ys[j / s]).length := by rw [hrl]; exact Nat.mod_lt j hs0
      obtain ⟨y', hy', hrv⟩ := hrow.get (List.getElem?_eq_getElem hm)
      have hfz := hf _ _ _ _ (List.getElem?_eq_getElem hq) (List.getElem?_eq_getElem hm)
      rw [List.getElem?_take] at hy'
      split at hy'
      · rw [List.getElem?_drop, Nat.div_add_mod' , List.getElem?_eq_getElem hj] at hy'
        cases hy'
        exact cell1_one hrv (frozen_cell1 _ hfz)
      · cases hy'
  cases hr with
  | v x =>
    unfold listOf at h
    split at h
    · rename_i he; cases he
    · rename_i he; cases he
    · rename_i he; cases he
    · rename_i he
      cases he
      cases h
      exact main _ _ [] rfl Flat.nil' (fun i row j x hi => by simp at hi) (fun h => by simp at h)
    · cases h
  | nil a =>
    simp only [listOf] at h
    cases h
    exact main a 0 [] rfl Flat.nil' (fun i row j x hi => by simp at hi) (fun h => by simp at h)
  | sl xs a c sz U hc ha hrow hcell hsub =>
    simp only [listOf, Option.some.injEq] at h
    subst h
    have hsz : ∀ (i : Nat) row, xs[i]? = some row → sz = s := fun i row hi => by rw [← hrow i row hi, hlen i row hi]
    clear hs
    refine main a c ((List.range (xs.length * s)).map fun q => U (q / s) (q % s)) rfl ⟨by simp, fun i row hi => ⟨?_, fun j x y hj hy => ?_⟩⟩ (fun i row j x hi hj => (hcell i row j x hi hj).1) (fun hp => ?_)
    · have hlt : i < xs.length := (List.getElem?_eq_some_iff.1 hi).1
      have h2 : i * s + s ≤ xs.length * s := by rw [← Nat.succ_mul]; exact Nat.mul_le_mul_right s hlt
      rw [hlen i row hi, List.length_take, List.length_drop]
      simp
      omega
    · have hjs : j < s := by rw [← hlen i row hi]; exact (List.getElem?_eq_some_iff.1 hj).1
      rw [List.getElem?_take, if_pos hjs, List.getElem?_drop, List.getElem?_map] at hy
      obtain ⟨q, hq, rfl⟩ := Option.map_eq_some_iff.1 hy
      have : q = i * s + j := by
        have h3 := List.getElem?_eq_some_iff.1 hq
        obtain ⟨h4, h5⟩ := h3
        simp at h5
        exact h5.symm
      subst this
      have e1 : (i * s + j) / s = i := by
        rw [Nat.mul_comm, Nat.mul_add_div (by omega), Nat.div_eq_of_lt hjs, Nat.add_zero]
      have e2 : (i * s + j) % s = j := by
        rw [Nat.mul_comm, Nat.mul_add_mod, Nat.mod_eq_of_lt hjs]
      rw [e1, e2]
      exact hsub i row j x hi hj
    · obtain ⟨ad, had⟩ := Option.isSome_iff_exists.1 (ha hp)
      refine ⟨ad, had, fun j v hv => ?_⟩
      rw [List.getElem?_map] at hv
      obtain ⟨q, hq, rfl⟩ := Option.map_eq_some_iff.1 hv
      have hqj : q = j ∧ j < xs.length * s := by
        obtain ⟨h4, h5⟩ := List.getElem?_eq_some_iff.1 hq
        simp at h4 h5
        exact ⟨h5.symm, h4⟩
      obtain ⟨rfl, hjl⟩ := hqj
      have hs0 : 0 < s := by
        rcases Nat.eq_zero_or_pos s with h0 | h0
        · rw [h0, Nat.mul_zero] at hjl; omega
        · exact h0
      have hq' : q / s < xs.length := by rw [Nat.div_lt_iff_lt_mul hs0]; exact hjl
      have hrl := hlen (q / s) _ (List.getElem?_eq_getElem hq')
      have hm : q % s < (xs[q / s]).length := by rw [hrl]; exact Nat.mod_lt q hs0
      obtain ⟨_, ad2, e2, _, hcl⟩ := hcell _ _ _ _ (List.getElem?_eq_getElem hq') (List.getElem?_eq_getElem hm)
      rw [had] at e2
      cases e2
      rw [hsz _ _ (List.getElem?_eq_getElem hq'), Nat.div_add_mod'] at hcl
      exact hcl
  | os t off len k a ht hn hcap ha =>
    simp only [listOf] at h
    split at h
    · rename_i sz xs hσ
      cases h
      have hk := hS.row t _ hσ
      rw [ht] at hk
      obtain ⟨_, cs, e, hb, hsz, hkn, hkc, hF, hf⟩ := flat_of_row hk
      have hl : ((xs.drop off).take len).length = len := by simp; omega
      have hFd := (hF.drop off).take len
      have hrl : ∀ (i : Nat) row, ((xs.drop off).take len)[i]? = some row → s = k.sz := fun i row hi => by rw [← hlen i row hi, hFd.len hi]
      have hff : froz ((xs.drop off).take len) := fun i row j x hi hj => by
        rw [List.getElem?_take] at hi
        split at hi
        · rw [List.getElem?_drop] at hi; exact hf _ row j x hi hj
        · cases hi
      rcases Nat.eq_zero_or_pos len with h0 | h0
      · subst h0
        simp only [List.take_zero, List.length_nil] at *
        exact main a _ [] rfl Flat.nil' hff (fun h => by omega)
      · have hsk : s = k.sz := by
          have : 0 < ((xs.drop off).take len).length := by omega
          exact hrl 0 _ (List.getElem?_eq_getElem this)
        subst hsk
        refine main a _ _ (by rw [hl]) hFd hff (fun _ => ⟨_, ha (by omega), fun j v hv => ?_⟩)
        rw [List.getElem?_take] at hv
        split at hv
        · rw [List.getElem?_drop, List.getElem?_take] at hv
          split at hv
          · rw [List.getElem?_drop] at hv
            rw [add_add', cell_row hb]
            simp only [Array.getElem?_toList] at hv
            rw [← hv]
            congr 1
            rw [Nat.add_mul]
            omega
          · cases hv
        · cases hv
    · cases h
  | osn t a ht =>
    simp only [listOf] at h
    split at h
    · rename_i sz xs hσ
      cases h
      exact main a 0 [] (by simp) (by simpa using Flat.nil') (fun i row j x hi => by simp at hi) (fun h => by simp at h)
    · cases h
  | _ => simp [listOf] at h
end
end Go.Proofs.YtabdcfcnngnnoaaDoor.E
set_option linter.unusedVariables false
set_option linter.unusedSimpArgs false
namespace Go.Proofs.YtabdcfcnngnnoaaDoor.E
open Go
section
variable {P : Program} {o : Oper} {a : Act} {w : World} {ρ : Gh} {σ : List Row}

theorem freshArr_ok {base : Nat} {own : List Nat} {s : Nat} {xs : List (List AV)} {out : Out} (h : freshArr base own s xs σ = some out) (hS : StoOk ρ w σ) (cs : Array Value) (e : TypeId) (cap : Nat)
    (hF : Flat ρ w s xs (cs.toList.take (xs.length * s))) (hf : froz xs) (hc : xs.length ≤ cap) (hsz : cap * s ≤ cs.size) :
    Post ρ w out (.slice (some ⟨w.heap.size, 0, none⟩) xs.length cap) (w.alloc (.cells cs e)) := by
  have hsub : xs.length * s ≤ cap * s := Nat.mul_le_mul_right s hc
  unfold freshArr at h
  split at h
  · cases h
    have hx := Ext.alloc ρ w (.cells cs e)
    have cellAt : ∀ (i : Nat) row (j : Nat) x, xs[i]? = some row → row[j]? = some x → ∃ y, cs[i * s + j]? = some y ∧ RV ρ w x y := fun i row j x hi hj => by
      obtain ⟨y, hy, hr⟩ := (hF.2 i row hi).get hj
      rw [List.getElem?_take] at hy
      split at hy
      · rw [List.getElem?_drop, List.getElem?_take] at hy
        split at hy
        · exact ⟨y, by simpa using hy, hr⟩
        · cases hy
      · cases hy
    refine ⟨ρ, .sl xs _ cap s (fun i j => cs.getD (i * s + j) undef) hc (fun _ => rfl) (fun i row hi => hF.len hi) (fun i row j x hi hj => ?_) (fun i row j x hi hj => ?_), hS.alloc _, hx⟩
    · obtain ⟨y, hy, _⟩ := cellAt i row j x hi hj
      refine ⟨hf i row j x hi hj, _, rfl, hS.fresh, ?_⟩
      rw [cell_new]
      simp [hy]
    · obtain ⟨y, hy, hr⟩ := cellAt i row j x hi hj
      simp only [Array.getD_eq_getD_getElem?, hy, Option.getD_some]
      have := hr.ext hx
      rwa [killV_nil] at this
  · rename_i k
    split at h
    · rename_i hk
      cases h
      have hx := Ext.allocUpd ρ w (.cells cs e) (base + k) ⟨w.heap.size, 0, s, xs.length, cap⟩ rfl
      refine ⟨upd ρ (base + k) ⟨w.heap.size, 0, s, xs.length, cap⟩, ?_, hS.allocUpd _ _ _ rfl hk _ ?_, hx⟩
      · have := RV.os (ρ := upd ρ (base + k) ⟨w.heap.size, 0, s, xs.length, cap⟩) (w := w.alloc (.cells cs e)) (base + k) 0 xs.length ⟨w.heap.size, 0, s, xs.length, cap⟩ (some ⟨w.heap.size, 0, none⟩) (by rw [upd_at, if_pos rfl]) (by simp) hc (fun _ => by simp)
        simpa using this
      · refine rowOk_of_flat (u := cs.toList.take (xs.length * s)) rfl rfl hc (alloc_new w _) (by simpa using hsz) (hF.mono fun i row j x y hi hj hr => ?_) (fun j v hv => ?_) hf
        · have := hr.ext hx
          rwa [killV_frozen _ x (hf i row j x hi hj)] at this
        · rw [List.getElem?_take] at hv
          split at hv
          · simpa using hv
          · cases hv
    · cases h
  · cases h
/-- Nothing is made, where nothing is put in. -/
theorem freshArr_none {base : Nat} {own : List Nat} {s : Nat} {out : Out} (h : freshArr base own s [] σ = some out) (hS : StoOk ρ w σ) (a : Option Addr) : Post ρ w out (.slice a 0 0) w := by
  unfold freshArr at h
  split at h
  · cases h
    exact ⟨ρ, .sl [] a 0 0 (fun _ _ => undef) (Nat.le_refl _) (fun h => by simp at h) (fun i row h => by simp at h) (fun i row j x h => by simp at h) (fun i row j x h => by simp at h), hS, Ext.refl _ _ _⟩
  · rename_i k
    split at h
    · rename_i hk
      cases h
      have hd : (del ρ [base + k]) (base + k) = none := by rw [del_at, if_pos (by simp)]
      refine ⟨del ρ [base + k], .osn _ a hd, ?_, Ext.giveUp ρ w [base + k]⟩
      refine hS.put (Ext.giveUp ρ w [base + k]) (base + k) (.arr s []) ?_ (fun u k' hu => ?_) (fun u u' k1 k2 h1 h2 he => ?_) (fun u k' hu => ?_) (fun _ _ _ _ _ => rfl)
      · rw [hd]
        exact (rfl : ([] : List (List AV)) = [])
      · exact hS.len u k' (del_some hu).1
      · exact hS.inj u u' k1 k2 (del_some h1).1 (del_some h2).1 he
      · exact ⟨hS.blk u k' (del_some hu).1, hS.apart u k' (del_some hu).1⟩
    · cases h
  · cases h
theorem madeCells_get (z : Array Value) (n q : Nat) (hq : q < n) (hz : 0 < z.size) : (madeCells z n)[q]? = z[q % z.size]? := by
  unfold madeCells
  have h1 : q % z.size < z.size := Nat.mod_lt q hz
  simp [hq, h1]
theorem flat_made {z : Array Value} {s n m : Nat} (hz : z.size = s) (hs : 0 < s) (hn : n ≤ m) : Flat ρ w s (List.replicate n (z.toList.map leaf)) ((madeCells z (m * s)).toList.take (n * s)) := by
  have hsub : n * s ≤ m * s := Nat.mul_le_mul_right s hn
  refine ⟨by rw [List.length_take, List.length_replicate, Array.length_toList, size_madeCells, Nat.min_eq_left hsub], fun i row hi => ?_⟩
  rw [List.getElem?_replicate] at hi
  split at hi
  · rename_i hlt
    cases hi
    have h2 : i * s + s ≤ n * s := by rw [← Nat.succ_mul]; exact Nat.mul_le_mul_right s hlt
    have e0 : (madeCells z (m * s)).toList.length = m * s := by rw [Array.length_toList, size_madeCells]
    refine ⟨by rw [List.length_take, List.length_drop, List.length_take, e0, Nat.min_eq_left hsub, List.length_map, Array.length_toList, hz]; omega, fun j x y hj hy => ?_⟩
    rw [List.getElem?_take] at hy
    split at hy
    · rename_i hjs
      rw [List.getElem?_drop, List.getElem?_take] at hy
      split at hy
      · rename_i hlt2
        simp only [Array.getElem?_toList] at hy
        rw [madeCells_get z _ _ (by omega) (by omega), hz] at hy
        have e2 : (i * s + j) % s = j := by rw [Nat.mul_comm, Nat.mul_add_mod, Nat.mod_eq_of_lt hjs]
        rw [e2] at hy
        exact (leafs_ok z.toList).2 j x y hj (by simpa using hy)
      · cases hy
    · cases hy
  · cases hi
theorem froz_replicate {n : Nat} {z : List AV} (hz : z.all frozen = true) : froz (List.replicate n z) := fun i row j x hi hj => by
  rw [List.getElem?_replicate] at hi
  split at hi
  · cases hi
    exact List.all_eq_true.1 hz x (List.mem_of_getElem? hj)
  · cases hi
theorem makeSliceA_ok {base : Nat} {own : List Nat} {t : TypeId} {l c : AV} {L C : Value} {out : Out} (h : makeSliceA P base own t l c σ = some out) (hS : StoOk ρ w σ) (hl : RV ρ w l L) (hc : RV ρ w c C) :
    ∃ v w', (Instr.makeSlice t L C).run P w = .ok v w' ∧ Post ρ w out v w' := by
  unfold makeSliceA at h
  split at h
  · rename_i e k1 n k2 m hu
    cases hl
    cases hc
    replace h := Option.bind_eq_some_iff.1 h
    obtain ⟨⟨s, z⟩, hq, h⟩ := h
    split at h
    · rename_i hcond
      obtain ⟨h0, hnm, hm⟩ := hcond
      obtain ⟨i, zv, hi, hzv, hzrun, _, e1, e2, hzs, hs0, hzf, hbytes, _⟩ := elemA_ok hq
      simp only at e1 e2
      subst e1
      subst e2
      unfold LIM at hm
      have hb1 : (i.bytes : Int) * m ≤ 281474976710656 := by
        have h1 : (i.bytes : Int) * m ≤ 1048576 * m := Int.mul_le_mul_of_nonneg_right (by omega) (by omega)
        omega
      have hrun := run_make (P := P) w t e i zv hu hi hzv k1 k2 n m h0 hnm hb1 (by omega)
      refine ⟨_, _, hrun, ?_⟩
      have hnn : (List.replicate n.toNat (zv.cells.toList.map leaf)).length = n.toNat := by simp
      have := freshArr_ok h hS (madeCells zv.cells (m.toNat * i.size)) e m.toNat (by rw [hnn]; exact flat_made hzs hs0 (by omega)) (froz_replicate hzf) (by rw [hnn]; omega) (by rw [size_madeCells]; exact Nat.le_refl _)
      rwa [hnn] at this
    · cases h
  · cases h
theorem freezeLL_ok (hS : StoOk ρ w σ) {TS : List Nat} {s : Nat} : ∀ {xs xs' : List (List AV)} {u : List Value} {ts : List Nat}, freezeLL σ xs = some (xs', ts) → Flat ρ w s xs u → (∀ t ∈ ts, t ∈ TS) → Flat (del ρ TS) w s xs' u ∧ froz xs'
  | [], xs', u, ts, h, hF, hsub => by
    cases h
    have : u = [] := List.eq_nil_of_length_eq_zero (by rw [hF.1]; simp)
    subst this
    exact ⟨Flat.nil', fun i row j x hi => by simp at hi⟩
  | row :: r, xs', u, ts, h, hF, hsub => by
    simp only [freezeLL] at h
    replace h := Option.bind_eq_some_iff.1 h
    obtain ⟨⟨row', t1⟩, h1, h⟩ := h
    replace h := Option.bind_eq_some_iff.1 h
    obtain ⟨⟨r', t2⟩, h2, h⟩ := h
    cases h
    have hrow := hF.2 0 row rfl
    rw [Nat.zero_mul, List.drop_zero] at hrow
    have hrest : Flat ρ w s r (u.drop s) := by simpa using hF.drop 1
    obtain ⟨a1, a2⟩ := freezeL_ok hS (TS := TS) h1 hrow (fun t ht => hsub t (by simp [ht]))
    obtain ⟨b1, b2⟩ := freezeLL_ok hS (TS := TS) h2 hrest (fun t ht => hsub t (by simp [ht]))
    have hl : row'.length = s := by
      have h3 := hF.len (i := 0) (row := row) rfl
      have h4 := hrow.1
      have h5 := a1.1
      omega
    refine ⟨?_, fun i row j x hi hj => ?_⟩
    · have := (Flat.one a1 hl).append b1
      rw [List.take_append_drop] at this
      exact this
    · cases i with
      | zero => simp at hi; subst hi; exact a2 x (List.mem_of_getElem? hj)
      | succ i => exact b2 i row j x (by simpa using hi) hj
theorem fillRows_ok (s : Nat) : ∀ (ps : List (Nat × AV)) (vs : List (Nat × Value)) (xs : List (List AV)) (zs : Array Value) (out : List (List AV)), Flat ρ w s xs zs.toList →
    (ps.length = vs.length ∧ ∀ (i : Nat) p v, ps[i]? = some p → vs[i]? = some v → p.1 = v.1 ∧ RV ρ w p.2 v.2) → fillRows s xs ps = some out → ∃ zs', Instr.fill (fun i => some (i * s, s)) zs vs = some zs' ∧ Flat ρ w s out zs'.toList ∧ out.length = xs.length
  | [], vs, xs, zs, out, hz, hp, h => by
    cases vs with
    | nil => simp [fillRows] at h; subst h; exact ⟨zs, rfl, hz, rfl⟩
    | cons v r => have := hp.1; simp at this
  | (i, x) :: r, vs, xs, zs, out, hz, hp, h => by
    cases vs with
    | nil => have := hp.1; simp at this
    | cons v vs =>
      obtain ⟨i', v⟩ := v
      simp only [fillRows] at h
      split at h
      · rename_i hc
        obtain ⟨hbx, hi, hcl⟩ := hc
        obtain ⟨h1, h2⟩ := hp.2 0 _ _ rfl rfl
        simp only at h1 h2
        subst h1
        obtain ⟨hcells, _⟩ := h2.cells hbx
        have hvs : v.cells.size = s := by have := hcells.1; simp at this; omega
        have hle : i * s + s ≤ zs.size := by
          have h3 := hz.1
          simp at h3
          rw [h3, ← Nat.succ_mul]
          exact Nat.mul_le_mul_right s hi
        have hset := hz.set (i := i) hcells hcl hi
        obtain ⟨zs', h3, h4, h5⟩ := fillRows_ok s r vs (xs.set i (cellsA x)) (v.cells.zipIdx.foldl (fun (cs : Array Value) (x : Value × Nat) => cs.setIfInBounds (i * s + x.2) x.1) zs) out (by
          rw [fill_cells zs v.cells (i * s) (by omega), hvs, ← Nat.succ_mul]
          exact hset) ⟨by have := hp.1; simpa using this, fun i p v h3 h4 => hp.2 (i + 1) p v (by simpa using h3) (by simpa using h4)⟩ h
        refine ⟨zs', ?_, h4, by rw [h5, List.length_set]⟩
        unfold Instr.fill
        simp only
        rw [if_neg (by simp [hvs]; omega)]
        exact h3
      · cases h
theorem buildSliceA_ok {base : Nat} {own : List Nat} {t : TypeId} {len : Nat} {ps : List (Nat × AV)} {vs : Array (Nat × Value)} {out : Out} (h : buildSliceA P base own t len ps σ = some out) (hS : StoOk ρ w σ)
    (hp : ps.length = vs.toList.length ∧ ∀ (i : Nat) p v, ps[i]? = some p → vs.toList[i]? = some v → p.1 = v.1 ∧ RV ρ w p.2 v.2) : ∃ v w', (Instr.buildSlice t len vs).run P w = .ok v w' ∧ Post ρ w out v w' := by
  unfold buildSliceA at h
  by_cases hcl : own = [CLIP]
  · rw [if_pos hcl] at h
    split at h
    case h_2 => cases h
    split at h
    case isFalse => cases h
    rename_i hl
    subst hl
    split at h
    case h_2 => cases h
    rename_i e hu
    obtain ⟨q, hq, rfl⟩ := Option.map_eq_some_iff.1 h
    obtain ⟨i, zv, hi, hzv, hzrun, hrun, e1, e2, hzs, hs0, hzf, _, _⟩ := elemA_ok hq
    have hvs : vs.toList = [] := List.eq_nil_of_length_eq_zero hp.1.symm
    have hvs2 : vs = #[] := Array.ext' (by simpa using hvs)
    subst hvs2
    have hr : (Instr.buildSlice t 0 #[]).run P w = .ok (.slice (some ⟨w.heap.size, 0, none⟩) 0 0) (w.alloc (.cells #[] e)) := by
      simp [Instr.buildSlice, run_underlying hu, hrun, Instr.fill, newRow, Array.range_zero']
    refine ⟨_, _, hr, ?_⟩
    obtain ⟨ρ', h1, h2, h3⟩ := freshArr_ok (base := base) (own := []) (s := i.size) (xs := []) rfl hS #[] e 0 ⟨by simp, fun i row h => by simp at h⟩ (fun i row j x h => by simp at h) (Nat.le_refl _) (by simp)
    exact ⟨ρ', .cl [] _ (.sl [] _ 0 0 (fun _ _ => undef) (Nat.le_refl _) (fun h => by simp at h) (fun i row h => by simp at h) (fun i row j x h => by simp at h) (fun i row j x h => by simp at h)), h2, h3⟩
  rw [if_neg hcl] at h
  split at h
  · rename_i e hu
    replace h := Option.bind_eq_some_iff.1 h
    obtain ⟨⟨s, z⟩, hq, h⟩ := h
    split at h
    · rename_i hlen
      replace h := Option.bind_eq_some_iff.1 h
      obtain ⟨xs, hxs, h⟩ := h
      replace h := Option.bind_eq_some_iff.1 h
      obtain ⟨⟨fx, fts⟩, hfz, h⟩ := h
      obtain ⟨o1, ho1, rfl⟩ := Option.map_eq_some_iff.1 h
      obtain ⟨i, zv, hi, hzv, hzrun, hrun, e1, e2, hzs, hs0, hzf, _, _⟩ := elemA_ok hq
      simp only at e1 e2
      subst e1
      subst e2
      simp only at hlen hxs ho1
      have hinit : Flat ρ w i.size (List.replicate len (zv.cells.toList.map leaf)) (madeCells zv.cells (len * i.size)).toList := by
        have := flat_made (ρ := ρ) (w := w) (n := len) (m := len) hzs hs0 (Nat.le_refl _)
        rwa [List.take_of_length_le (by simp [size_madeCells])] at this
      obtain ⟨zs', hfill, hF, hol⟩ := fillRows_ok i.size ps vs.toList _ (madeCells zv.cells (len * i.size)) xs hinit hp hxs
      obtain ⟨hF2, hfr⟩ := freezeLL_ok hS (TS := fts) hfz hF (fun t ht => ht)
      have hxl : xs.length = len := by rw [hol]; simp
      have hfl : fx.length = len := by
        have h1 := hF2.1
        have h2 := hF.1
        rw [h2] at h1
        have := Nat.eq_of_mul_eq_mul_right hs0 h1
        omega
      have hsz : zs'.size = len * i.size := by have := hF.1; simp at this; rw [this, hxl]
      have hr : (Instr.buildSlice t len vs).run P w = .ok (.slice (some ⟨w.heap.size, 0, none⟩) len len) (w.alloc (.cells zs' e)) := by
        have hle : ¬ len * i.size > 2 ^ 24 := by omega
        by_cases hl0 : len * i.size = 0
        · have hlen0 : len = 0 := by
            rcases Nat.mul_eq_zero.1 hl0 with h1 | h1
            · exact h1
            · omega
          have hfill' : Instr.fill (fun q => some (q * i.size, i.size)) #[] vs.toList = some zs' := by
            rw [← hfill]
            congr 1
            apply Array.ext'
            have : (madeCells zv.cells (len * i.size)).toList = [] := List.eq_nil_of_length_eq_zero (by simp [size_madeCells, hl0])
            rw [this]
          subst hlen0
          simp [Instr.buildSlice, run_underlying hu, hrun, hfill', newRow, Array.range_zero']
        · have hfill' : Instr.fill (fun q => some (q * i.size, i.size)) (Array.map (fun x => zv.cells[x % zv.cells.size]!) (Array.range (len * i.size))) vs.toList = some zs' := hfill
          simp [Instr.buildSlice, run_underlying hu, hrun, hle, hl0, hzrun, hfill', newRow]
      refine ⟨_, _, hr, ?_⟩
      have hpost := freshArr_ok ho1 (hS.giveUp fts) zs' e len (by rw [hfl, List.take_of_length_le (by simp [hsz])]; exact hF2) hfr (show fx.length ≤ len from by omega) (by rw [hsz]; exact Nat.le_refl _)
      rw [hfl] at hpost
      obtain ⟨ρ', h1, h2, h3⟩ := hpost
      exact ⟨ρ', h1, h2, (Ext.giveUp ρ w fts).trans h3⟩
    · cases h
  · cases h
theorem splice_at (L v : List Value) (b a n j : Nat) (h : a + v.length ≤ n) (hn : b + n ≤ L.length) (hj : j < n) :
    (((L.drop b).take n).take a ++ v ++ ((L.drop b).take n).drop (a + v.length))[j]? = (L.take (b + a) ++ v ++ L.drop (b + a + v.length))[b + j]? := by
  have e1 : (((L.drop b).take n).take a).length = a := by rw [List.length_take, List.length_take, List.length_drop]; omega
  have e2 : (L.take (b + a)).length = b + a := by rw [List.length_take]; omega
  rw [List.append_assoc, List.append_assoc]
  by_cases hja : j < a
  · rw [List.getElem?_append_left (by omega), List.getElem?_append_left (by omega), List.getElem?_take, if_pos hja, List.getElem?_take, if_pos hj, List.getElem?_drop, List.getElem?_take, if_pos (by omega)]
  · have l1 := List.getElem?_append_right (l₁ := ((L.drop b).take n).take a) (l₂ := v ++ ((L.drop b).take n).drop (a + v.length)) (i := j) (by omega)
    have l2 := List.getElem?_append_right (l₁ := L.take (b + a)) (l₂ := v ++ L.drop (b + a + v.length)) (i := b + j) (by omega)
    rw [l1, l2, e1, e2, show b + j - (b + a) = j - a from by omega]
    clear l1 l2
    by_cases hv : j - a < v.length
    · rw [List.getElem?_append_left hv, List.getElem?_append_left hv]
    · rw [List.getElem?_append_right (by omega), List.getElem?_append_right (by omega), List.getElem?_drop, List.getElem?_drop, List.getElem?_take, if_pos (by omega), List.getElem?_drop]
      congr 1
      omega
theorem storeA_ok {t : TypeId} {p x : AV} {Y V : Value} {out : Out} (h : storeA P t σ p x = some out) (hS : StoOk ρ w σ) (hp : RV ρ w p Y) (hx : RV ρ w x V) :
    ∃ w', (Instr.storeAt t Y V).run P w = .ok () w' ∧ Post ρ w out undef w' := by
  unfold storeA at h
  split at h
  · rename_i hbx
    replace h := Option.bind_eq_some_iff.1 h
    obtain ⟨s, hs, h⟩ := h
    obtain ⟨i, hi, rfl, hrun⟩ := esz_ok hs
    split at h
    · rename_i hcl
      obtain ⟨hcells, hone⟩ := hx.cells hbx
      have hvs : V.cells.size = i.size := by have := hcells.1; simp at this; omega
      have hone' : ∀ v ∈ V.cells.toList, v.oneCell' = true := fun v hv => by
        rw [Array.all_eq_true'] at hone
        exact hone v (by simpa using hv)
      have run : ∀ {k : Blk} {off : Nat} {cur : Array Value} {e : TypeId}, w.heap[k.b]? = some (.cells cur e (0, 0)) → off + V.cells.size ≤ cur.size →
          (Instr.storeAt t (.pointer (some ⟨k.b, off, none⟩)) V).run P w = .ok () (w.setRow k.b (cur.toList.take off ++ V.cells.toList ++ cur.toList.drop (off + V.cells.size)).toArray) := fun {k off cur e} hb hle => by
        have h1 := run_storeCells_at P k.b off e V.cells.toList 0 cur w hb (by simpa using hle) hone'
        simp only [Nat.add_zero, Array.length_toList] at h1
        simp [Instr.storeAt, Instr.sureAddr, storeVar, hrun, hvs]
        simpa [hvs] using h1
      split at h
      · rename_i tk ti tj
        cases hp with
        | pt _ _ _ k ht =>
          split at h
          · rename_i row hσ
            split at h
            · rename_i hc
              cases h
              obtain ⟨rfl, hjl, _⟩ := hc
              obtain ⟨k', hg, ho, cs, e, hb, hcs⟩ := hS.row tk _ hσ
              rw [ht] at hg
              cases hg
              have hlen : row.length ≤ cs.size := by
                rcases Nat.eq_zero_or_pos row.length with h0 | h0
                · omega
                · obtain ⟨y, hy, _⟩ := hcs (row.length - 1) _ (List.getElem?_eq_getElem (by omega))
                  have := (Array.getElem?_eq_some_iff.1 hy).1
                  omega
              have e0 : (k.o + 0) * k.sz + tj = tj := by rw [ho]; simp
              rw [e0]
              obtain ⟨h1, h2, h3⟩ := setRow_ok hS ht hb (cs.toList.take tj ++ V.cells.toList ++ cs.toList.drop (tj + V.cells.size)).toArray (.box (splice row tj (cellsA x))) (fun hv => by
                refine ⟨k, rfl, ho, _, e, setRow_heap w k.b cs _ e _ hb, fun j y hj => ?_⟩
                have hrow : RVs ρ w row (cs.toList.take row.length) := ⟨by simp [hlen], fun j x y h1 h2 => by
                  obtain ⟨y', hy', hr⟩ := hcs j x h1
                  rw [List.getElem?_take] at h2
                  split at h2
                  · have : cs[j]? = some y := by simpa using h2
                    rw [this] at hy'
                    cases hy'
                    exact hr
                  · cases h2⟩
                have hsp := hrow.splice tj hcells
                obtain ⟨u, hu, hr⟩ := hsp.get hj
                refine ⟨u, ?_, hv _ _ hr⟩
                have hj2 : j < row.length := by
                  have h5 := (List.getElem?_eq_some_iff.1 hj).1
                  unfold splice at h5
                  simp at h5
                  omega
                simp only [List.getElem?_toArray]
                have hvl : V.cells.toList.length = (cellsA x).length := by have := hcells.1; omega
                have := splice_at cs.toList V.cells.toList 0 tj row.length j (by omega) (by simpa using hlen) hj2
                simp only [List.drop_zero, Nat.zero_add, Array.length_toList] at this
                simp only [Array.length_toList] at hu ⊢
                exact this.symm.trans hu)
              exact ⟨_, run (k := k) hb (by omega), ρ, .dead _, h1, h2⟩
            · cases h
          · rename_i sz xs hσ
            replace h := Option.bind_eq_some_iff.1 h
            obtain ⟨⟨fx, fts⟩, hfz, h⟩ := h
            split at h
            · cases h
            · rename_i hnk
              split at h
              · rename_i row hrow
                split at h
                · rename_i hjl
                  cases h
                  have hnk' : tk ∉ fts := by simpa using hnk
                  obtain ⟨hfc, hff⟩ := freezeL_ok hS (TS := fts) hfz hcells (fun t ht => ht)
                  have hS1 := hS.giveUp fts
                  have ht1 : (del ρ fts) tk = some k := by rw [del_at, if_neg hnk']; exact ht
                  have hk := hS1.row tk _ (show (giveUp fts σ)[tk]? = some (.arr sz xs) from by rw [giveUp_get, hσ]; simp [hnk', killR])
                  rw [ht1] at hk
                  obtain ⟨hksz, cs, e, hb, hsz, hkn, hkc, hF, hf⟩ := flat_of_row hk
                  have hil : ti < xs.length := (List.getElem?_eq_some_iff.1 hrow).1
                  have hrl := hF.len hrow
                  have hfl : fx.length = (cellsA x).length := by have h1 := hfc.1; have h2 := hcells.1; omega
                  have hVl : V.cells.size = (cellsA x).length := by have := hcells.1; simp at this; omega
                  have hb3 : (k.o + ti) * k.sz + k.sz ≤ cs.size := by
                    have h1 : (k.o + ti) * k.sz + k.sz ≤ (k.o + k.cap) * k.sz := by rw [← Nat.succ_mul]; exact Nat.mul_le_mul_right _ (by omega)
                    omega
                  have hbound : (k.o + ti) * k.sz + tj + V.cells.size ≤ cs.size := by omega
                  obtain ⟨h1, h2, h3⟩ := setRow_ok hS1 ht1 hb (cs.toList.take ((k.o + ti) * k.sz + tj) ++ V.cells.toList ++ cs.toList.drop ((k.o + ti) * k.sz + tj + V.cells.size)).toArray (.arr sz (xs.set ti (splice row tj fx))) (fun hv => by
                    obtain ⟨hz, hn, hc, cs2, e2, hb2, hsz2, hr2⟩ := hk
                    rw [hb] at hb2
                    cases hb2
                    refine ⟨hz, by rw [List.length_set]; exact hn, hc, _, e, setRow_heap w k.b cs _ e _ hb, by simp; omega, fun i' row' hi' => ?_⟩
                    rw [List.getElem?_set] at hi'
                    split at hi'
                    · rename_i hii
                      subst hii
                      cases hi'
                      refine ⟨by unfold splice; simp; omega, fun j y hj => ?_⟩
                      have hold := (hr2 ti row hrow).2
                      have hrv : RVs (del ρ fts) w row ((cs.toList.drop ((k.o + ti) * k.sz)).take k.sz) := ⟨by rw [hrl, List.length_take, List.length_drop]; simp; omega, fun j x y hj hy => by
                        obtain ⟨_, y', hy', hr⟩ := hold j x hj
                        rw [List.getElem?_take] at hy
                        split at hy
                        · rw [List.getElem?_drop] at hy
                          simp only [Array.getElem?_toList] at hy
                          rw [hy] at hy'
                          cases hy'
                          exact hr
                        · cases hy⟩
                      have hsp := hrv.splice tj hfc
                      obtain ⟨u, hu, hru⟩ := hsp.get hj
                      have hjlt : j < row.length := by
                        have h5 := (List.getElem?_eq_some_iff.1 hj).1
                        unfold splice at h5
                        simp at h5
                        omega
                      refine ⟨?_, u, ?_, hv _ _ hru⟩
                      · unfold splice at hj
                        rw [List.append_assoc, List.getElem?_append] at hj
                        split at hj
                        · rw [List.getElem?_take] at hj
                          split at hj
                          · exact (hold j y hj).1
                          · cases hj
                        · rw [List.getElem?_append] at hj
                          split at hj
                          · exact hff y (List.mem_of_getElem? hj)
                          · rw [List.getElem?_drop] at hj
                            exact (hold _ y hj).1
                      · simp only [List.getElem?_toArray]
                        have := splice_at cs.toList V.cells.toList ((k.o + ti) * k.sz) tj k.sz j (by simp; omega) (by simp; omega) (by omega)
                        simp only [Array.length_toList] at this hu
                        rw [← hu, this]
                    · rename_i hii
                      refine ⟨(hr2 i' row' hi').1, fun j y hj => ?_⟩
                      obtain ⟨h5, u, h6, h7⟩ := (hr2 i' row' hi').2 j y hj
                      refine ⟨h5, u, ?_, hv _ _ h7⟩
                      have hjs : j < k.sz := by rw [← (hr2 i' row' hi').1]; exact (List.getElem?_eq_some_iff.1 hj).1
                      rw [← h6]
                      simp only [List.getElem?_toArray]
                      rw [List.append_assoc, List.getElem?_append, List.length_take, Array.length_toList]
                      rcases Nat.lt_or_gt_of_ne hii with hlt | hgt
                      · have h8 : (k.o + ti) * k.sz + k.sz ≤ (k.o + i') * k.sz := by rw [← Nat.succ_mul]; exact Nat.mul_le_mul_right _ (by omega)
                        rw [if_neg (by omega), List.getElem?_append, Array.length_toList, if_neg (by omega), List.getElem?_drop]
                        simp only [Array.getElem?_toList]
                        congr 1
                        omega
                      · have h8 : (k.o + i') * k.sz + k.sz ≤ (k.o + ti) * k.sz := by rw [← Nat.succ_mul]; exact Nat.mul_le_mul_right _ (by omega)
                        rw [if_pos (by omega), List.getElem?_take, if_pos (by omega)]
                        simp)
                  refine ⟨_, run (k := k) hb hbound, del ρ fts, .dead _, h1, ?_⟩
                  have := (Ext.giveUp ρ w fts).trans h2
                  simpa using this
                · cases h
              · cases h
          · cases h
      · cases h
    · cases h
  · cases h
end
end Go.Proofs.YtabdcfcnngnnoaaDoor.E
