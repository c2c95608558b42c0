/- What each operation does is what the evaluator says: operations that only look, and new memory. -/
import Derived.Test.YtnmnaomfohlmcaaE3
set_option linter.unusedVariables false
set_option linter.unusedSimpArgs false
namespace Go.Proofs.Ytnmnaomfohlmcaa.E
open Go

section lists
variable {ρ : Gh} {w : World}
theorem RVs.append {l m : List AV} {u v : List Value} (h : RVs ρ w l u) (g : RVs ρ w m v) : RVs ρ w (l ++ m) (u ++ v) :=
  ⟨by simp [h.1, g.1], fun j x y h1 h2 => by
    rw [List.getElem?_append] at h1 h2
    by_cases hj : j < l.length
    · rw [if_pos hj] at h1; rw [if_pos (by rw [← h.1]; exact hj)] at h2
      exact h.2 j x y h1 h2
    · rw [if_neg hj] at h1; rw [if_neg (by rw [← h.1]; exact hj), ← h.1] at h2
      exact g.2 _ x y h1 h2⟩
theorem RVs.take {l : List AV} {u : List Value} (n : Nat) (h : RVs ρ w l u) : RVs ρ w (l.take n) (u.take n) :=
  ⟨by simp [h.1], fun j x y h1 h2 => by
    rw [List.getElem?_take] at h1 h2
    split at h1
    · rename_i hj; rw [if_pos hj] at h2; exact h.2 j x y h1 h2
    · cases h1⟩
theorem RVs.drop {l : List AV} {u : List Value} (n : Nat) (h : RVs ρ w l u) : RVs ρ w (l.drop n) (u.drop n) :=
  ⟨by simp [h.1], fun j x y h1 h2 => by
    rw [List.getElem?_drop] at h1 h2
    exact h.2 _ x y h1 h2⟩
theorem RVs.splice {row cs : List AV} {u v : List Value} (j : Nat) (h : RVs ρ w row u) (g : RVs ρ w cs v) : RVs ρ w (splice row j cs) (u.take j ++ v ++ u.drop (j + v.length)) := by
  unfold E.splice
  rw [g.1]
  exact ((h.take j).append g).append (h.drop _)
theorem RVs.get {l : List AV} {u : List Value} (h : RVs ρ w l u) {j : Nat} {x : AV} (hx : l[j]? = some x) : ∃ y, u[j]? = some y ∧ RV ρ w x y := by
  have hj : j < u.length := by rw [← h.1]; exact (List.getElem?_eq_some_iff.1 hx).1
  exact ⟨u[j], List.getElem?_eq_getElem hj, h.2 j x _ hx (List.getElem?_eq_getElem hj)⟩
theorem leaf_ok (x : Value) : RV ρ w (leaf x) x := by
  unfold leaf
  split
  · exact .nil _
  · exact .v _
theorem leafs_ok : ∀ l : List Value, RVs ρ w (l.map leaf) l
  | [] => RVs.nil'
  | x :: r => RVs.cons' (leaf_ok x) (leafs_ok r)
theorem constA_ok (x : Value) : RV ρ w (constA x) x := by
  unfold constA
  split
  · rename_i cs
    exact .agg _ cs (by simp) (fun j x y h1 h2 => by
      have := (leafs_ok (ρ := ρ) (w := w) cs.toList).2 j x y h1 (by simpa using h2)
      exact this)
  · exact .dead _
  · exact leaf_ok _
end lists
theorem foldl_cells : ∀ (l : List Value) (k off : Nat) (cells : Array Value), off + k + l.length ≤ cells.size →
    ((l.zipIdx k).foldl (fun (cs : Array Value) (x : Value × Nat) => cs.setIfInBounds (off + x.2) x.1) cells).toList = cells.toList.take (off + k) ++ l ++ cells.toList.drop (off + k + l.length)
  | [], k, off, cells, _ => by simp
  | c :: l, k, off, cells, h => by
    simp only [List.length_cons] at h
    rw [List.zipIdx_cons, List.foldl_cons, foldl_cells l (k + 1) off _ (by simp; omega)]
    have e := list_seg_step cells.toList (off + k) c l (by simp; omega)
    simp only [Array.toList_setIfInBounds, List.length_cons]
    simpa [Nat.add_assoc] using e
theorem fill_cells (cells vs : Array Value) (off : Nat) (h : off + vs.size ≤ cells.size) :
    (vs.zipIdx.foldl (fun (cs : Array Value) (x : Value × Nat) => cs.setIfInBounds (off + x.2) x.1) cells).toList = cells.toList.take off ++ vs.toList ++ cells.toList.drop (off + vs.size) := by
  have e : vs.zipIdx = (vs.toList.zipIdx 0).toArray := by
    apply Array.ext'
    simp
  rw [e]
  have := foldl_cells vs.toList 0 off cells (by simpa using h)
  simpa using this
/-- 'fill' of the model, and the evaluator's. -/
theorem fill_ok {ρ : Gh} {w : World} (place : Nat → Option (Nat × Nat)) : ∀ (ps : List (Nat × Nat × List AV)) (vs : List (Nat × Value)) (cells : List AV) (zs : Array Value) (out : List AV),
    RVs ρ w cells zs.toList → (ps.length = vs.length ∧ ∀ (i : Nat) p v, ps[i]? = some p → vs[i]? = some v → place v.1 = some (p.1, p.2.1) ∧ RVs ρ w p.2.2 v.2.cells.toList) → fillA cells ps = some out →
    ∃ zs', Instr.fill place zs vs = some zs' ∧ RVs ρ w out zs'.toList
  | [], vs, cells, zs, out, hz, hp, h => by
    cases vs with
    | nil => simp [fillA] at h; subst h; exact ⟨zs, rfl, hz⟩
    | cons v r => have := hp.1; simp at this
  | (off, sz, cs) :: r, vs, cells, zs, out, hz, hp, h => by
    cases vs with
    | nil => have := hp.1; simp at this
    | cons v vs =>
      obtain ⟨i, v⟩ := v
      simp only [fillA] at h
      split at h
      · rename_i hc
        obtain ⟨h1, h2⟩ := hp.2 0 _ _ rfl rfl
        simp only at h1 h2
        have hsz : v.cells.size = sz := by have := h2.1; simp at this; omega
        have hlen : zs.size = cells.length := by have := hz.1; simp at this; omega
        have := fill_ok place r vs (splice cells off cs) (v.cells.zipIdx.foldl (fun (cs : Array Value) (x : Value × Nat) => cs.setIfInBounds (off + x.2) x.1) zs) out (by
          rw [fill_cells zs v.cells off (by omega)]
          have := hz.splice off h2
          simpa using this) ⟨by have := hp.1; simpa using this, fun i p v h3 h4 => hp.2 (i + 1) p v (by simpa using h3) (by simpa using h4)⟩ h
        obtain ⟨zs', h3, h4⟩ := this
        refine ⟨zs', ?_, h4⟩
        unfold Instr.fill
        simp only [h1]
        rw [if_neg (by simp [hsz]; omega)]
        exact h3
      · cases h

section
variable {P : Program} {o : Oper} {a : Act} {w : World} {ρ : Gh} {σ : List Row}
/-- One operation comes to what R says. -/
def OpRuns (P : Program) (o : Oper) (a : Act) (w : World) (R : Value → World → Prop) : Prop :=
  ∀ (K : Act → World → Prop) (Q : Exit → Act → World → Prop), (∀ v w', R v w' → K (a.put o.dst v) w') → o.wp P a w K Q
theorem OpRuns.value {R : Value → World → Prop} {v : Value} {w' : World} (h : (execOp a.eval o).run P w = .ok (.value v) w') (hR : R v w') : OpRuns P o a w R :=
  fun K Q hK => by unfold Oper.wp; rw [h]; exact hK v w' hR
theorem OpRuns.skip {R : Value → World → Prop} {w' : World} (h : (execOp a.eval o).run P w = .ok .skip w') (hR : R undef w') : OpRuns P o a w R :=
  fun K Q hK => by unfold Oper.wp; rw [h]; exact hK undef w' hR
theorem OpRuns.mono {R R' : Value → World → Prop} (h : OpRuns P o a w R) (hR : ∀ v w', R v w' → R' v w') : OpRuns P o a w R' := fun K Q hK => h K Q (fun v w' hv => hK v w' (hR v w' hv))
/-- What an operation leaves behind. -/
def Post (ρ : Gh) (w : World) (out : Out) : Value → World → Prop := fun v w' => ∃ ρ', RV ρ' w' out.val v ∧ StoOk ρ' w' out.sto ∧ Ext ρ w ρ' w' out.mv
theorem Post.same (hS : StoOk ρ w σ) {x : AV} {v : Value} (h : RV ρ w x v) (b : Bool) : Post ρ w ⟨x, σ, [], b⟩ v w := ⟨ρ, h, hS, Ext.refl _ _ _⟩

theorem zeroA_ok {t : TypeId} {cs : List AV} (h : zeroA P t = some cs) : ∃ i z, P.info? t = some i ∧ i.zero = some z ∧ (∀ w, (zeroValue t).run P w = .ok z w) ∧ cs = z.cells.toList.map leaf := by
  unfold zeroA at h
  cases hi : P.info? t with
  | none => simp [hi] at h
  | some i =>
    cases hz : i.zero with
    | none => simp [hi, hz] at h
    | some z =>
      simp [hi, hz] at h
      exact ⟨i, z, rfl, hz, fun w => by simp [zeroValue, typeInfo, hi, hz], h.symm⟩
theorem elemA_ok {e : TypeId} {q : Nat × List AV} (h : elemA P e = some q) : ∃ i z, P.info? e = some i ∧ i.zero = some z ∧ (∀ w, (zeroValue e).run P w = .ok z w) ∧ (∀ w, (sizeOf e).run P w = .ok i.size w) ∧ q.1 = i.size ∧ q.2 = z.cells.toList.map leaf ∧ z.cells.size = i.size ∧ 0 < i.size ∧ (z.cells.toList.map leaf).all frozen = true ∧ i.bytes ≤ 1048576 ∧ 0 < i.bytes := by
  unfold elemA at h
  replace h := Option.bind_eq_some_iff.1 h
  obtain ⟨i, hi, h⟩ := h
  replace h := Option.bind_eq_some_iff.1 h
  obtain ⟨z, hz, h⟩ := h
  split at h
  · rename_i hc
    cases h
    obtain ⟨i', zv, hi', hzv, hr, rfl⟩ := zeroA_ok hz
    rw [hi] at hi'
    cases hi'
    exact ⟨i, zv, hi, hzv, hr, fun w => by simp [sizeOf, typeInfo, hi], rfl, rfl, by simpa using hc.2.1, hc.1, hc.2.2.1, hc.2.2.2.1, hc.2.2.2.2⟩
  · cases h
theorem esz_ok {t : TypeId} {n : Nat} (h : esz P t = some n) : ∃ i, P.info? t = some i ∧ i.size = n ∧ ∀ w, (sizeOf t).run P w = .ok n w := by
  unfold esz at h
  obtain ⟨i, hi, rfl⟩ := Option.map_eq_some_iff.1 h
  exact ⟨i, hi, rfl, fun w => by simp [sizeOf, typeInfo, hi]⟩
theorem isAgg_run {t : TypeId} {d : TypeDesc} (h : P.underlying t = some d) (w : World) : (isAgg t).run P w = .ok (isAggT P t) w := by
  unfold isAgg isAggT
  simp only [Sem.run_bind, run_underlying h, Result.andThen_ok, h]
  cases d <;> rfl

/-! #### New memory -/
theorem below_alloc_keep (w : World) (x : Obj) (b : Nat) (h : b < w.heap.size) : (w.alloc x).heap[b]? = w.heap[b]? := by
  show (w.heap.push x)[b]? = _
  rw [Array.getElem?_push, if_neg (by omega)]
theorem alloc_new (w : World) (x : Obj) : (w.alloc x).heap[w.heap.size]? = some x := by
  show (w.heap.push x)[w.heap.size]? = _
  rw [Array.getElem?_push, if_pos rfl]
theorem alloc_size (w : World) (x : Obj) : (w.alloc x).heap.size = w.heap.size + 1 := by
  show (w.heap.push x).size = _
  simp
theorem Ext.alloc (ρ : Gh) (w : World) (x : Obj) : Ext ρ w ρ (w.alloc x) [] :=
  ⟨rfl, rfl, rfl, by rw [alloc_size]; omega, fun b hb _ => below_alloc_keep w x b hb, fun b h => .inl h, rfl, fun _ _ => rfl⟩
theorem StoOk.alloc (h : StoOk ρ w σ) (x : Obj) : StoOk ρ (w.alloc x) σ := h.ext (Ext.alloc ρ w x) (fun t k ht => below_alloc_keep w x _ (h.blk t k ht))
theorem StoOk.fresh (h : StoOk ρ w σ) : ¬ owns ρ w.heap.size := fun hh => by
  rcases hh with ⟨t, k, h1, h2⟩ | h1
  · have := h.blk t k h1; omega
  · have := h.old _ h1; omega
/-- A token stands for a new block from now on. -/
def upd (ρ : Gh) (t : Nat) (k : Blk) : Gh := ⟨fun u => if u = t then some k else ρ u, ρ.X⟩
theorem upd_at (ρ : Gh) (t : Nat) (k : Blk) (u : Nat) : (upd ρ t k) u = if u = t then some k else ρ u := rfl
theorem Ext.allocUpd (ρ : Gh) (w : World) (x : Obj) (t : Nat) (k : Blk) (hk : k.b = w.heap.size) : Ext ρ w (upd ρ t k) (w.alloc x) [t] :=
  ⟨rfl, rfl, rfl, by rw [alloc_size]; omega, fun b hb _ => below_alloc_keep w x b hb, fun b h => by
    obtain ⟨u, k', h1, h2⟩ := h
    rw [upd_at] at h1
    split at h1
    · cases h1; exact .inr (by omega)
    · exact .inl ⟨u, k', h1, h2⟩, rfl, fun u hu => by rw [upd_at, if_neg (by simpa using hu)]⟩
theorem StoOk.allocUpd (h : StoOk ρ w σ) (x : Obj) (t : Nat) (k : Blk) (hk : k.b = w.heap.size) (ht : t < σ.length) (row : Row) (hrow : RowOk (upd ρ t k) (w.alloc x) (some k) row) :
    StoOk (upd ρ t k) (w.alloc x) ((E.giveUp [t] σ).set t row) := by
  refine h.put (Ext.allocUpd ρ w x t k hk) t row (by rw [upd_at, if_pos rfl]; exact hrow) (fun u k' hu => ?_) (fun u u' k1 k2 h1 h2 he => ?_) (fun u k' hu => ?_) (fun u k' _ _ hu => below_alloc_keep w x _ (h.blk u k' hu))
  · rw [upd_at] at hu
    split at hu
    · rename_i e; rw [e]; exact ht
    · exact h.len u k' hu
  · rw [upd_at] at h1 h2
    split at h1
    · split at h2
      · rename_i e1 e2; rw [e1, e2]
      · cases h1; have := h.blk u' k2 h2; omega
    · split at h2
      · cases h2; have := h.blk u k1 h1; omega
      · exact h.inj u u' k1 k2 h1 h2 he
  · rw [upd_at] at hu
    split at hu
    · cases hu; rw [hk, alloc_size]; exact ⟨by omega, fun hX => by have := h.old _ hX; omega⟩
    · have := h.blk u k' hu
      rw [alloc_size]; exact ⟨by omega, h.apart u k' hu⟩
mutual
theorem killV_not (ts : List Nat) : ∀ x : AV, (∀ t ∈ toksV x, t ∉ ts) → killV ts x = x
  | .v _, _ | .nil, _ | .sl _, _ | .cl _, _ | .dead, _ => by simp [killV]
  | .os t _ _, h => by have := h t (by simp [toksV]); simp [killV, this]
  | .pt t _ _, h => by have := h t (by simp [toksV]); simp [killV, this]
  | .mp t, h => by have := h t (by simp [toksV]); simp [killV, this]
  | .rp cells, h => by simp [killV, killL_not ts cells (fun t ht => h t (by simpa [toksV] using ht))]
  | .clo f caps, h => by simp [killV, killL_not ts caps (fun t ht => h t (by simpa [toksV] using ht))]
  | .agg cells, h => by simp [killV, killL_not ts cells (fun t ht => h t (by simpa [toksV] using ht))]
  | .tup xs, h => by simp [killV, killL_not ts xs (fun t ht => h t (by simpa [toksV] using ht))]
theorem killL_not (ts : List Nat) : ∀ l : List AV, (∀ t ∈ toksL l, t ∉ ts) → killL ts l = l
  | [], _ => rfl
  | x :: r, h => by rw [killL, killV_not ts x (fun t ht => h t (by simp [toksL, ht])), killL_not ts r (fun t ht => h t (by simp [toksL, ht]))]
end
theorem toksL_mem {l : List AV} {j : Nat} {x : AV} (h : l[j]? = some x) {t : Nat} (ht : t ∈ toksV x) : t ∈ toksL l := by
  induction l generalizing j with
  | nil => simp at h
  | cons y r ih =>
    cases j with
    | zero => simp at h; subst h; simp [toksL, ht]
    | succ j => simp at h; simp [toksL, ih h]
theorem cell_new (w : World) (cs : Array Value) (e : TypeId) (j : Nat) : (w.alloc (.cells cs e)).cell? ((⟨w.heap.size, 0, none⟩ : Addr).add j) = cs[j]? := by
  have : (⟨w.heap.size, 0, none⟩ : Addr).add j = ⟨w.heap.size, j, none⟩ := by unfold Addr.add; split <;> simp_all
  rw [this]
  unfold World.cell?
  simp only [alloc_new]
  rfl
theorem freshBox_ok {base : Nat} {own : List Nat} {cells : List AV} {out : Out} (h : freshBox base own cells σ = some out) (hS : StoOk ρ w σ) (cs : Array Value) (e : TypeId) (hc : RVs ρ w cells cs.toList) :
    Post ρ w out (.pointer (some ⟨w.heap.size, 0, none⟩)) (w.alloc (.cells cs e)) := by
  unfold freshBox at h
  split at h
  · cases h
    have hx := Ext.alloc ρ w (.cells cs e)
    refine ⟨ρ, .rp cells _ (fun j => cs.toList.getD j undef) (fun j x hj => ?_) (fun j x hj => ?_), hS.alloc _, hx⟩
    · obtain ⟨y, hy, _⟩ := hc.get hj
      refine ⟨hS.fresh, ?_⟩
      rw [cell_new]
      simp at hy
      simp [hy]
    · obtain ⟨y, hy, hr⟩ := hc.get hj
      have := hr.ext hx
      rw [killV_nil] at this
      simp [hy]
      exact this
  · rename_i k
    split at h
    · rename_i hk
      cases h
      refine ⟨upd ρ (base + k) ⟨w.heap.size, 0, 0, 1, 1⟩, ?_, hS.allocUpd _ _ _ rfl hk.1 _ ⟨_, rfl, rfl, cs, e, by rw [alloc_new], fun j x hj => ?_⟩, Ext.allocUpd ρ w _ _ _ rfl⟩
      · have := RV.pt (ρ := upd ρ (base + k) ⟨w.heap.size, 0, 0, 1, 1⟩) (w := w.alloc (.cells cs e)) (base + k) 0 0 ⟨w.heap.size, 0, 0, 1, 1⟩ (by rw [upd_at, if_pos rfl])
        simpa using this
      · obtain ⟨y, hy, hr⟩ := hc.get hj
        have := hr.ext (Ext.allocUpd ρ w (.cells cs e) (base + k) ⟨w.heap.size, 0, 0, 1, 1⟩ rfl)
        rw [killV_not [base + k] x (fun t ht hm => by
          have h1 : t = base + k := by simpa using hm
          have h2 := toksL_mem hj ht
          have h3 := hk.2
          rw [h1] at h2
          simp [h2] at h3)] at this
        exact ⟨y, by simpa using hy, this⟩
    · cases h
  · cases h
end
end Go.Proofs.Ytnmnaomfohlmcaa.E
