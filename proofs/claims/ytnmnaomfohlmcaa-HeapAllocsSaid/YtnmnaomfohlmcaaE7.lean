/- What each operation does is what the evaluator says: memory that is written. -/
import Derived.Test.YtnmnaomfohlmcaaE6
set_option linter.unusedVariables false
set_option linter.unusedSimpArgs false
namespace Go.Proofs.Ytnmnaomfohlmcaa.E
open Go
section
variable {P : Program} {o : Oper} {a : Act} {w : World} {ρ : Gh} {σ : List Row}

/-- A block of one's own is laid anew. -/
theorem setRow_ok (hS : StoOk ρ w σ) {t : Nat} {k : Blk} (ht : ρ t = some k) {cur : Array Value} {e : TypeId} (hb : w.heap[k.b]? = some (.cells cur e (0, 0))) (cs' : Array Value) (row : Row)
    (hrow : (∀ x y, RV ρ w x y → RV ρ (w.setRow k.b cs') x y) → RowOk ρ (w.setRow k.b cs') (some k) row) :
    StoOk ρ (w.setRow k.b cs') (σ.set t row) ∧ Ext ρ w ρ (w.setRow k.b cs') [] ∧ (∀ x y, RV ρ w x y → RV ρ (w.setRow k.b cs') x y) := by
  have hx : Ext ρ w ρ (w.setRow k.b cs') [] := ⟨rfl, rfl, rfl, by rw [setRow_size]; exact Nat.le_refl _, fun b _ hno => setRow_other w k.b b cs' (fun e => hno ⟨t, k, ht, e.symm⟩), fun b h => .inl h, rfl, fun _ _ => rfl⟩
  have hv : ∀ x y, RV ρ w x y → RV ρ (w.setRow k.b cs') x y := fun x y h => by have := h.ext hx; rwa [killV_nil] at this
  refine ⟨?_, hx, hv⟩
  have := hS.put hx t row (by rw [ht]; exact hrow hv) hS.len hS.inj (fun u k' hu => by rw [setRow_size]; exact ⟨hS.blk u k' hu, hS.apart u k' hu⟩) (fun u k' hne _ hu => setRow_other w k.b k'.b cs' (fun e => hne (hS.inj u t k' k hu ht e)))
  simpa [giveUp] using this

theorem freezeV_ok (hS : StoOk ρ w σ) {x x' : AV} {y : Value} {ts TS : List Nat} (h : freezeV σ x = some (x', ts)) (hr : RV ρ w x y) (hsub : ∀ t ∈ ts, t ∈ TS) : RV (del ρ TS) w x' y ∧ frozen x' = true := by
  have hfin : ∀ {x : AV}, frozen x = true → RV ρ w x y → RV (del ρ TS) w x y := fun {x} hf hr => by
    have := hr.ext (Ext.giveUp ρ w TS)
    rwa [killV_frozen TS x hf] at this
  cases hr with
  | os t off len k a ht hn hcap ha =>
    simp only [freezeV] at h
    split at h
    · rename_i sz xs hσ
      cases h
      have hk := hS.row t _ hσ
      rw [ht] at hk
      obtain ⟨h0, h1, h2, cs, e, hb, hsz, hc⟩ := hk
      refine ⟨?_, rfl⟩
      have hl : ((xs.drop off).take len).length = len := by simp; omega
      have := RV.sl (ρ := del ρ TS) (w := w) ((xs.drop off).take len) a (k.cap - off) k.sz (fun i j => cs.getD ((k.o + off + i) * k.sz + j) undef) (by rw [hl]; omega) (fun hp => by
          rw [hl] at hp; rw [ha (by omega)]; rfl) (fun i row hi => ?_) (fun i row j x hi hj => ?_) (fun i row j x hi hj => ?_)
      · rwa [hl] at this
      · rw [List.getElem?_take] at hi
        split at hi
        · rw [List.getElem?_drop] at hi; exact (hc _ row hi).1
        · cases hi
      · rw [List.getElem?_take] at hi
        split at hi
        · rename_i hlt
          rw [List.getElem?_drop] at hi
          obtain ⟨hf, u, hu, hru⟩ := (hc _ row hi).2 j x hj
          refine ⟨hf, _, ha (by omega), ?_, ?_⟩
          · rintro (⟨t', k', h3, h4⟩ | h3)
            · obtain ⟨h3, hm⟩ := del_some h3
              have := hS.inj t' t k' k h3 ht h4
              subst this
              exact hm (hsub t' (by simp))
            · exact hS.apart t k ht h3
          · rw [add_add', cell_row hb]
            have e1 : (k.o + off) * k.sz + (i * k.sz + j) = (k.o + off + i) * k.sz + j := by rw [Nat.add_mul (k.o + off) i, Nat.add_assoc]
            have e2 : (k.o + (off + i)) * k.sz + j = (k.o + off + i) * k.sz + j := by rw [Nat.add_assoc]
            rw [e1]
            rw [e2] at hu
            simp [hu]
        · cases hi
      · rw [List.getElem?_take] at hi
        split at hi
        · rename_i hlt
          rw [List.getElem?_drop] at hi
          obtain ⟨hf, u, hu, hru⟩ := (hc _ row hi).2 j x hj
          have e2 : (k.o + (off + i)) * k.sz + j = (k.o + off + i) * k.sz + j := by rw [Nat.add_assoc]
          rw [e2] at hu
          simp only [Array.getD_eq_getD_getElem?, hu, Option.getD_some]
          have := hru.ext (Ext.giveUp ρ w TS)
          rwa [killV_frozen TS x hf] at this
        · cases hi
    · cases h
  | osn t a ht =>
    simp only [freezeV] at h
    split at h
    · rename_i sz xs hσ
      cases h
      have hk := hS.row t _ hσ
      rw [ht] at hk
      have : xs = [] := hk
      subst this
      refine ⟨?_, rfl⟩
      exact .sl [] a 0 0 (fun _ _ => undef) (by simp) (fun h => by simp at h) (fun i row h => by simp at h) (fun i row j x h => by simp at h) (fun i row j x h => by simp at h)
    · cases h
  | nil a =>
    simp only [freezeV] at h
    cases h
    exact ⟨.sl [] a 0 0 (fun _ _ => undef) (by simp) (fun h => by simp at h) (fun i row h => by simp at h) (fun i row j x h => by simp at h) (fun i row j x h => by simp at h), rfl⟩
  | v =>
    simp only [freezeV] at h
    split at h
    · rename_i hf
      cases h
      exact ⟨.v _, hf⟩
    · cases h
  | sl xs a c sz U hc ha hrow hcell hsub' =>
    simp only [freezeV] at h
    cases h
    exact ⟨hfin rfl (.sl xs a c sz U hc ha hrow hcell hsub'), rfl⟩
  | _ => simp [freezeV] at h

theorem freezeL_ok (hS : StoOk ρ w σ) {TS : List Nat} : ∀ {l l' : List AV} {vs : List Value} {ts : List Nat}, freezeL σ l = some (l', ts) → RVs ρ w l vs → (∀ t ∈ ts, t ∈ TS) → RVs (del ρ TS) w l' vs ∧ ∀ x ∈ l', frozen x = true
  | [], l', vs, ts, h, hr, hsub => by
    cases h
    have : vs = [] := List.eq_nil_of_length_eq_zero (by rw [← hr.1]; rfl)
    subst this
    exact ⟨RVs.nil', fun x hx => by cases hx⟩
  | x :: r, l', vs, ts, h, hr, hsub => by
    simp only [freezeL] at h
    replace h := Option.bind_eq_some_iff.1 h
    obtain ⟨⟨x', t1⟩, h1, h⟩ := h
    replace h := Option.bind_eq_some_iff.1 h
    obtain ⟨⟨r', t2⟩, h2, h⟩ := h
    cases h
    obtain ⟨y, vr, rfl, hy, hvr⟩ := hr.head
    obtain ⟨a1, a2⟩ := freezeV_ok hS h1 hy (TS := TS) (fun t ht => hsub t (by simp [ht]))
    obtain ⟨b1, b2⟩ := freezeL_ok hS (TS := TS) h2 hvr (fun t ht => hsub t (by simp [ht]))
    exact ⟨RVs.cons' a1 b1, fun z hz => by
      rcases List.mem_cons.1 hz with rfl | hz
      · exact a2
      · exact b2 z hz⟩

/-- Elements of s cells each, side by side. -/
def Flat (ρ : Gh) (w : World) (s : Nat) (xs : List (List AV)) (news : List Value) : Prop :=
  news.length = xs.length * s ∧ ∀ (i : Nat) (row : List AV), xs[i]? = some row → RVs ρ w row ((news.drop (i * s)).take s)
theorem Flat.nil' {s : Nat} : Flat ρ w s [] [] := ⟨by simp, fun i row h => by simp at h⟩
theorem Flat.append {s : Nat} {xs ys : List (List AV)} {u v : List Value} (h : Flat ρ w s xs u) (g : Flat ρ w s ys v) : Flat ρ w s (xs ++ ys) (u ++ v) := by
  refine ⟨by simp [h.1, g.1, Nat.add_mul], fun i row hi => ?_⟩
  rw [List.getElem?_append] at hi
  split at hi
  · rename_i hlt
    have h1 : i * s + s ≤ u.length := by
      rw [h.1, ← Nat.succ_mul]
      exact Nat.mul_le_mul_right s hlt
    rw [List.drop_append_of_le_length (by omega), List.take_append_of_le_length (by rw [List.length_drop]; omega)]
    exact h.2 i row hi
  · rename_i hlt
    have := g.2 _ row hi
    rw [List.drop_append, List.drop_eq_nil_of_le (by rw [h.1]; exact Nat.mul_le_mul_right s (by omega)), List.nil_append]
    rwa [h.1, ← Nat.sub_mul]
theorem Flat.one {s : Nat} {row : List AV} {u : List Value} (h : RVs ρ w row u) (hs : row.length = s) : Flat ρ w s [row] u := by
  have hu : u.length = s := by rw [← h.1, hs]
  refine ⟨by simp [hu], fun i r hi => ?_⟩
  cases i with
  | zero =>
    simp at hi
    subst hi
    rw [Nat.zero_mul, List.drop_zero, List.take_of_length_le (by omega)]
    exact h
  | succ i => simp at hi
theorem Flat.take {s : Nat} {xs : List (List AV)} {u : List Value} (n : Nat) (h : Flat ρ w s xs u) : Flat ρ w s (xs.take n) (u.take (n * s)) := by
  refine ⟨by rw [List.length_take, List.length_take, h.1]; rcases Nat.le_total n xs.length with hle | hle
             · rw [Nat.min_eq_left hle, Nat.min_eq_left (Nat.mul_le_mul_right s hle)]
             · rw [Nat.min_eq_right hle, Nat.min_eq_right (Nat.mul_le_mul_right s hle)], fun i row hi => ?_⟩
  rw [List.getElem?_take] at hi
  split at hi
  · rename_i hlt
    have := h.2 i row hi
    have h1 : i * s + s ≤ n * s := by rw [← Nat.succ_mul]; exact Nat.mul_le_mul_right s hlt
    rw [List.drop_take, List.take_take, Nat.min_eq_left (by omega)]
    exact this
  · cases hi
theorem Flat.drop {s : Nat} {xs : List (List AV)} {u : List Value} (n : Nat) (h : Flat ρ w s xs u) : Flat ρ w s (xs.drop n) (u.drop (n * s)) := by
  refine ⟨by rw [List.length_drop, List.length_drop, h.1, Nat.sub_mul], fun i row hi => ?_⟩
  rw [List.getElem?_drop] at hi
  have := h.2 _ row hi
  rw [List.drop_drop, ← Nat.add_mul]
  exact this
theorem Flat.replicate {s : Nat} {row : List AV} {u : List Value} (h : RVs ρ w row u) (hs : row.length = s) : ∀ n, Flat ρ w s (List.replicate n row) (List.replicate n u).flatten
  | 0 => by simpa using Flat.nil'
  | n + 1 => by
    rw [List.replicate_succ, List.replicate_succ, List.flatten_cons]
    exact (Flat.one h hs).append (Flat.replicate h hs n)
theorem Flat.set {s : Nat} {xs : List (List AV)} {row : List AV} {u v : List Value} {i : Nat} (h : Flat ρ w s xs u) (hr : RVs ρ w row v) (hs : row.length = s) (hi : i < xs.length) : Flat ρ w s (xs.set i row) (u.take (i * s) ++ v ++ u.drop ((i + 1) * s)) := by
  rw [List.set_eq_take_append_cons_drop, if_pos hi]
  have := ((h.take i).append (Flat.one hr hs)).append (h.drop (i + 1))
  simpa using this
theorem Flat.mono {ρ' : Gh} {w' : World} {s : Nat} {xs : List (List AV)} {u : List Value} (h : Flat ρ w s xs u) (hv : ∀ (i : Nat) (row : List AV) (j : Nat) (x : AV) (y : Value), xs[i]? = some row → row[j]? = some x → RV ρ w x y → RV ρ' w' x y) : Flat ρ' w' s xs u :=
  ⟨h.1, fun i row hi => ⟨(h.2 i row hi).1, fun j x y h1 h2 => hv i row j x y hi h1 ((h.2 i row hi).2 j x y h1 h2)⟩⟩
theorem Flat.len {s : Nat} {xs : List (List AV)} {u : List Value} (h : Flat ρ w s xs u) {i : Nat} {row : List AV} (hi : xs[i]? = some row) : row.length = s := by
  have h1 := (h.2 i row hi).1
  have hlt : i < xs.length := (List.getElem?_eq_some_iff.1 hi).1
  have h2 : i * s + s ≤ u.length := by rw [h.1, ← Nat.succ_mul]; exact Nat.mul_le_mul_right s hlt
  rw [h1, List.length_take, List.length_drop]
  omega
def froz (xs : List (List AV)) : Prop := ∀ (i : Nat) (row : List AV) (j : Nat) (x : AV), xs[i]? = some row → row[j]? = some x → frozen x = true
/-- A row's content is the list. -/
theorem rowOk_of_flat {k : Blk} {sz : Nat} {xs : List (List AV)} {u : List Value} {cs : Array Value} {e : TypeId} (hz : k.sz = sz) (hn : k.n = xs.length) (hc : k.n ≤ k.cap) (hb : w.heap[k.b]? = some (.cells cs e (0, 0))) (hsz : (k.o + k.cap) * k.sz ≤ cs.size)
    (hF : Flat ρ w k.sz xs u) (hu : ∀ j v, u[j]? = some v → cs[k.o * k.sz + j]? = some v) (hf : froz xs) : RowOk ρ w (some k) (.arr sz xs) := by
  refine ⟨hz, hn, hc, cs, e, hb, hsz, fun i row hi => ⟨hF.len hi, fun j x hj => ⟨hf i row j x hi hj, ?_⟩⟩⟩
  obtain ⟨y, hy, hr⟩ := (hF.2 i row hi).get hj
  rw [List.getElem?_take] at hy
  split at hy
  · rw [List.getElem?_drop] at hy
    have := hu _ y hy
    refine ⟨y, ?_, hr⟩
    rw [← this]
    congr 1
    rw [Nat.add_mul]
    omega
  · cases hy
theorem flat_of_row {k : Blk} {sz : Nat} {xs : List (List AV)} (h : RowOk ρ w (some k) (.arr sz xs)) : k.sz = sz ∧ ∃ cs e, w.heap[k.b]? = some (.cells cs e (0, 0)) ∧ (k.o + k.cap) * k.sz ≤ cs.size ∧ k.n = xs.length ∧ k.n ≤ k.cap ∧
    Flat ρ w k.sz xs ((cs.toList.drop (k.o * k.sz)).take (k.n * k.sz)) ∧ froz xs := by
  obtain ⟨hz, hn, hc, cs, e, hb, hsz, hr⟩ := h
  have h1 : k.o * k.sz + k.n * k.sz ≤ cs.size := by
    rw [← Nat.add_mul]
    exact Nat.le_trans (Nat.mul_le_mul_right _ (by omega)) hsz
  refine ⟨hz, cs, e, hb, hsz, hn, hc, ⟨by rw [List.length_take, List.length_drop, ← hn]; simp; omega, fun i row hi => ?_⟩, fun i row j x hi hj => ((hr i row hi).2 j x hj).1⟩
  have hlt : i < xs.length := (List.getElem?_eq_some_iff.1 hi).1
  have h2 : i * k.sz + k.sz ≤ k.n * k.sz := by rw [← Nat.succ_mul, hn]; exact Nat.mul_le_mul_right _ hlt
  obtain ⟨hl, hc'⟩ := hr i row hi
  refine ⟨by rw [hl, List.length_take, List.length_drop, List.length_take, List.length_drop]; simp; omega, fun j x y hj hy => ?_⟩
  obtain ⟨_, y', hy', hrv⟩ := hc' j x hj
  rw [List.getElem?_take] at hy
  split at hy
  · rw [List.getElem?_drop, List.getElem?_take] at hy
    split at hy
    · rw [List.getElem?_drop] at hy
      have e1 : (k.o + i) * k.sz + j = k.o * k.sz + (i * k.sz + j) := by rw [Nat.add_mul, Nat.add_assoc]
      rw [e1] at hy'
      simp only [Array.getElem?_toList] at hy
      rw [hy] at hy'
      cases hy'
      exact hrv
    · cases hy
  · cases hy
/-- What is listed can be read. -/
theorem listOf_ok (hS : StoOk ρ w σ) {s : Nat} {y : AV} {Y : Value} {ys : List (List AV)} (h : listOf σ y = some ys) (hr : RV ρ w y Y) (hs : rowsOk s ys = true) :
    ∃ A c u, Y = .slice A ys.length c ∧ Flat ρ w s ys u ∧ froz ys ∧ (∀ n, n ≤ ys.length → (Builtin.firstCells s n Y).run P w = .ok (u.take (n * s)).toArray w) ∧ ∀ v ∈ u, v.oneCell' = true := by
  have hlen : ∀ (i : Nat) row, ys[i]? = some row → row.length = s := fun i row hi => by
    have := List.all_eq_true.1 hs row (List.mem_of_getElem? hi)
    simpa using this
  have main : ∀ (A : Option Addr) (c : Nat) (u : List Value), Y = .slice A ys.length c → Flat ρ w s ys u → froz ys → (0 < ys.length → ∃ ad, A = some ad ∧ ∀ j v, u[j]? = some v → w.cell? (ad.add j) = some v) →
      ∃ A c u, Y = .slice A ys.length c ∧ Flat ρ w s ys u ∧ froz ys ∧ (∀ n, n ≤ ys.length → (Builtin.firstCells s n Y).run P w = .ok (u.take (n * s)).toArray w) ∧ ∀ v ∈ u, v.oneCell' = true := by
    intro A c u hY hF hf hA
    refine ⟨A, c, u, hY, hF, hf, fun n hn => ?_, fun v hv => ?_⟩
    · subst hY
      rcases Nat.eq_zero_or_pos ys.length with h0 | h0
      · have hn0 : n = 0 := by omega
        subst hn0
        cases A <;> simp [Builtin.firstCells, loadCells, loadCellsFrom]
      · obtain ⟨ad, rfl, had⟩ := hA h0
        have hlu : (u.take (n * s)).length = n * s := by
          rw [List.length_take, hF.1]
          exact Nat.min_eq_left (Nat.mul_le_mul_right s hn)
        have := run_loadCells_list (P := P) w ad (u.take (n * s)) (fun j v hv => by
          rw [List.getElem?_take] at hv
          split at hv
          · exact had j v hv
          · cases hv)
        rw [hlu] at this
        simpa [Builtin.firstCells] using this
    · obtain ⟨j, hj, rfl⟩ := List.getElem_of_mem hv
      have hs0 : 0 < s := by
        rcases Nat.eq_zero_or_pos s with h0 | h0
        · rw [hF.1, h0, Nat.mul_zero] at hj; omega
        · exact h0
      have hq : j / s < ys.length := by
        rw [Nat.div_lt_iff_lt_mul hs0, ← hF.1]; exact hj
      have hrow := hF.2 (j / s) _ (List.getElem?_eq_getElem hq)
      have hrl := hlen (j / s) _ (List.getElem?_eq_getElem hq)
      have hm : j % s < (ys[j / s]).length := by rw [hrl]; exact Nat.mod_lt j hs0
      obtain ⟨y', hy', hrv⟩ := hrow.get (List.getElem?_eq_getElem hm)
      have hfz := hf _ _ _ _ (List.getElem?_eq_getElem hq) (List.getElem?_eq_getElem hm)
      rw [List.getElem?_take] at hy'
      split at hy'
      · rw [List.getElem?_drop, Nat.div_add_mod' , List.getElem?_eq_getElem hj] at hy'
        cases hy'
        exact cell1_one hrv (frozen_cell1 _ hfz)
      · cases hy'
  cases hr with
  | v x =>
    unfold listOf at h
    split at h
    · rename_i he; cases he
    · rename_i he; cases he
    · rename_i he; cases he
    · rename_i he
      cases he
      cases h
      exact main _ _ [] rfl Flat.nil' (fun i row j x hi => by simp at hi) (fun h => by simp at h)
    · cases h
  | nil a =>
    simp only [listOf] at h
    cases h
    exact main a 0 [] rfl Flat.nil' (fun i row j x hi => by simp at hi) (fun h => by simp at h)
  | sl xs a c sz U hc ha hrow hcell hsub =>
    simp only [listOf, Option.some.injEq] at h
    subst h
    have hsz : ∀ (i : Nat) row, xs[i]? = some row → sz = s := fun i row hi => by rw [← hrow i row hi, hlen i row hi]
    clear hs
    refine main a c ((List.range (xs.length * s)).map fun q => U (q / s) (q % s)) rfl ⟨by simp, fun i row hi => ⟨?_, fun j x y hj hy => ?_⟩⟩ (fun i row j x hi hj => (hcell i row j x hi hj).1) (fun hp => ?_)
    · have hlt : i < xs.length := (List.getElem?_eq_some_iff.1 hi).1
      have h2 : i * s + s ≤ xs.length * s := by rw [← Nat.succ_mul]; exact Nat.mul_le_mul_right s hlt
      rw [hlen i row hi, List.length_take, List.length_drop]
      simp
      omega
    · have hjs : j < s := by rw [← hlen i row hi]; exact (List.getElem?_eq_some_iff.1 hj).1
      rw [List.getElem?_take, if_pos hjs, List.getElem?_drop, List.getElem?_map] at hy
      obtain ⟨q, hq, rfl⟩ := Option.map_eq_some_iff.1 hy
      have : q = i * s + j := by
        have h3 := List.getElem?_eq_some_iff.1 hq
        obtain ⟨h4, h5⟩ := h3
        simp at h5
        exact h5.symm
      subst this
      have e1 : (i * s + j) / s = i := by
        rw [Nat.mul_comm, Nat.mul_add_div (by omega), Nat.div_eq_of_lt hjs, Nat.add_zero]
      have e2 : (i * s + j) % s = j := by
        rw [Nat.mul_comm, Nat.mul_add_mod, Nat.mod_eq_of_lt hjs]
      rw [e1, e2]
      exact hsub i row j x hi hj
    · obtain ⟨ad, had⟩ := Option.isSome_iff_exists.1 (ha hp)
      refine ⟨ad, had, fun j v hv => ?_⟩
      rw [List.getElem?_map] at hv
      obtain ⟨q, hq, rfl⟩ := Option.map_eq_some_iff.1 hv
      have hqj : q = j ∧ j < xs.length * s := by
        obtain ⟨h4, h5⟩ := List.getElem?_eq_some_iff.1 hq
        simp at h4 h5
        exact ⟨h5.symm, h4⟩
      obtain ⟨rfl, hjl⟩ := hqj
      have hs0 : 0 < s := by
        rcases Nat.eq_zero_or_pos s with h0 | h0
        · rw [h0, Nat.mul_zero] at hjl; omega
        · exact h0
      have hq' : q / s < xs.length := by rw [Nat.div_lt_iff_lt_mul hs0]; exact hjl
      have hrl := hlen (q / s) _ (List.getElem?_eq_getElem hq')
      have hm : q % s < (xs[q / s]).length := by rw [hrl]; exact Nat.mod_lt q hs0
      obtain ⟨_, ad2, e2, _, hcl⟩ := hcell _ _ _ _ (List.getElem?_eq_getElem hq') (List.getElem?_eq_getElem hm)
      rw [had] at e2
      cases e2
      rw [hsz _ _ (List.getElem?_eq_getElem hq'), Nat.div_add_mod'] at hcl
      exact hcl
  | os t off len k a ht hn hcap ha =>
    simp only [listOf] at h
    split at h
    · rename_i sz xs hσ
      cases h
      have hk := hS.row t _ hσ
      rw [ht] at hk
      obtain ⟨_, cs, e, hb, hsz, hkn, hkc, hF, hf⟩ := flat_of_row hk
      have hl : ((xs.drop off).take len).length = len := by simp; omega
      have hFd := (hF.drop off).take len
      have hrl : ∀ (i : Nat) row, ((xs.drop off).take len)[i]? = some row → s = k.sz := fun i row hi => by rw [← hlen i row hi, hFd.len hi]
      have hff : froz ((xs.drop off).take len) := fun i row j x hi hj => by
        rw [List.getElem?_take] at hi
        split at hi
        · rw [List.getElem?_drop] at hi; exact hf _ row j x hi hj
        · cases hi
      rcases Nat.eq_zero_or_pos len with h0 | h0
      · subst h0
        simp only [List.take_zero, List.length_nil] at *
        exact main a _ [] rfl Flat.nil' hff (fun h => by omega)
      · have hsk : s = k.sz := by
          have : 0 < ((xs.drop off).take len).length := by omega
          exact hrl 0 _ (List.getElem?_eq_getElem this)
        subst hsk
        refine main a _ _ (by rw [hl]) hFd hff (fun _ => ⟨_, ha (by omega), fun j v hv => ?_⟩)
        rw [List.getElem?_take] at hv
        split at hv
        · rw [List.getElem?_drop, List.getElem?_take] at hv
          split at hv
          · rw [List.getElem?_drop] at hv
            rw [add_add', cell_row hb]
            simp only [Array.getElem?_toList] at hv
            rw [← hv]
            congr 1
            rw [Nat.add_mul]
            omega
          · cases hv
        · cases hv
    · cases h
  | osn t a ht =>
    simp only [listOf] at h
    split at h
    · rename_i sz xs hσ
      cases h
      exact main a 0 [] (by simp) (by simpa using Flat.nil') (fun i row j x hi => by simp at hi) (fun h => by simp at h)
    · cases h
  | _ => simp [listOf] at h
end
end Go.Proofs.Ytnmnaomfohlmcaa.E
