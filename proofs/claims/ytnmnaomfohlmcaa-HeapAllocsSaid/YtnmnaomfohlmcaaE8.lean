/- What each operation does is what the evaluator says: memory that is made and written. -/
import Derived.Test.YtnmnaomfohlmcaaE7
set_option linter.unusedVariables false
set_option linter.unusedSimpArgs false
namespace Go.Proofs.Ytnmnaomfohlmcaa.E
open Go
section
variable {P : Program} {o : Oper} {a : Act} {w : World} {ρ : Gh} {σ : List Row}

theorem freshArr_ok {base : Nat} {own : List Nat} {s : Nat} {xs : List (List AV)} {out : Out} (h : freshArr base own s xs σ = some out) (hS : StoOk ρ w σ) (cs : Array Value) (e : TypeId) (cap : Nat)
    (hF : Flat ρ w s xs (cs.toList.take (xs.length * s))) (hf : froz xs) (hc : xs.length ≤ cap) (hsz : cap * s ≤ cs.size) :
    Post ρ w out (.slice (some ⟨w.heap.size, 0, none⟩) xs.length cap) (w.alloc (.cells cs e)) := by
  have hsub : xs.length * s ≤ cap * s := Nat.mul_le_mul_right s hc
  unfold freshArr at h
  split at h
  · cases h
    have hx := Ext.alloc ρ w (.cells cs e)
    have cellAt : ∀ (i : Nat) row (j : Nat) x, xs[i]? = some row → row[j]? = some x → ∃ y, cs[i * s + j]? = some y ∧ RV ρ w x y := fun i row j x hi hj => by
      obtain ⟨y, hy, hr⟩ := (hF.2 i row hi).get hj
      rw [List.getElem?_take] at hy
      split at hy
      · rw [List.getElem?_drop, List.getElem?_take] at hy
        split at hy
        · exact ⟨y, by simpa using hy, hr⟩
        · cases hy
      · cases hy
    refine ⟨ρ, .sl xs _ cap s (fun i j => cs.getD (i * s + j) undef) hc (fun _ => rfl) (fun i row hi => hF.len hi) (fun i row j x hi hj => ?_) (fun i row j x hi hj => ?_), hS.alloc _, hx⟩
    · obtain ⟨y, hy, _⟩ := cellAt i row j x hi hj
      refine ⟨hf i row j x hi hj, _, rfl, hS.fresh, ?_⟩
      rw [cell_new]
      simp [hy]
    · obtain ⟨y, hy, hr⟩ := cellAt i row j x hi hj
      simp only [Array.getD_eq_getD_getElem?, hy, Option.getD_some]
      have := hr.ext hx
      rwa [killV_nil] at this
  · rename_i k
    split at h
    · rename_i hk
      cases h
      have hx := Ext.allocUpd ρ w (.cells cs e) (base + k) ⟨w.heap.size, 0, s, xs.length, cap⟩ rfl
      refine ⟨upd ρ (base + k) ⟨w.heap.size, 0, s, xs.length, cap⟩, ?_, hS.allocUpd _ _ _ rfl hk _ ?_, hx⟩
      · have := RV.os (ρ := upd ρ (base + k) ⟨w.heap.size, 0, s, xs.length, cap⟩) (w := w.alloc (.cells cs e)) (base + k) 0 xs.length ⟨w.heap.size, 0, s, xs.length, cap⟩ (some ⟨w.heap.size, 0, none⟩) (by rw [upd_at, if_pos rfl]) (by simp) hc (fun _ => by simp)
        simpa using this
      · refine rowOk_of_flat (u := cs.toList.take (xs.length * s)) rfl rfl hc (alloc_new w _) (by simpa using hsz) (hF.mono fun i row j x y hi hj hr => ?_) (fun j v hv => ?_) hf
        · have := hr.ext hx
          rwa [killV_frozen _ x (hf i row j x hi hj)] at this
        · rw [List.getElem?_take] at hv
          split at hv
          · simpa using hv
          · cases hv
    · cases h
  · cases h
/-- Nothing is made, where nothing is put in. -/
theorem freshArr_none {base : Nat} {own : List Nat} {s : Nat} {out : Out} (h : freshArr base own s [] σ = some out) (hS : StoOk ρ w σ) (a : Option Addr) : Post ρ w out (.slice a 0 0) w := by
  unfold freshArr at h
  split at h
  · cases h
    exact ⟨ρ, .sl [] a 0 0 (fun _ _ => undef) (Nat.le_refl _) (fun h => by simp at h) (fun i row h => by simp at h) (fun i row j x h => by simp at h) (fun i row j x h => by simp at h), hS, Ext.refl _ _ _⟩
  · rename_i k
    split at h
    · rename_i hk
      cases h
      have hd : (del ρ [base + k]) (base + k) = none := by rw [del_at, if_pos (by simp)]
      refine ⟨del ρ [base + k], .osn _ a hd, ?_, Ext.giveUp ρ w [base + k]⟩
      refine hS.put (Ext.giveUp ρ w [base + k]) (base + k) (.arr s []) ?_ (fun u k' hu => ?_) (fun u u' k1 k2 h1 h2 he => ?_) (fun u k' hu => ?_) (fun _ _ _ _ _ => rfl)
      · rw [hd]
        exact (rfl : ([] : List (List AV)) = [])
      · exact hS.len u k' (del_some hu).1
      · exact hS.inj u u' k1 k2 (del_some h1).1 (del_some h2).1 he
      · exact ⟨hS.blk u k' (del_some hu).1, hS.apart u k' (del_some hu).1⟩
    · cases h
  · cases h
theorem madeCells_get (z : Array Value) (n q : Nat) (hq : q < n) (hz : 0 < z.size) : (madeCells z n)[q]? = z[q % z.size]? := by
  unfold madeCells
  have h1 : q % z.size < z.size := Nat.mod_lt q hz
  simp [hq, h1]
theorem flat_made {z : Array Value} {s n m : Nat} (hz : z.size = s) (hs : 0 < s) (hn : n ≤ m) : Flat ρ w s (List.replicate n (z.toList.map leaf)) ((madeCells z (m * s)).toList.take (n * s)) := by
  have hsub : n * s ≤ m * s := Nat.mul_le_mul_right s hn
  refine ⟨by rw [List.length_take, List.length_replicate, Array.length_toList, size_madeCells, Nat.min_eq_left hsub], fun i row hi => ?_⟩
  rw [List.getElem?_replicate] at hi
  split at hi
  · rename_i hlt
    cases hi
    have h2 : i * s + s ≤ n * s := by rw [← Nat.succ_mul]; exact Nat.mul_le_mul_right s hlt
    have e0 : (madeCells z (m * s)).toList.length = m * s := by rw [Array.length_toList, size_madeCells]
    refine ⟨by rw [List.length_take, List.length_drop, List.length_take, e0, Nat.min_eq_left hsub, List.length_map, Array.length_toList, hz]; omega, fun j x y hj hy => ?_⟩
    rw [List.getElem?_take] at hy
    split at hy
    · rename_i hjs
      rw [List.getElem?_drop, List.getElem?_take] at hy
      split at hy
      · rename_i hlt2
        simp only [Array.getElem?_toList] at hy
        rw [madeCells_get z _ _ (by omega) (by omega), hz] at hy
        have e2 : (i * s + j) % s = j := by rw [Nat.mul_comm, Nat.mul_add_mod, Nat.mod_eq_of_lt hjs]
        rw [e2] at hy
        exact (leafs_ok z.toList).2 j x y hj (by simpa using hy)
      · cases hy
    · cases hy
  · cases hi
theorem froz_replicate {n : Nat} {z : List AV} (hz : z.all frozen = true) : froz (List.replicate n z) := fun i row j x hi hj => by
  rw [List.getElem?_replicate] at hi
  split at hi
  · cases hi
    exact List.all_eq_true.1 hz x (List.mem_of_getElem? hj)
  · cases hi
theorem makeSliceA_ok {base : Nat} {own : List Nat} {t : TypeId} {l c : AV} {L C : Value} {out : Out} (h : makeSliceA P base own t l c σ = some out) (hS : StoOk ρ w σ) (hl : RV ρ w l L) (hc : RV ρ w c C) :
    ∃ v w', (Instr.makeSlice t L C).run P w = .ok v w' ∧ Post ρ w out v w' := by
  unfold makeSliceA at h
  split at h
  · rename_i e k1 n k2 m hu
    cases hl
    cases hc
    replace h := Option.bind_eq_some_iff.1 h
    obtain ⟨⟨s, z⟩, hq, h⟩ := h
    split at h
    · rename_i hcond
      obtain ⟨h0, hnm, hm⟩ := hcond
      obtain ⟨i, zv, hi, hzv, hzrun, _, e1, e2, hzs, hs0, hzf, hbytes, _⟩ := elemA_ok hq
      simp only at e1 e2
      subst e1
      subst e2
      unfold LIM at hm
      have hb1 : (i.bytes : Int) * m ≤ 281474976710656 := by
        have h1 : (i.bytes : Int) * m ≤ 1048576 * m := Int.mul_le_mul_of_nonneg_right (by omega) (by omega)
        omega
      have hrun := run_make (P := P) w t e i zv hu hi hzv k1 k2 n m h0 hnm hb1 (by omega)
      refine ⟨_, _, hrun, ?_⟩
      have hnn : (List.replicate n.toNat (zv.cells.toList.map leaf)).length = n.toNat := by simp
      have := freshArr_ok h hS (madeCells zv.cells (m.toNat * i.size)) e m.toNat (by rw [hnn]; exact flat_made hzs hs0 (by omega)) (froz_replicate hzf) (by rw [hnn]; omega) (by rw [size_madeCells]; exact Nat.le_refl _)
      rwa [hnn] at this
    · cases h
  · cases h
theorem freezeLL_ok (hS : StoOk ρ w σ) {TS : List Nat} {s : Nat} : ∀ {xs xs' : List (List AV)} {u : List Value} {ts : List Nat}, freezeLL σ xs = some (xs', ts) → Flat ρ w s xs u → (∀ t ∈ ts, t ∈ TS) → Flat (del ρ TS) w s xs' u ∧ froz xs'
  | [], xs', u, ts, h, hF, hsub => by
    cases h
    have : u = [] := List.eq_nil_of_length_eq_zero (by rw [hF.1]; simp)
    subst this
    exact ⟨Flat.nil', fun i row j x hi => by simp at hi⟩
  | row :: r, xs', u, ts, h, hF, hsub => by
    simp only [freezeLL] at h
    replace h := Option.bind_eq_some_iff.1 h
    obtain ⟨⟨row', t1⟩, h1, h⟩ := h
    replace h := Option.bind_eq_some_iff.1 h
    obtain ⟨⟨r', t2⟩, h2, h⟩ := h
    cases h
    have hrow := hF.2 0 row rfl
    rw [Nat.zero_mul, List.drop_zero] at hrow
    have hrest : Flat ρ w s r (u.drop s) := by simpa using hF.drop 1
    obtain ⟨a1, a2⟩ := freezeL_ok hS (TS := TS) h1 hrow (fun t ht => hsub t (by simp [ht]))
    obtain ⟨b1, b2⟩ := freezeLL_ok hS (TS := TS) h2 hrest (fun t ht => hsub t (by simp [ht]))
    have hl : row'.length = s := by
      have h3 := hF.len (i := 0) (row := row) rfl
      have h4 := hrow.1
      have h5 := a1.1
      omega
    refine ⟨?_, fun i row j x hi hj => ?_⟩
    · have := (Flat.one a1 hl).append b1
      rw [List.take_append_drop] at this
      exact this
    · cases i with
      | zero => simp at hi; subst hi; exact a2 x (List.mem_of_getElem? hj)
      | succ i => exact b2 i row j x (by simpa using hi) hj
theorem fillRows_ok (s : Nat) : ∀ (ps : List (Nat × AV)) (vs : List (Nat × Value)) (xs : List (List AV)) (zs : Array Value) (out : List (List AV)), Flat ρ w s xs zs.toList →
    (ps.length = vs.length ∧ ∀ (i : Nat) p v, ps[i]? = some p → vs[i]? = some v → p.1 = v.1 ∧ RV ρ w p.2 v.2) → fillRows s xs ps = some out → ∃ zs', Instr.fill (fun i => some (i * s, s)) zs vs = some zs' ∧ Flat ρ w s out zs'.toList ∧ out.length = xs.length
  | [], vs, xs, zs, out, hz, hp, h => by
    cases vs with
    | nil => simp [fillRows] at h; subst h; exact ⟨zs, rfl, hz, rfl⟩
    | cons v r => have := hp.1; simp at this
  | (i, x) :: r, vs, xs, zs, out, hz, hp, h => by
    cases vs with
    | nil => have := hp.1; simp at this
    | cons v vs =>
      obtain ⟨i', v⟩ := v
      simp only [fillRows] at h
      split at h
      · rename_i hc
        obtain ⟨hbx, hi, hcl⟩ := hc
        obtain ⟨h1, h2⟩ := hp.2 0 _ _ rfl rfl
        simp only at h1 h2
        subst h1
        obtain ⟨hcells, _⟩ := h2.cells hbx
        have hvs : v.cells.size = s := by have := hcells.1; simp at this; omega
        have hle : i * s + s ≤ zs.size := by
          have h3 := hz.1
          simp at h3
          rw [h3, ← Nat.succ_mul]
          exact Nat.mul_le_mul_right s hi
        have hset := hz.set (i := i) hcells hcl hi
        obtain ⟨zs', h3, h4, h5⟩ := fillRows_ok s r vs (xs.set i (cellsA x)) (v.cells.zipIdx.foldl (fun (cs : Array Value) (x : Value × Nat) => cs.setIfInBounds (i * s + x.2) x.1) zs) out (by
          rw [fill_cells zs v.cells (i * s) (by omega), hvs, ← Nat.succ_mul]
          exact hset) ⟨by have := hp.1; simpa using this, fun i p v h3 h4 => hp.2 (i + 1) p v (by simpa using h3) (by simpa using h4)⟩ h
        refine ⟨zs', ?_, h4, by rw [h5, List.length_set]⟩
        unfold Instr.fill
        simp only
        rw [if_neg (by simp [hvs]; omega)]
        exact h3
      · cases h
theorem buildSliceA_ok {base : Nat} {own : List Nat} {t : TypeId} {len : Nat} {ps : List (Nat × AV)} {vs : Array (Nat × Value)} {out : Out} (h : buildSliceA P base own t len ps σ = some out) (hS : StoOk ρ w σ)
    (hp : ps.length = vs.toList.length ∧ ∀ (i : Nat) p v, ps[i]? = some p → vs.toList[i]? = some v → p.1 = v.1 ∧ RV ρ w p.2 v.2) : ∃ v w', (Instr.buildSlice t len vs).run P w = .ok v w' ∧ Post ρ w out v w' := by
  unfold buildSliceA at h
  by_cases hcl : own = [CLIP]
  · rw [if_pos hcl] at h
    split at h
    case h_2 => cases h
    split at h
    case isFalse => cases h
    rename_i hl
    subst hl
    split at h
    case h_2 => cases h
    rename_i e hu
    obtain ⟨q, hq, rfl⟩ := Option.map_eq_some_iff.1 h
    obtain ⟨i, zv, hi, hzv, hzrun, hrun, e1, e2, hzs, hs0, hzf, _, _⟩ := elemA_ok hq
    have hvs : vs.toList = [] := List.eq_nil_of_length_eq_zero hp.1.symm
    have hvs2 : vs = #[] := Array.ext' (by simpa using hvs)
    subst hvs2
    have hr : (Instr.buildSlice t 0 #[]).run P w = .ok (.slice (some ⟨w.heap.size, 0, none⟩) 0 0) (w.alloc (.cells #[] e)) := by
      simp [Instr.buildSlice, run_underlying hu, hrun, Instr.fill, newRow, Array.range_zero']
    refine ⟨_, _, hr, ?_⟩
    obtain ⟨ρ', h1, h2, h3⟩ := freshArr_ok (base := base) (own := []) (s := i.size) (xs := []) rfl hS #[] e 0 ⟨by simp, fun i row h => by simp at h⟩ (fun i row j x h => by simp at h) (Nat.le_refl _) (by simp)
    exact ⟨ρ', .cl [] _ (.sl [] _ 0 0 (fun _ _ => undef) (Nat.le_refl _) (fun h => by simp at h) (fun i row h => by simp at h) (fun i row j x h => by simp at h) (fun i row j x h => by simp at h)), h2, h3⟩
  rw [if_neg hcl] at h
  split at h
  · rename_i e hu
    replace h := Option.bind_eq_some_iff.1 h
    obtain ⟨⟨s, z⟩, hq, h⟩ := h
    split at h
    · rename_i hlen
      replace h := Option.bind_eq_some_iff.1 h
      obtain ⟨xs, hxs, h⟩ := h
      replace h := Option.bind_eq_some_iff.1 h
      obtain ⟨⟨fx, fts⟩, hfz, h⟩ := h
      obtain ⟨o1, ho1, rfl⟩ := Option.map_eq_some_iff.1 h
      obtain ⟨i, zv, hi, hzv, hzrun, hrun, e1, e2, hzs, hs0, hzf, _, _⟩ := elemA_ok hq
      simp only at e1 e2
      subst e1
      subst e2
      simp only at hlen hxs ho1
      have hinit : Flat ρ w i.size (List.replicate len (zv.cells.toList.map leaf)) (madeCells zv.cells (len * i.size)).toList := by
        have := flat_made (ρ := ρ) (w := w) (n := len) (m := len) hzs hs0 (Nat.le_refl _)
        rwa [List.take_of_length_le (by simp [size_madeCells])] at this
      obtain ⟨zs', hfill, hF, hol⟩ := fillRows_ok i.size ps vs.toList _ (madeCells zv.cells (len * i.size)) xs hinit hp hxs
      obtain ⟨hF2, hfr⟩ := freezeLL_ok hS (TS := fts) hfz hF (fun t ht => ht)
      have hxl : xs.length = len := by rw [hol]; simp
      have hfl : fx.length = len := by
        have h1 := hF2.1
        have h2 := hF.1
        rw [h2] at h1
        have := Nat.eq_of_mul_eq_mul_right hs0 h1
        omega
      have hsz : zs'.size = len * i.size := by have := hF.1; simp at this; rw [this, hxl]
      have hr : (Instr.buildSlice t len vs).run P w = .ok (.slice (some ⟨w.heap.size, 0, none⟩) len len) (w.alloc (.cells zs' e)) := by
        have hle : ¬ len * i.size > 2 ^ 24 := by omega
        by_cases hl0 : len * i.size = 0
        · have hlen0 : len = 0 := by
            rcases Nat.mul_eq_zero.1 hl0 with h1 | h1
            · exact h1
            · omega
          have hfill' : Instr.fill (fun q => some (q * i.size, i.size)) #[] vs.toList = some zs' := by
            rw [← hfill]
            congr 1
            apply Array.ext'
            have : (madeCells zv.cells (len * i.size)).toList = [] := List.eq_nil_of_length_eq_zero (by simp [size_madeCells, hl0])
            rw [this]
          subst hlen0
          simp [Instr.buildSlice, run_underlying hu, hrun, hfill', newRow, Array.range_zero']
        · have hfill' : Instr.fill (fun q => some (q * i.size, i.size)) (Array.map (fun x => zv.cells[x % zv.cells.size]!) (Array.range (len * i.size))) vs.toList = some zs' := hfill
          simp [Instr.buildSlice, run_underlying hu, hrun, hle, hl0, hzrun, hfill', newRow]
      refine ⟨_, _, hr, ?_⟩
      have hpost := freshArr_ok ho1 (hS.giveUp fts) zs' e len (by rw [hfl, List.take_of_length_le (by simp [hsz])]; exact hF2) hfr (show fx.length ≤ len from by omega) (by rw [hsz]; exact Nat.le_refl _)
      rw [hfl] at hpost
      obtain ⟨ρ', h1, h2, h3⟩ := hpost
      exact ⟨ρ', h1, h2, (Ext.giveUp ρ w fts).trans h3⟩
    · cases h
  · cases h
theorem splice_at (L v : List Value) (b a n j : Nat) (h : a + v.length ≤ n) (hn : b + n ≤ L.length) (hj : j < n) :
    (((L.drop b).take n).take a ++ v ++ ((L.drop b).take n).drop (a + v.length))[j]? = (L.take (b + a) ++ v ++ L.drop (b + a + v.length))[b + j]? := by
  have e1 : (((L.drop b).take n).take a).length = a := by rw [List.length_take, List.length_take, List.length_drop]; omega
  have e2 : (L.take (b + a)).length = b + a := by rw [List.length_take]; omega
  rw [List.append_assoc, List.append_assoc]
  by_cases hja : j < a
  · rw [List.getElem?_append_left (by omega), List.getElem?_append_left (by omega), List.getElem?_take, if_pos hja, List.getElem?_take, if_pos hj, List.getElem?_drop, List.getElem?_take, if_pos (by omega)]
  · have l1 := List.getElem?_append_right (l₁ := ((L.drop b).take n).take a) (l₂ := v ++ ((L.drop b).take n).drop (a + v.length)) (i := j) (by omega)
    have l2 := List.getElem?_append_right (l₁ := L.take (b + a)) (l₂ := v ++ L.drop (b + a + v.length)) (i := b + j) (by omega)
    rw [l1, l2, e1, e2, show b + j - (b + a) = j - a from by omega]
    clear l1 l2
    by_cases hv : j - a < v.length
    · rw [List.getElem?_append_left hv, List.getElem?_append_left hv]
    · rw [List.getElem?_append_right (by omega), List.getElem?_append_right (by omega), List.getElem?_drop, List.getElem?_drop, List.getElem?_take, if_pos (by omega), List.getElem?_drop]
      congr 1
      omega
theorem storeA_ok {t : TypeId} {p x : AV} {Y V : Value} {out : Out} (h : storeA P t σ p x = some out) (hS : StoOk ρ w σ) (hp : RV ρ w p Y) (hx : RV ρ w x V) :
    ∃ w', (Instr.storeAt t Y V).run P w = .ok () w' ∧ Post ρ w out undef w' := by
  unfold storeA at h
  split at h
  · rename_i hbx
    replace h := Option.bind_eq_some_iff.1 h
    obtain ⟨s, hs, h⟩ := h
    obtain ⟨i, hi, rfl, hrun⟩ := esz_ok hs
    split at h
    · rename_i hcl
      obtain ⟨hcells, hone⟩ := hx.cells hbx
      have hvs : V.cells.size = i.size := by have := hcells.1; simp at this; omega
      have hone' : ∀ v ∈ V.cells.toList, v.oneCell' = true := fun v hv => by
        rw [Array.all_eq_true'] at hone
        exact hone v (by simpa using hv)
      have run : ∀ {k : Blk} {off : Nat} {cur : Array Value} {e : TypeId}, w.heap[k.b]? = some (.cells cur e (0, 0)) → off + V.cells.size ≤ cur.size →
          (Instr.storeAt t (.pointer (some ⟨k.b, off, none⟩)) V).run P w = .ok () (w.setRow k.b (cur.toList.take off ++ V.cells.toList ++ cur.toList.drop (off + V.cells.size)).toArray) := fun {k off cur e} hb hle => by
        have h1 := run_storeCells_at P k.b off e V.cells.toList 0 cur w hb (by simpa using hle) hone'
        simp only [Nat.add_zero, Array.length_toList] at h1
        simp [Instr.storeAt, Instr.sureAddr, storeVar, hrun, hvs]
        simpa [hvs] using h1
      split at h
      · rename_i tk ti tj
        cases hp with
        | pt _ _ _ k ht =>
          split at h
          · rename_i row hσ
            split at h
            · rename_i hc
              cases h
              obtain ⟨rfl, hjl, _⟩ := hc
              obtain ⟨k', hg, ho, cs, e, hb, hcs⟩ := hS.row tk _ hσ
              rw [ht] at hg
              cases hg
              have hlen : row.length ≤ cs.size := by
                rcases Nat.eq_zero_or_pos row.length with h0 | h0
                · omega
                · obtain ⟨y, hy, _⟩ := hcs (row.length - 1) _ (List.getElem?_eq_getElem (by omega))
                  have := (Array.getElem?_eq_some_iff.1 hy).1
                  omega
              have e0 : (k.o + 0) * k.sz + tj = tj := by rw [ho]; simp
              rw [e0]
              obtain ⟨h1, h2, h3⟩ := setRow_ok hS ht hb (cs.toList.take tj ++ V.cells.toList ++ cs.toList.drop (tj + V.cells.size)).toArray (.box (splice row tj (cellsA x))) (fun hv => by
                refine ⟨k, rfl, ho, _, e, setRow_heap w k.b cs _ e _ hb, fun j y hj => ?_⟩
                have hrow : RVs ρ w row (cs.toList.take row.length) := ⟨by simp [hlen], fun j x y h1 h2 => by
                  obtain ⟨y', hy', hr⟩ := hcs j x h1
                  rw [List.getElem?_take] at h2
                  split at h2
                  · have : cs[j]? = some y := by simpa using h2
                    rw [this] at hy'
                    cases hy'
                    exact hr
                  · cases h2⟩
                have hsp := hrow.splice tj hcells
                obtain ⟨u, hu, hr⟩ := hsp.get hj
                refine ⟨u, ?_, hv _ _ hr⟩
                have hj2 : j < row.length := by
                  have h5 := (List.getElem?_eq_some_iff.1 hj).1
                  unfold splice at h5
                  simp at h5
                  omega
                simp only [List.getElem?_toArray]
                have hvl : V.cells.toList.length = (cellsA x).length := by have := hcells.1; omega
                have := splice_at cs.toList V.cells.toList 0 tj row.length j (by omega) (by simpa using hlen) hj2
                simp only [List.drop_zero, Nat.zero_add, Array.length_toList] at this
                simp only [Array.length_toList] at hu ⊢
                exact this.symm.trans hu)
              exact ⟨_, run (k := k) hb (by omega), ρ, .dead _, h1, h2⟩
            · cases h
          · rename_i sz xs hσ
            replace h := Option.bind_eq_some_iff.1 h
            obtain ⟨⟨fx, fts⟩, hfz, h⟩ := h
            split at h
            · cases h
            · rename_i hnk
              split at h
              · rename_i row hrow
                split at h
                · rename_i hjl
                  cases h
                  have hnk' : tk ∉ fts := by simpa using hnk
                  obtain ⟨hfc, hff⟩ := freezeL_ok hS (TS := fts) hfz hcells (fun t ht => ht)
                  have hS1 := hS.giveUp fts
                  have ht1 : (del ρ fts) tk = some k := by rw [del_at, if_neg hnk']; exact ht
                  have hk := hS1.row tk _ (show (giveUp fts σ)[tk]? = some (.arr sz xs) from by rw [giveUp_get, hσ]; simp [hnk', killR])
                  rw [ht1] at hk
                  obtain ⟨hksz, cs, e, hb, hsz, hkn, hkc, hF, hf⟩ := flat_of_row hk
                  have hil : ti < xs.length := (List.getElem?_eq_some_iff.1 hrow).1
                  have hrl := hF.len hrow
                  have hfl : fx.length = (cellsA x).length := by have h1 := hfc.1; have h2 := hcells.1; omega
                  have hVl : V.cells.size = (cellsA x).length := by have := hcells.1; simp at this; omega
                  have hb3 : (k.o + ti) * k.sz + k.sz ≤ cs.size := by
                    have h1 : (k.o + ti) * k.sz + k.sz ≤ (k.o + k.cap) * k.sz := by rw [← Nat.succ_mul]; exact Nat.mul_le_mul_right _ (by omega)
                    omega
                  have hbound : (k.o + ti) * k.sz + tj + V.cells.size ≤ cs.size := by omega
                  obtain ⟨h1, h2, h3⟩ := setRow_ok hS1 ht1 hb (cs.toList.take ((k.o + ti) * k.sz + tj) ++ V.cells.toList ++ cs.toList.drop ((k.o + ti) * k.sz + tj + V.cells.size)).toArray (.arr sz (xs.set ti (splice row tj fx))) (fun hv => by
                    obtain ⟨hz, hn, hc, cs2, e2, hb2, hsz2, hr2⟩ := hk
                    rw [hb] at hb2
                    cases hb2
                    refine ⟨hz, by rw [List.length_set]; exact hn, hc, _, e, setRow_heap w k.b cs _ e _ hb, by simp; omega, fun i' row' hi' => ?_⟩
                    rw [List.getElem?_set] at hi'
                    split at hi'
                    · rename_i hii
                      subst hii
                      cases hi'
                      refine ⟨by unfold splice; simp; omega, fun j y hj => ?_⟩
                      have hold := (hr2 ti row hrow).2
                      have hrv : RVs (del ρ fts) w row ((cs.toList.drop ((k.o + ti) * k.sz)).take k.sz) := ⟨by rw [hrl, List.length_take, List.length_drop]; simp; omega, fun j x y hj hy => by
                        obtain ⟨_, y', hy', hr⟩ := hold j x hj
                        rw [List.getElem?_take] at hy
                        split at hy
                        · rw [List.getElem?_drop] at hy
                          simp only [Array.getElem?_toList] at hy
                          rw [hy] at hy'
                          cases hy'
                          exact hr
                        · cases hy⟩
                      have hsp := hrv.splice tj hfc
                      obtain ⟨u, hu, hru⟩ := hsp.get hj
                      have hjlt : j < row.length := by
                        have h5 := (List.getElem?_eq_some_iff.1 hj).1
                        unfold splice at h5
                        simp at h5
                        omega
                      refine ⟨?_, u, ?_, hv _ _ hru⟩
                      · unfold splice at hj
                        rw [List.append_assoc, List.getElem?_append] at hj
                        split at hj
                        · rw [List.getElem?_take] at hj
                          split at hj
                          · exact (hold j y hj).1
                          · cases hj
                        · rw [List.getElem?_append] at hj
                          split at hj
                          · exact hff y (List.mem_of_getElem? hj)
                          · rw [List.getElem?_drop] at hj
                            exact (hold _ y hj).1
                      · simp only [List.getElem?_toArray]
                        have := splice_at cs.toList V.cells.toList ((k.o + ti) * k.sz) tj k.sz j (by simp; omega) (by simp; omega) (by omega)
                        simp only [Array.length_toList] at this hu
                        rw [← hu, this]
                    · rename_i hii
                      refine ⟨(hr2 i' row' hi').1, fun j y hj => ?_⟩
                      obtain ⟨h5, u, h6, h7⟩ := (hr2 i' row' hi').2 j y hj
                      refine ⟨h5, u, ?_, hv _ _ h7⟩
                      have hjs : j < k.sz := by rw [← (hr2 i' row' hi').1]; exact (List.getElem?_eq_some_iff.1 hj).1
                      rw [← h6]
                      simp only [List.getElem?_toArray]
                      rw [List.append_assoc, List.getElem?_append, List.length_take, Array.length_toList]
                      rcases Nat.lt_or_gt_of_ne hii with hlt | hgt
                      · have h8 : (k.o + ti) * k.sz + k.sz ≤ (k.o + i') * k.sz := by rw [← Nat.succ_mul]; exact Nat.mul_le_mul_right _ (by omega)
                        rw [if_neg (by omega), List.getElem?_append, Array.length_toList, if_neg (by omega), List.getElem?_drop]
                        simp only [Array.getElem?_toList]
                        congr 1
                        omega
                      · have h8 : (k.o + i') * k.sz + k.sz ≤ (k.o + ti) * k.sz := by rw [← Nat.succ_mul]; exact Nat.mul_le_mul_right _ (by omega)
                        rw [if_pos (by omega), List.getElem?_take, if_pos (by omega)]
                        simp)
                  refine ⟨_, run (k := k) hb hbound, del ρ fts, .dead _, h1, ?_⟩
                  have := (Ext.giveUp ρ w fts).trans h2
                  simpa using this
                · cases h
              · cases h
          · cases h
      · cases h
    · cases h
  · cases h
end
end Go.Proofs.Ytnmnaomfohlmcaa.E
