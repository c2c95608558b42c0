/- slices.Sort of integers: the library's own text comes to what sortP says, whatever a row's length. -/
import Derived.Test.YtabdcfcnngnnoaaDoorS0
import Derived.Test.YtabdcfcnngnnoaaDoorE24
import Derived.Shelf.Sort.Plain
set_option linter.unusedVariables false
set_option linter.unusedSimpArgs false
namespace Go.Proofs.YtabdcfcnngnnoaaDoor.E
open Go Go.Sort
theorem merge_isort (l : List Int) : (l.mergeSort fun x y => decide (x ≤ y)) = U.isort l := by
  have hs : (l.mergeSort fun x y => decide (x ≤ y)).Pairwise (· ≤ ·) := by
    have := List.pairwise_mergeSort (le := fun x y : Int => decide (x ≤ y)) (fun a b c h1 h2 => by simp at h1 h2 ⊢; omega) (fun a b => by simp; omega) l
    exact this.imp (fun h => by simpa using h)
  exact sorted_unique ((List.mergeSort_perm l _).trans (isort_perm l).symm) hs (isort_sorted l)
theorem cell_at {w : World} {b k : Nat} {cs : Array Value} {e : TypeId} {fr : Nat × Nat} (hb : w.heap[b]? = some (.cells cs e fr)) : w.cell? ⟨b, k, none⟩ = cs[k]? := by
  simp [World.cell?, hb]
theorem frozen_at {w : World} {b k : Nat} {cs : Array Value} {e : TypeId} (hb : w.heap[b]? = some (.cells cs e (0, 0))) : w.frozen? ⟨b, k, none⟩ = false := by
  simp [World.frozen?, hb]
variable {ρ : Gh} {w : World} {σ : List Row}
/-- A row of integers that one owns holds them. -/
theorem holds_row (hS : StoOk ρ w σ) {t : Nat} {l : List Int} (hrow : σ[t]? = some (.arr 1 (l.map encI))) {k : Blk} (ht : ρ t = some k) :
    k.sz = 1 ∧ k.n = l.length ∧ k.n ≤ k.cap ∧ ∃ cs e, w.heap[k.b]? = some (.cells cs e (0, 0)) ∧ (k.o + k.cap) * k.sz ≤ cs.size ∧ Holds (Value.int .i64) w k.b (k.o + 0) l.toArray := by
  have h := hS.row t _ hrow
  rw [ht] at h
  obtain ⟨h0, h1, h2, cs, e, hb, hsz, hcell⟩ := h
  refine ⟨h0, by rw [h1, List.length_map], h2, cs, e, hb, hsz, fun j hj => ?_⟩
  have hj' : j < l.length := by simpa using hj
  obtain ⟨_, hc⟩ := hcell j [goI l[j]] (by rw [List.getElem?_map, List.getElem?_eq_getElem hj']; rfl)
  obtain ⟨_, y, hy, hr⟩ := hc 0 (goI l[j]) rfl
  cases hr
  rw [h0, Nat.mul_one, Nat.add_zero] at hy
  refine ⟨?_, frozen_at hb⟩
  rw [Nat.add_zero, cell_at hb, hy]
  have e1 : l.toArray[j]! = l[j] := by
    rw [getElem!_pos l.toArray j hj]
    simp
  rw [e1]
theorem heap_put {b off n : Nat} {d : Array Int} {os : Array Obj} {w' : World} (hw : w' = grow (putRow (Value.int .i64) (Sort.ahead w n) b off d) os) {c : Nat} (hc : c < w.heap.size) : w'.heap[c]? = if b = c then (w.heap[c]?).map (onCells (putCells (Value.int .i64) off d)) else w.heap[c]? := by
  subst hw
  rw [heap_grow_old _ _ (by simpa using hc)]
  show (w.heap.modify b _)[c]? = _
  rw [Array.getElem?_modify]
theorem put_row (hS : StoOk ρ w σ) {t : Nat} {l m : List Int} (hrow : σ[t]? = some (.arr 1 (l.map encI))) {k : Blk} (ht : ρ t = some k) (hm : m.length = l.length) {n : Nat} {os : Array Obj} {w' : World} (hw : w' = grow (putRow (Value.int .i64) (Sort.ahead w n) k.b (k.o + 0) m.toArray) os) :
    StoOk ρ w' (σ.set t (.arr 1 (m.map encI))) ∧ Ext ρ w ρ w' [] := by
  obtain ⟨h0, h1, h2, cs, e, hb, hsz, _⟩ := holds_row hS hrow ht
  have hkb := hS.blk t k ht
  have hsize : w.heap.size ≤ w'.heap.size := by subst hw; simp
  have hx : Ext ρ w ρ w' [] := ⟨by subst hw; rfl, by subst hw; rfl, by subst hw; rfl, hsize, fun b hbl hno => by
    rw [heap_put hw hbl, if_neg]
    intro e
    exact hno ⟨t, k, ht, e⟩, fun b h => .inl h, rfl, fun _ _ => rfl⟩
  refine ⟨?_, hx⟩
  have h := hS.put hx t (.arr 1 (m.map encI)) ?_ hS.len hS.inj (fun u ku hu => ⟨Nat.lt_of_lt_of_le (hS.blk u ku hu) hsize, hS.apart u ku hu⟩) (fun u ku hut _ hu => by
    rw [heap_put hw (hS.blk u ku hu), if_neg]
    intro e
    exact hut (hS.inj u t ku k hu ht e.symm))
  · simpa [giveUp] using h
  · rw [ht]
    refine ⟨h0, by rw [List.length_map, hm, h1], h2, putCells (Value.int .i64) (k.o + 0) m.toArray cs, e, ?_, ?_, fun i row hi => ?_⟩
    · rw [heap_put hw hkb, if_pos rfl, hb]; rfl
    · simpa [putCells] using hsz
    · rw [List.getElem?_map] at hi
      obtain ⟨x, hx1, rfl⟩ := Option.map_eq_some_iff.1 hi
      obtain ⟨hil, hxe⟩ := List.getElem?_eq_some_iff.1 hx1
      refine ⟨h0.symm, fun j z hj => ?_⟩
      cases j with
      | succ j => simp [encI] at hj
      | zero =>
        have hz : z = goI x := by simpa [encI] using hj.symm
        subst hz
        refine ⟨rfl, .int .i64 x, ?_, .v _⟩
        have hlt : k.o + i < cs.size := by
          have : (k.o + k.cap) * k.sz ≤ cs.size := hsz
          rw [h0, Nat.mul_one] at this
          omega
        rw [h0, Nat.mul_one, Nat.add_zero]
        simp only [putCells, Array.getElem?_mapIdx, Nat.add_zero]
        rw [Array.getElem?_eq_getElem hlt, Option.map_some, if_pos ⟨by omega, by simp; exact hil⟩, show k.o + i - k.o = i from by omega, getElem!_pos _ _ (by simpa using hil)]
        simp [hxe]
/-- What sortP says of a function that sorts. -/
theorem sortP_calls {P : Program} {f : FuncId}
    (hsort : ∀ (blk off cap : Nat) (zs : List Int) (w : World), Holds (Value.int .i64) w blk off zs.toArray → blk < w.heap.size → zs.length < 4611686018427387904 →
      Calls P f #[.slice (some ⟨blk, off, none⟩) zs.length cap] w fun e w' => e = .returned (.tuple #[]) ∧ ∃ n os, w' = grow (putRow (Value.int .i64) (Sort.ahead w n) blk off (zs.mergeSort fun x y => decide (x ≤ y)).toArray) os)
    (hnone : ∀ (p : Option Addr) (cap : Nat) (w : World), Calls P f #[.slice p 0 cap] w fun e w' => e = .returned (.tuple #[]) ∧ w' = w)
    (args : List AV) (sto : List Row) (r : AV) (s1 : List Row) (mv : List Nat) (h : sortP args sto = some (r, s1, mv)) (ρ : Gh) (w : World) (vs : Array Value) (hS : StoOk ρ w sto) (hv : RVs ρ w args vs.toList) :
    Calls P f vs w fun e w' => ∃ v ρ', e = .returned v ∧ RV ρ' w' r v ∧ StoOk ρ' w' s1 ∧ Ext ρ w ρ' w' (mv ++ List.range' sto.length (s1.length - sto.length)) := by
  have htup : ∀ w' : World, RV ρ w' (.tup []) (.tuple #[]) := fun w' => .tup [] #[] rfl (fun j x y h1 _ => by simp at h1)
  unfold sortP at h
  split at h
  · cases h
    obtain ⟨y, rs, hvs, h1, h2⟩ := hv.head
    have hrs : rs = [] := List.eq_nil_of_length_eq_zero (by rw [← h2.1]; rfl)
    subst hrs
    generalize hnil : ([] : List (List AV)) = l at h1
    cases h1 with
    | sl _ a c sz U hc ha hrow hcell hsub =>
      subst hnil
      have hvs' : vs = #[.slice a 0 c] := by cases vs; simp_all
      rw [hvs']
      refine (hnone a c w).mono ?_
      rintro e w' ⟨rfl, rfl⟩
      exact ⟨_, ρ, rfl, htup _, hS, Ext.refl ρ _ _⟩
  · rename_i t len
    split at h
    · rename_i xs hrow
      split at h
      · rename_i hc
        obtain ⟨l, hl, e⟩ := Option.map_eq_some_iff.1 h
        cases e
        have hxs := intL_eq xs l hl
        subst hxs
        obtain ⟨hlen, hsmall⟩ := hc
        rw [List.length_map] at hlen hsmall
        obtain ⟨y, rs, hvs, h1, h2⟩ := hv.head
        have hrs : rs = [] := List.eq_nil_of_length_eq_zero (by rw [← h2.1]; rfl)
        subst hrs
        have hzero : l.length = 0 → sto.set t (.arr 1 ((U.isort l).map encI)) = sto := fun h0 => by
          have hl0 : l = [] := List.eq_nil_of_length_eq_zero h0
          subst hl0
          apply List.ext_getElem?
          intro j
          rw [List.getElem?_set]
          split
          · rename_i e
            subst e
            split
            · exact hrow.symm
            · rename_i hge
              rw [List.getElem?_eq_none (by omega)]
          · rfl
        cases h1 with
        | osn t a ht =>
          have hvs' : vs = #[.slice a 0 0] := by cases vs; simp_all
          rw [hvs']
          refine (hnone a 0 w).mono ?_
          rintro e w' ⟨rfl, rfl⟩
          exact ⟨_, ρ, rfl, htup _, by rw [hzero hlen.symm]; exact hS, Ext.refl ρ _ _⟩
        | os t off len k a ht hn hcap ha =>
          have hvs' : vs = #[.slice a len (k.cap - 0)] := by cases vs; simp_all
          rw [hvs']
          by_cases h0 : l.length = 0
          · rw [hlen, h0]
            refine (hnone a _ w).mono ?_
            rintro e w' ⟨rfl, rfl⟩
            exact ⟨_, ρ, rfl, htup _, by rw [hzero h0]; exact hS, Ext.refl ρ _ _⟩
          · obtain ⟨g0, g1, g2, cs, e, hb, hsz, hH⟩ := holds_row hS hrow ht
            have ha' := ha (by omega)
            rw [g0, Nat.mul_one] at ha'
            rw [ha', hlen]
            refine (hsort k.b (k.o + 0) _ l w hH (hS.blk t k ht) (by omega)).mono ?_
            rintro e w' ⟨rfl, n, os, hw⟩
            rw [merge_isort] at hw
            obtain ⟨q1, q2⟩ := put_row hS hrow ht (isort_len l) hw
            refine ⟨_, ρ, rfl, htup _, q1, ?_⟩
            rw [List.length_set, Nat.sub_self]
            exact q2
      · cases h
    · cases h
  · cases h
end Go.Proofs.YtabdcfcnngnnoaaDoor.E
