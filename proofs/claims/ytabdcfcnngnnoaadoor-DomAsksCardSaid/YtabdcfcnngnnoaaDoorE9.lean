/- What each operation does is what the evaluator says: append, copy, clear. -/
import Derived.Lib.AppendZerosOnto
import Derived.Test.YtabdcfcnngnnoaaDoorE3x
set_option linter.unusedVariables false
set_option linter.unusedSimpArgs false
namespace Go.Proofs.YtabdcfcnngnnoaaDoor.E
open Go
section
variable {P : Program} {o : Oper} {a : Act} {w : World} {ρ : Gh} {σ : List Row}

theorem Ext.drew (ρ : Gh) (w : World) : Ext ρ w ρ w.drew [] := ⟨rfl, rfl, rfl, Nat.le_refl _, fun _ _ _ => rfl, fun _ h => .inl h, rfl, fun _ _ => rfl⟩
theorem StoOk.drew (h : StoOk ρ w σ) : StoOk ρ w.drew σ := h.ext (Ext.drew ρ w) (fun _ _ _ => rfl)
theorem RV.drew {x : AV} {y : Value} (h : RV ρ w x y) : RV ρ w.drew x y := by have := h.ext (Ext.drew ρ w); rwa [killV_nil] at this
theorem zeroCells_size (z : Array Value) (n : Nat) : (Builtin.zeroCells z n).size = n * z.size := by simp [Builtin.zeroCells]
theorem run_grow {t u ty e e2 : TypeId} {i : TypeInfo} {z : Value} (hu : P.underlying t = some (.slice e)) (hu2 : P.underlying u = some (.slice e2)) (hi : P.info? e = some i) (hz : i.zero = some z)
    (hzs : z.cells.size = i.size) (hb : i.bytes ≤ 1048576) (hb0 : 0 < i.bytes) {base : Option Addr} {sLen sCap n c : Nat} {A : Option Addr} (hg : sCap < sLen + n) (hlim : sLen + n ≤ LIM) {old new : List Value}
    (ho : (Builtin.firstCells i.size sLen (.slice base sLen sCap)).run P w.drew = .ok old.toArray w.drew) (hn : (Builtin.firstCells i.size n (.slice A n c)).run P w.drew = .ok new.toArray w.drew) :
    ∃ (newCap : Nat) (rest : List Value), sLen + n ≤ newCap ∧ rest.length = (newCap - (sLen + n)) * i.size ∧
      (Builtin.append_ #[t, u] ty #[.slice base sLen sCap, .slice A n c]).run P w = .ok (.slice (some ⟨w.heap.size, 0, none⟩) (sLen + n) newCap) (w.drew.alloc (.cells (old ++ new ++ rest).toArray e)) := by
  unfold LIM at hlim
  have h48 : Builtin.nextslicecap (sLen + n) sCap * i.bytes ≤ 281474976710656 := growslice_fits hg (by
    have h1 : (sLen + n) * i.bytes ≤ 1000000 * 1048576 := Nat.mul_le_mul hlim hb
    omega)
  have hng : ¬ sLen + n ≤ sCap := by omega
  have h63 : ¬ (9223372036854775807 < ((sLen : Int) + (n : Int))) := by omega
  have h48' : ¬ (281474976710656 < Builtin.nextslicecap (sLen + n) sCap * i.bytes) := by omega
  have hq : (Question.appendCap (sLen + n) sCap e).forced = false := rfl
  refine ⟨(Question.appendCap (sLen + n) sCap e).cut (w.tape w.drawn (.appendCap (sLen + n) sCap e)), (Builtin.zeroCells z.cells ((Question.appendCap (sLen + n) sCap e).cut (w.tape w.drawn (.appendCap (sLen + n) sCap e)) - (sLen + n))).toList, ?_, ?_, ?_⟩
  · simp [Question.cut]
  · rw [Array.length_toList, zeroCells_size, hzs]
  · simp [Builtin.append_, run_underlying hu, run_underlying hu2, sizeOf, typeInfo, hi, Builtin.lenOf, hng, h63, h48', hq, ho, hn, zeroValue, hz, newRow]
    congr 2
    apply Array.ext'
    simp
theorem run_room {t u ty e e2 : TypeId} {i : TypeInfo} (hu : P.underlying t = some (.slice e)) (hu2 : P.underlying u = some (.slice e2)) (hi : P.info? e = some i)
    {b off sLen sCap n c : Nat} {A : Option Addr} (hg : sLen + n ≤ sCap) {new : List Value} (hn : (Builtin.firstCells i.size n (.slice A n c)).run P w = .ok new.toArray w) (hone : ∀ v ∈ new, v.oneCell' = true)
    {cur : Array Value} {e' : TypeId} (hb : w.heap[b]? = some (.cells cur e' (0, 0))) (hfit : off + sLen * i.size + new.length ≤ cur.size) :
    (Builtin.append_ #[t, u] ty #[.slice (some ⟨b, off, none⟩) sLen sCap, .slice A n c]).run P w = .ok (.slice (some ⟨b, off, none⟩) (sLen + n) sCap) (w.setRow b (cur.toList.take (off + sLen * i.size) ++ new ++ cur.toList.drop (off + sLen * i.size + new.length)).toArray) := by
  have hst := run_storeCells_at P b (off + sLen * i.size) e' new 0 cur w hb (by simpa using hfit) hone
  simp only [Nat.add_zero] at hst
  simp [Builtin.append_, run_underlying hu, run_underlying hu2, sizeOf, typeInfo, hi, Builtin.lenOf, hg, hn, add_add', hst]
theorem run_none {t u ty e e2 : TypeId} {i : TypeInfo} (hu : P.underlying t = some (.slice e)) (hu2 : P.underlying u = some (.slice e2)) (hi : P.info? e = some i)
    {base : Option Addr} {sLen sCap c : Nat} {A : Option Addr} (hg : sLen ≤ sCap) : (Builtin.append_ #[t, u] ty #[.slice base sLen sCap, .slice A 0 c]).run P w = .ok (.slice base sLen sCap) w := by
  have hf : (Builtin.firstCells i.size 0 (.slice A 0 c)).run P w = .ok #[] w := by cases A <;> simp [Builtin.firstCells, loadCells, loadCellsFrom]
  cases base <;> simp [Builtin.append_, run_underlying hu, run_underlying hu2, sizeOf, typeInfo, hi, Builtin.lenOf, hg, hf, storeCells]
theorem set_self {r : Row} {k : Nat} (h : σ[k]? = some r) : σ.set k r = σ := by
  obtain ⟨hk, rfl⟩ := List.getElem?_eq_some_iff.1 h
  exact List.set_getElem_self hk
theorem froz_append {xs ys : List (List AV)} (h : froz xs) (g : froz ys) : froz (xs ++ ys) := fun i row j x hi hj => by
  rw [List.getElem?_append] at hi
  split at hi
  · exact h _ _ _ _ hi hj
  · exact g _ _ _ _ hi hj
theorem froz_take {xs : List (List AV)} (n : Nat) (h : froz xs) : froz (xs.take n) := fun i row j x hi hj => by
  rw [List.getElem?_take] at hi
  split at hi
  · exact h _ _ _ _ hi hj
  · cases hi
theorem froz_drop {xs : List (List AV)} (n : Nat) (h : froz xs) : froz (xs.drop n) := fun i row j x hi hj => by
  rw [List.getElem?_drop] at hi
  exact h _ _ _ _ hi hj
/-- A token's content is laid behind a new block. -/
theorem growBlk (hS : StoOk ρ w σ) {k s : Nat} {xs : List (List AV)} {cells : List Value} {u : List Value} {e : TypeId} {cap : Nat} (hk : k < σ.length) (hF : Flat ρ w.drew s xs u) (hf : froz xs) (hu : ∀ (j : Nat) (v : Value), u[j]? = some v → cells[j]? = some v)
    (hc : xs.length ≤ cap) (hsz : cap * s ≤ cells.length) : Post ρ w ⟨.os k 0 xs.length, (giveUp [k] σ).set k (.arr s xs), [k], true⟩ (.slice (some ⟨w.heap.size, 0, none⟩) xs.length cap) (w.drew.alloc (.cells cells.toArray e)) := by
  have hx := Ext.allocUpd ρ w.drew (.cells cells.toArray e) k ⟨w.heap.size, 0, s, xs.length, cap⟩ rfl
  refine ⟨upd ρ k ⟨w.heap.size, 0, s, xs.length, cap⟩, ?_, hS.drew.allocUpd _ _ _ rfl hk _ ?_, ?_⟩
  · have := RV.os (ρ := upd ρ k ⟨w.heap.size, 0, s, xs.length, cap⟩) (w := w.drew.alloc (.cells cells.toArray e)) k 0 xs.length ⟨w.heap.size, 0, s, xs.length, cap⟩ (some ⟨w.heap.size, 0, none⟩) (by rw [upd_at, if_pos rfl]) (by simp) hc (fun _ => by simp)
    simpa using this
  · refine rowOk_of_flat (u := u) rfl rfl hc (alloc_new w.drew _) (by simpa using hsz) (hF.mono fun i row j x y hi hj hr => ?_) (fun j v hv => by simpa using hu j v hv) hf
    have := hr.ext hx
    rwa [killV_frozen _ x (hf i row j x hi hj)] at this
  · have := (Ext.drew ρ w).trans hx
    simpa using this
theorem appendO_ok {base : Nat} {own : List Nat} {t u ty e e2 : TypeId} {i : TypeInfo} {z : Value} (hu : P.underlying t = some (.slice e)) (hu2 : P.underlying u = some (.slice e2)) (hi : P.info? e = some i) (hz : i.zero = some z)
    (hzs : z.cells.size = i.size) (hs0 : 0 < i.size) (hb : i.bytes ≤ 1048576) (hb0 : 0 < i.bytes) {x y : AV} {X Y : Value} {ys : List (List AV)} {out : Out} (hS : StoOk ρ w σ) (hx : RV ρ w x X) (hy : RV ρ w y Y)
    (hl : listOf σ y = some ys) (hr : rowsOk i.size ys = true) (h : appendO base own i.size σ x ys = some out) : ∃ v w', (Builtin.append_ #[t, u] ty #[X, Y]).run P w = .ok v w' ∧ Post ρ w out v w' := by
  obtain ⟨A, c, nw, rfl, hF, hf, hfirst, hone⟩ := listOf_ok (P := P) hS hl hy hr
  obtain ⟨A', c', nw', e1, hF', hf', hfirst', hone'⟩ := listOf_ok (P := P) hS.drew hl hy.drew hr
  cases e1
  have hnl : (nw.take (ys.length * i.size)) = nw := List.take_of_length_le (by rw [hF.1]; exact Nat.le_refl _)
  have hnl' : (nw'.take (ys.length * i.size)) = nw' := List.take_of_length_le (by rw [hF'.1]; exact Nat.le_refl _)
  have hfw := hfirst ys.length (Nat.le_refl _)
  have hfd := hfirst' ys.length (Nat.le_refl _)
  rw [hnl] at hfw
  rw [hnl'] at hfd
  -- growth out of nothing
  have grow0 : ∀ {a : Option Addr}, 0 < ys.length → ys.length ≤ LIM → ∃ (newCap : Nat) (rest : List Value), ys.length ≤ newCap ∧ rest.length = (newCap - ys.length) * i.size ∧
      (Builtin.append_ #[t, u] ty #[.slice a 0 0, .slice A ys.length c]).run P w = .ok (.slice (some ⟨w.heap.size, 0, none⟩) ys.length newCap) (w.drew.alloc (.cells (nw' ++ rest).toArray e)) := fun {a} h0 hlim => by
    have := run_grow (w := w) (t := t) (u := u) (ty := ty) hu hu2 hi hz hzs hb hb0 (base := a) (sLen := 0) (sCap := 0) (n := ys.length) (c := c) (A := A) (by omega) (by omega) (old := []) (new := nw') (by cases a <;> simp [Builtin.firstCells, loadCells, loadCellsFrom]) hfd
    simpa using this
  cases hx with
  | cl xs a hsl =>
    simp only [appendO] at h
    split at h
    · rename_i hcond
      obtain ⟨hrx, h0', hlim⟩ := hcond
      by_cases h0 : 0 < ys.length
      case neg =>
        have hys : ys = [] := List.eq_nil_of_length_eq_zero (by omega)
        have hxs : xs = [] := List.eq_nil_of_length_eq_zero (by omega)
        subst hys
        subst hxs
        exact ⟨_, w, run_none hu hu2 hi (Nat.le_refl _), freshArr_none h hS a⟩
      obtain ⟨A2, c2, nx, e2', hFx, hfx, hfirstx, honex⟩ := listOf_ok (P := P) hS.drew (show listOf σ (.sl xs) = some xs from rfl) hsl.drew hrx
      have hnx : (nx.take (xs.length * i.size)) = nx := List.take_of_length_le (by rw [hFx.1]; exact Nat.le_refl _)
      have hfo := hfirstx xs.length (Nat.le_refl _)
      rw [hnx] at hfo
      obtain ⟨newCap, rest, h1, h2, h3⟩ := run_grow (w := w) (t := t) (u := u) (ty := ty) hu hu2 hi hz hzs hb hb0 (base := a) (sLen := xs.length) (sCap := xs.length) (n := ys.length) (c := c) (A := A) (by omega) hlim hfo hfd
      refine ⟨_, _, h3, ?_⟩
      have hcl : (nx ++ nw' ++ rest).length = newCap * i.size := by
        rw [List.length_append, List.length_append, hFx.1, hF'.1, h2, ← Nat.add_mul, ← Nat.add_mul]
        congr 1
        omega
      have hFa := hFx.append hF'
      have hlen : (xs ++ ys).length = xs.length + ys.length := List.length_append
      rw [← hlen] at h1 ⊢
      obtain ⟨ρ', p1, p2, p3⟩ := freshArr_ok h hS.drew (nx ++ nw' ++ rest).toArray e newCap (by
        simp only [List.take_append_of_le_length (show (xs ++ ys).length * i.size ≤ (nx ++ nw').length by rw [hFa.1]; exact Nat.le_refl _)]
        rw [List.take_of_length_le (by rw [hFa.1]; exact Nat.le_refl _)]
        exact hFa) (froz_append hfx hf') h1 (by simp only [List.size_toArray]; omega)
      refine ⟨ρ', p1, p2, ?_⟩
      have := (Ext.drew ρ w).trans p3
      simpa using this
    · cases h
  | nil a =>
    simp only [appendO] at h
    split at h
    · rename_i hlim
      rcases Nat.eq_zero_or_pos ys.length with h0 | h0
      · have hys : ys = [] := List.eq_nil_of_length_eq_zero h0
        subst hys
        exact ⟨_, w, run_none hu hu2 hi (Nat.le_refl _), freshArr_none h hS a⟩
      · obtain ⟨newCap, rest, h1, h2, h3⟩ := grow0 (a := a) h0 hlim
        refine ⟨_, _, h3, ?_⟩
        have hcl : (nw' ++ rest).length = newCap * i.size := by
          rw [List.length_append, hF'.1, h2, ← Nat.add_mul]
          congr 1
          omega
        obtain ⟨ρ', p1, p2, p3⟩ := freshArr_ok h hS.drew (nw' ++ rest).toArray e newCap (by
          simp only [List.take_append_of_le_length (show ys.length * i.size ≤ nw'.length by rw [hF'.1]; exact Nat.le_refl _), hnl']
          exact hF') hf' h1 (by simp only [List.size_toArray]; omega)
        refine ⟨ρ', p1, p2, ?_⟩
        have := (Ext.drew ρ w).trans p3
        simpa using this
    · cases h
  | osn k a ht =>
    simp only [appendO] at h
    split at h
    · rename_i sz xs hσ
      split at h
      · rename_i hsz
        subst hsz
        have hkl : k < σ.length := (List.getElem?_eq_some_iff.1 hσ).1
        have hk := hS.row k _ hσ
        rw [ht] at hk
        have hxs : xs = [] := hk
        subst hxs
        rcases Nat.eq_zero_or_pos ys.length with h0 | h0
        · have hys : ys = [] := List.eq_nil_of_length_eq_zero h0
          subst hys
          simp only [List.length_nil, Nat.add_zero, Nat.le_refl, if_true, List.append_nil, List.take_append_drop, Option.some.injEq, List.take_nil, List.drop_nil] at h
          subst h
          rw [set_self hσ]
          exact ⟨_, w, run_none hu hu2 hi (Nat.le_refl _), ρ, .osn k a ht, hS, Ext.refl _ _ _⟩
        · rw [if_neg (show ¬ (0 + 0 + ys.length ≤ ([] : List (List AV)).length) from by rw [List.length_nil]; omega)] at h
          split at h
          · rename_i hcond
            cases h
            obtain ⟨newCap, rest, h1, h2, h3⟩ := grow0 (a := a) h0 (by have := hcond.2; rwa [Nat.zero_add] at this)
            refine ⟨_, _, h3, ?_⟩
            simp only [List.drop_nil, List.nil_append, Nat.zero_add]
            exact growBlk hS hkl hF' hf' (fun j v hv => by
              rw [List.getElem?_append_left (List.getElem?_eq_some_iff.1 hv).1]; exact hv) h1 (by
              rw [List.length_append, hF'.1, h2, ← Nat.add_mul]
              exact Nat.mul_le_mul_right _ (by omega))
          · cases h
      · cases h
    · cases h
  | os k off len bk a ht hn hcap ha =>
    simp only [appendO] at h
    split at h
    · rename_i sz xs hσ
      split at h
      · rename_i hsz
        subst hsz
        have hkl : k < σ.length := (List.getElem?_eq_some_iff.1 hσ).1
        rcases Nat.eq_zero_or_pos ys.length with h0 | h0
        · have hys : ys = [] := List.eq_nil_of_length_eq_zero h0
          subst hys
          have hk := hS.row k _ hσ
          rw [ht] at hk
          obtain ⟨_, hkn, _⟩ := hk
          have hin : off + len ≤ xs.length := by omega
          simp only [List.length_nil, Nat.add_zero, hin, if_true, List.append_nil, List.take_append_drop, Option.some.injEq] at h
          subst h
          rw [set_self hσ]
          exact ⟨_, w, run_none hu hu2 hi (by omega), ρ, .os k off len bk a ht hn hcap ha, hS, Ext.refl _ _ _⟩
        · skip
          have hk := hS.row k _ hσ
          rw [ht] at hk
          obtain ⟨hksz, cs, e', hbk, hcs, hkn, hkc, hFx, hfx⟩ := flat_of_row hk
          rw [hksz] at hFx hcs
          by_cases hroom : len + ys.length ≤ bk.cap - off
          · -- there is room
            have had := ha (by omega)
            rw [hksz] at had
            subst had
            have hp1 : (bk.o + off) * i.size + len * i.size + nw.length ≤ cs.size := by
              rw [hF.1, ← Nat.add_mul, ← Nat.add_mul]
              exact Nat.le_trans (Nat.mul_le_mul_right _ (by omega)) hcs
            have hrun := run_room (w := w) (t := t) (u := u) (ty := ty) hu hu2 hi (b := bk.b) (off := (bk.o + off) * i.size) (sLen := len) (sCap := bk.cap - off) (n := ys.length) (c := c) (A := A) hroom hfw hone hbk hp1
            refine ⟨_, _, hrun, ?_⟩
            split at h
            · -- within what is told
              rename_i hwithin
              cases h
              have hln : (off + len) * i.size + nw.length ≤ bk.n * i.size := by rw [hF.1, ← Nat.add_mul]; exact Nat.mul_le_mul_right _ (by omega)
              have hbn : bk.o * i.size + bk.n * i.size ≤ cs.toList.length := by
                rw [← Nat.add_mul, Array.length_toList]; exact Nat.le_trans (Nat.mul_le_mul_right _ (by omega)) hcs
              obtain ⟨q1, q2, q3⟩ := setRow_ok hS ht hbk (cs.toList.take ((bk.o + off) * i.size + len * i.size) ++ nw ++ cs.toList.drop ((bk.o + off) * i.size + len * i.size + nw.length)).toArray (.arr i.size (xs.take (off + len) ++ ys ++ xs.drop (off + len + ys.length))) (fun hv => by
                refine rowOk_of_flat (u := ((cs.toList.drop (bk.o * i.size)).take (bk.n * i.size)).take ((off + len) * i.size) ++ nw ++ ((cs.toList.drop (bk.o * i.size)).take (bk.n * i.size)).drop ((off + len) * i.size + nw.length)) hksz (by simp; omega) hkc (setRow_heap w bk.b cs _ e' _ hbk) (by
                    rw [hksz]
                    simp only [List.size_toArray, List.length_append, List.length_take, List.length_drop, Array.length_toList]
                    omega) ?_ (fun j v hv' => ?_) (froz_append (froz_append (froz_take _ hfx) hf) (froz_drop _ hfx))
                · rw [hksz]
                  have h1 := ((hFx.take (off + len)).append hF).append (hFx.drop (off + len + ys.length))
                  have h2 : (off + len + ys.length) * i.size = (off + len) * i.size + nw.length := by rw [hF.1, ← Nat.add_mul]
                  rw [h2] at h1
                  exact h1.mono fun _ _ _ _ _ _ _ hr => hv _ _ hr
                · have hjl : j < bk.n * i.size := by
                    have h5 := (List.getElem?_eq_some_iff.1 hv').1
                    simp only [List.length_append, List.length_take, List.length_drop, Array.length_toList] at h5
                    omega
                  rw [splice_at cs.toList nw (bk.o * i.size) ((off + len) * i.size) (bk.n * i.size) j hln hbn hjl] at hv'
                  have e3 : bk.o * i.size + (off + len) * i.size = (bk.o + off) * i.size + len * i.size := by rw [← Nat.add_mul, ← Nat.add_mul, Nat.add_assoc]
                  rw [e3] at hv'
                  rw [hksz]
                  simpa using hv')
              refine ⟨ρ, ?_, q1, q2⟩
              have := RV.os (ρ := ρ) (w := w.setRow bk.b (cs.toList.take ((bk.o + off) * i.size + len * i.size) ++ nw ++ cs.toList.drop ((bk.o + off) * i.size + len * i.size + nw.length)).toArray) k off (len + ys.length) bk (some ⟨bk.b, (bk.o + off) * i.size, none⟩) ht (by omega) hcap (fun _ => by rw [hksz])
              exact this
            · split at h
              · rename_i hend
                cases h
                -- the row grows where it lies
                have hlx : len = bk.n - off := by omega
                have hx1 : Ext ρ w (upd ρ k ⟨bk.b, bk.o + off, i.size, len + ys.length, bk.cap - off⟩) (w.setRow bk.b (cs.toList.take ((bk.o + off) * i.size + len * i.size) ++ nw ++ cs.toList.drop ((bk.o + off) * i.size + len * i.size + nw.length)).toArray) [k] :=
                  ⟨rfl, rfl, rfl, by rw [setRow_size]; exact Nat.le_refl _, fun b _ hno => setRow_other w bk.b b _ (fun e => hno ⟨k, bk, ht, e.symm⟩), fun b hb => by
                    obtain ⟨t', k', h1, h2⟩ := hb
                    rw [upd_at] at h1
                    split at h1
                    · cases h1; exact .inl ⟨k, bk, ht, h2⟩
                    · exact .inl ⟨t', k', h1, h2⟩, rfl, fun t' ht' => by rw [upd_at, if_neg (by simpa using ht')]⟩
                refine ⟨upd ρ k ⟨bk.b, bk.o + off, i.size, len + ys.length, bk.cap - off⟩, ?_, hS.put hx1 k _ ?_ (fun v k' hv => ?_) (fun v v' k1 k2 g1 g2 he => ?_) (fun v k' hv => ?_) (fun v k' hne _ hv => setRow_other w bk.b k'.b _ (fun e => hne (hS.inj v k k' bk hv ht e))), hx1⟩
                · have := RV.os (ρ := upd ρ k ⟨bk.b, bk.o + off, i.size, len + ys.length, bk.cap - off⟩) (w := w.setRow bk.b (cs.toList.take ((bk.o + off) * i.size + len * i.size) ++ nw ++ cs.toList.drop ((bk.o + off) * i.size + len * i.size + nw.length)).toArray) k 0 (len + ys.length) ⟨bk.b, bk.o + off, i.size, len + ys.length, bk.cap - off⟩ (some ⟨bk.b, (bk.o + off) * i.size, none⟩) (by rw [upd_at, if_pos rfl]) (by simp) hroom (fun _ => by simp)
                  simpa using this
                · rw [upd_at, if_pos rfl]
                  have hlen' : (xs.drop off ++ ys).length = len + ys.length := by simp; omega
                  refine rowOk_of_flat (u := ((cs.toList.drop (bk.o * i.size)).take (bk.n * i.size)).drop (off * i.size) ++ nw) rfl hlen'.symm hroom (setRow_heap w bk.b cs _ e' _ hbk) (by
                    simp only [List.size_toArray, List.length_append, List.length_take, List.length_drop, Array.length_toList]
                    have : (bk.o + off + (bk.cap - off)) * i.size ≤ cs.size := by rw [show bk.o + off + (bk.cap - off) = bk.o + bk.cap from by omega]; exact hcs
                    omega) (((hFx.drop off).append hF).mono fun i' row j x y hi' hj hr => ?_) (fun j v hv' => ?_) (froz_append (froz_drop _ hfx) hf)
                  · have := hr.ext hx1
                    rwa [killV_frozen _ x (froz_append (froz_drop _ hfx) hf i' row j x hi' hj)] at this
                  · have hll : (((cs.toList.drop (bk.o * i.size)).take (bk.n * i.size)).drop (off * i.size)).length = len * i.size := by
                      have := (hFx.drop off).1
                      rw [this]
                      congr 1
                      simp
                      omega
                    have hle3 : (bk.o + off) * i.size + len * i.size ≤ cs.toList.length := by rw [Array.length_toList]; omega
                    simp only [List.getElem?_toArray]
                    by_cases hj : j < len * i.size
                    · rw [List.getElem?_append_left (by omega), List.getElem?_drop, List.getElem?_take] at hv'
                      split at hv'
                      · rw [List.getElem?_drop] at hv'
                        rw [List.append_assoc, List.getElem?_append_left (by rw [List.length_take]; omega), List.getElem?_take, if_pos (by omega), ← hv']
                        congr 1
                        rw [Nat.add_mul]
                        omega
                      · cases hv'
                    · rw [List.getElem?_append_right (by omega), hll] at hv'
                      have hjn : j - len * i.size < nw.length := (List.getElem?_eq_some_iff.1 hv').1
                      have e4 : (cs.toList.take ((bk.o + off) * i.size + len * i.size)).length = (bk.o + off) * i.size + len * i.size := by rw [List.length_take]; omega
                      rw [List.append_assoc, List.getElem?_append_right (by rw [e4]; omega), e4, List.getElem?_append_left (by omega), ← hv']
                      congr 1
                      omega
                · rw [upd_at] at hv
                  split at hv
                  · rename_i e5; rw [e5]; exact hkl
                  · exact hS.len v k' hv
                · rw [upd_at] at g1 g2
                  split at g1
                  · split at g2
                    · rename_i e5 e6; rw [e5, e6]
                    · cases g1; rename_i e5 _; rw [e5]; exact hS.inj k v' bk k2 ht g2 he
                  · split at g2
                    · cases g2; rename_i e5; rw [e5]; exact hS.inj v k k1 bk g1 ht he
                    · exact hS.inj v v' k1 k2 g1 g2 he
                · rw [setRow_size]
                  rw [upd_at] at hv
                  split at hv
                  · cases hv; exact ⟨hS.blk k bk ht, hS.apart k bk ht⟩
                  · exact ⟨hS.blk v k' hv, hS.apart v k' hv⟩
              · cases h
          · -- a new block
            rw [if_neg (by omega)] at h
            split at h
            · rename_i hend
              cases h
              have hld : listOf σ (.os k off len) = some ((xs.drop off).take len) := by simp [listOf, hσ]
              have hro : rowsOk i.size ((xs.drop off).take len) = true := by
                unfold rowsOk
                rw [List.all_eq_true]
                intro r hr'
                obtain ⟨q, hq⟩ := List.getElem?_of_mem hr'
                have := ((hFx.drop off).take len).len hq
                simpa using this
              have hxd : RV ρ w.drew (.os k off len) (.slice a len (bk.cap - off)) := (RV.os k off len bk a ht hn hcap ha).drew
              obtain ⟨A2, c2, old, e2', hFo, hfo, hfirsto, honeo⟩ := listOf_ok (P := P) (w := w.drew) hS.drew hld hxd hro
              have hlo : ((xs.drop off).take len).length = len := by simp; omega
              have hal : (xs.drop off).take len = xs.drop off := List.take_of_length_le (by simp; omega)
              rw [hlo] at e2' hfirsto
              cases e2'
              have hof := hfirsto len (Nat.le_refl _)
              have hol : old.take (len * i.size) = old := List.take_of_length_le (by rw [hFo.1, hlo]; exact Nat.le_refl _)
              rw [hol] at hof
              obtain ⟨newCap, rest, h1, h2, h3⟩ := run_grow (w := w) (t := t) (u := u) (ty := ty) hu hu2 hi hz hzs hb hb0 (base := a) (sLen := len) (sCap := bk.cap - off) (n := ys.length) (c := c) (A := A) (by omega) hend.2 hof hfd
              refine ⟨_, _, h3, ?_⟩
              rw [hal] at hFo hfo
              have hlen' : (xs.drop off ++ ys).length = len + ys.length := by simp; omega
              have := growBlk (e := e) hS hkl (hFo.append hF') (froz_append hfo hf') (cells := old ++ nw' ++ rest) (fun j v hv => by
                rw [List.getElem?_append_left (List.getElem?_eq_some_iff.1 hv).1]; exact hv) (cap := newCap) (by omega) (by
                rw [List.length_append, List.length_append, hFo.1, hF'.1, h2, ← Nat.add_mul, ← Nat.add_mul]
                exact Nat.mul_le_mul_right _ (by simp; omega))
              rw [hlen'] at this
              exact this
            · cases h
      · cases h
    · cases h
  | _ => simp [appendO] at h
theorem Post.atEnd {k n : Nat} {row : Row} {v : Value} {w' : World} (hk : k < σ.length) (h : Post ρ w ⟨.os k 0 n, σ.set k row, [], true⟩ v w') (hr : killR [k] row = row) : Post ρ w ⟨.os k 0 n, (giveUp [k] σ).set k row, [k], true⟩ v w' := by
  obtain ⟨ρ', h1, h2, h3⟩ := h
  refine ⟨ρ', h1, ⟨fun t kb ht => ?_, h2.inj, h2.blk, h2.apart, h2.old, fun t r ht => ?_, h2.tab⟩, h3.mono (fun t ht => by simp at ht)⟩
  · have := h2.len t kb ht
    simp only [List.length_set] at this ⊢
    rw [giveUp_len]; exact this
  · rw [List.getElem?_set] at ht
    split at ht
    · rename_i e
      subst e
      split at ht
      · cases ht
        exact h2.row k row (by rw [List.getElem?_set, if_pos rfl, if_pos hk])
      · cases ht
    · rename_i e
      rw [giveUp_get] at ht
      obtain ⟨r0, h4, rfl⟩ := Option.map_eq_some_iff.1 ht
      split
      · exact trivial
      · exact (h2.row t r0 (by rw [List.getElem?_set, if_neg e]; exact h4)).ext (Ext.refl ρ' w' [k]) (fun _ _ => rfl)
/-- A row grows where it lies, behind 'off + len' elements. -/
theorem grow_room (hS : StoOk ρ w σ) {k s off len : Nat} {bk : Blk} {xs ys : List (List AV)} {nw : List Value} {cs : Array Value} {e' : TypeId} (hσ : σ[k]? = some (.arr s xs)) (ht : ρ k = some bk) (hbk : w.heap[bk.b]? = some (.cells cs e' (0, 0)))
    (hF : Flat ρ w s ys nw) (hf : froz ys) (hin0 : off + len ≤ xs.length) (hroom : len + ys.length ≤ bk.cap - off) :
    Post ρ w ⟨.os k 0 (len + ys.length), (giveUp [k] σ).set k (.arr s ((xs.drop off).take len ++ ys)), [k], true⟩ (.slice (some ⟨bk.b, (bk.o + off) * s, none⟩) (len + ys.length) (bk.cap - off))
      (w.setRow bk.b (cs.toList.take ((bk.o + off) * s + len * s) ++ nw ++ cs.toList.drop ((bk.o + off) * s + len * s + nw.length)).toArray) := by
  have hkl : k < σ.length := (List.getElem?_eq_some_iff.1 hσ).1
  have hk := hS.row k _ hσ
  rw [ht] at hk
  obtain ⟨hksz, cs', e2', hbk', hcs, hkn, hkc, hFx, hfx⟩ := flat_of_row hk
  rw [hbk] at hbk'
  cases hbk'
  rw [hksz] at hFx hcs
  have hp1 : (bk.o + off) * s + len * s + nw.length ≤ cs.size := by
    rw [hF.1, ← Nat.add_mul, ← Nat.add_mul]
    exact Nat.le_trans (Nat.mul_le_mul_right _ (by omega)) hcs
  -- the row grows where it lies
  have hx1 : Ext ρ w (upd ρ k ⟨bk.b, bk.o + off, s, len + ys.length, bk.cap - off⟩) (w.setRow bk.b (cs.toList.take ((bk.o + off) * s + len * s) ++ nw ++ cs.toList.drop ((bk.o + off) * s + len * s + nw.length)).toArray) [k] :=
    ⟨rfl, rfl, rfl, by rw [setRow_size]; exact Nat.le_refl _, fun b _ hno => setRow_other w bk.b b _ (fun e => hno ⟨k, bk, ht, e.symm⟩), fun b hb => by
      obtain ⟨t', k', h1, h2⟩ := hb
      rw [upd_at] at h1
      split at h1
      · cases h1; exact .inl ⟨k, bk, ht, h2⟩
      · exact .inl ⟨t', k', h1, h2⟩, rfl, fun t' ht' => by rw [upd_at, if_neg (by simpa using ht')]⟩
  refine ⟨upd ρ k ⟨bk.b, bk.o + off, s, len + ys.length, bk.cap - off⟩, ?_, hS.put hx1 k _ ?_ (fun v k' hv => ?_) (fun v v' k1 k2 g1 g2 he => ?_) (fun v k' hv => ?_) (fun v k' hne _ hv => setRow_other w bk.b k'.b _ (fun e => hne (hS.inj v k k' bk hv ht e))), hx1⟩
  · have := RV.os (ρ := upd ρ k ⟨bk.b, bk.o + off, s, len + ys.length, bk.cap - off⟩) (w := w.setRow bk.b (cs.toList.take ((bk.o + off) * s + len * s) ++ nw ++ cs.toList.drop ((bk.o + off) * s + len * s + nw.length)).toArray) k 0 (len + ys.length) ⟨bk.b, bk.o + off, s, len + ys.length, bk.cap - off⟩ (some ⟨bk.b, (bk.o + off) * s, none⟩) (by rw [upd_at, if_pos rfl]) (by simp) hroom (fun _ => by simp)
    simpa using this
  · rw [upd_at, if_pos rfl]
    have hlen' : ((xs.drop off).take len ++ ys).length = len + ys.length := by simp; omega
    refine rowOk_of_flat (u := (((cs.toList.drop (bk.o * s)).take (bk.n * s)).drop (off * s)).take (len * s) ++ nw) rfl hlen'.symm hroom (setRow_heap w bk.b cs _ e' _ hbk) (by
      simp only [List.size_toArray, List.length_append, List.length_take, List.length_drop, Array.length_toList]
      have : (bk.o + off + (bk.cap - off)) * s ≤ cs.size := by rw [show bk.o + off + (bk.cap - off) = bk.o + bk.cap from by omega]; exact hcs
      omega) ((((hFx.drop off).take len).append hF).mono fun i' row j x y hi' hj hr => ?_) (fun j v hv' => ?_) (froz_append (froz_take _ (froz_drop _ hfx)) hf)
    · have := hr.ext hx1
      rwa [killV_frozen _ x (froz_append (froz_take _ (froz_drop _ hfx)) hf i' row j x hi' hj)] at this
    · have hll : ((((cs.toList.drop (bk.o * s)).take (bk.n * s)).drop (off * s)).take (len * s)).length = len * s := by
        have := ((hFx.drop off).take len).1
        rw [this]
        congr 1
        simp
        omega
      have hle3 : (bk.o + off) * s + len * s ≤ cs.toList.length := by rw [Array.length_toList]; omega
      simp only [List.getElem?_toArray]
      by_cases hj : j < len * s
      · rw [List.getElem?_append_left (by omega), List.getElem?_take, if_pos hj, List.getElem?_drop, List.getElem?_take] at hv'
        split at hv'
        · rw [List.getElem?_drop] at hv'
          rw [List.append_assoc, List.getElem?_append_left (by rw [List.length_take]; omega), List.getElem?_take, if_pos (by omega), ← hv']
          congr 1
          rw [Nat.add_mul]
          omega
        · cases hv'
      · rw [List.getElem?_append_right (by omega), hll] at hv'
        have hjn : j - len * s < nw.length := (List.getElem?_eq_some_iff.1 hv').1
        have e4 : (cs.toList.take ((bk.o + off) * s + len * s)).length = (bk.o + off) * s + len * s := by rw [List.length_take]; omega
        rw [List.append_assoc, List.getElem?_append_right (by rw [e4]; omega), e4, List.getElem?_append_left (by omega), ← hv']
        congr 1
        omega
  · rw [upd_at] at hv
    split at hv
    · rename_i e5; rw [e5]; exact hkl
    · exact hS.len v k' hv
  · rw [upd_at] at g1 g2
    split at g1
    · split at g2
      · rename_i e5 e6; rw [e5, e6]
      · cases g1; rename_i e5 _; rw [e5]; exact hS.inj k v' bk k2 ht g2 he
    · split at g2
      · cases g2; rename_i e5; rw [e5]; exact hS.inj v k k1 bk g1 ht he
      · exact hS.inj v v' k1 k2 g1 g2 he
  · rw [setRow_size]
    rw [upd_at] at hv
    split at hv
    · cases hv; exact ⟨hS.blk k bk ht, hS.apart k bk ht⟩
    · exact ⟨hS.blk v k' hv, hS.apart v k' hv⟩
/-- .. behind which the row ends. -/
theorem appendR_ok {t u ty e e2 : TypeId} {i : TypeInfo} {z : Value} (hu : P.underlying t = some (.slice e)) (hu2 : P.underlying u = some (.slice e2)) (hi : P.info? e = some i) (hz : i.zero = some z)
    (hzs : z.cells.size = i.size) (hs0 : 0 < i.size) (hb : i.bytes ≤ 1048576) (hb0 : 0 < i.bytes) {x y : AV} {X Y : Value} {ys : List (List AV)} {out : Out} (hS : StoOk ρ w σ) (hx : RV ρ w x X) (hy : RV ρ w y Y)
    (hl : listOf σ y = some ys) (hr : rowsOk i.size ys = true) (h : appendR i.size σ x ys = some out) : ∃ v w', (Builtin.append_ #[t, u] ty #[X, Y]).run P w = .ok v w' ∧ Post ρ w out v w' := by
  obtain ⟨A, c, nw, rfl, hF, hf, hfirst, hone⟩ := listOf_ok (P := P) hS hl hy hr
  obtain ⟨A', c', nw', e1, hF', hf', hfirst', hone'⟩ := listOf_ok (P := P) hS.drew hl hy.drew hr
  cases e1
  have hnl : (nw.take (ys.length * i.size)) = nw := List.take_of_length_le (by rw [hF.1]; exact Nat.le_refl _)
  have hnl' : (nw'.take (ys.length * i.size)) = nw' := List.take_of_length_le (by rw [hF'.1]; exact Nat.le_refl _)
  have hfw := hfirst ys.length (Nat.le_refl _)
  have hfd := hfirst' ys.length (Nat.le_refl _)
  rw [hnl] at hfw
  rw [hnl'] at hfd
  -- growth out of nothing
  have grow0 : ∀ {a : Option Addr}, 0 < ys.length → ys.length ≤ LIM → ∃ (newCap : Nat) (rest : List Value), ys.length ≤ newCap ∧ rest.length = (newCap - ys.length) * i.size ∧
      (Builtin.append_ #[t, u] ty #[.slice a 0 0, .slice A ys.length c]).run P w = .ok (.slice (some ⟨w.heap.size, 0, none⟩) ys.length newCap) (w.drew.alloc (.cells (nw' ++ rest).toArray e)) := fun {a} h0 hlim => by
    have := run_grow (w := w) (t := t) (u := u) (ty := ty) hu hu2 hi hz hzs hb hb0 (base := a) (sLen := 0) (sCap := 0) (n := ys.length) (c := c) (A := A) (by omega) (by omega) (old := []) (new := nw') (by cases a <;> simp [Builtin.firstCells, loadCells, loadCellsFrom]) hfd
    simpa using this
  cases hx with
  | osn k a ht =>
    simp only [appendR] at h
    split at h
    · rename_i sz xs hσ
      split at h
      · rename_i hend
        cases h
        obtain ⟨hsz, _, hlim⟩ := hend
        subst hsz
        have hkl : k < σ.length := (List.getElem?_eq_some_iff.1 hσ).1
        have hk := hS.row k _ hσ
        rw [ht] at hk
        have hxs : xs = [] := hk
        subst hxs
        simp only [List.drop_nil, List.take_nil, List.nil_append, Nat.zero_add]
        rcases Nat.eq_zero_or_pos ys.length with h0 | h0
        · have hys : ys = [] := List.eq_nil_of_length_eq_zero h0
          subst hys
          refine ⟨_, w, run_none hu hu2 hi (Nat.le_refl _), Post.atEnd hkl ⟨ρ, .osn k a ht, ?_, Ext.refl _ _ _⟩ rfl⟩
          show StoOk ρ w (σ.set k (.arr i.size []))
          rw [set_self hσ]
          exact hS
        · obtain ⟨newCap, rest, h1, h2, h3⟩ := grow0 (a := a) h0 (by rwa [Nat.zero_add] at hlim)
          refine ⟨_, _, h3, ?_⟩
          exact growBlk hS hkl hF' hf' (fun j v hv => by
            rw [List.getElem?_append_left (List.getElem?_eq_some_iff.1 hv).1]; exact hv) h1 (by
            rw [List.length_append, hF'.1, h2, ← Nat.add_mul]
            exact Nat.mul_le_mul_right _ (by omega))
      · cases h
    · cases h
  | os k off len bk a ht hn hcap ha =>
    simp only [appendR] at h
    split at h
    · rename_i sz xs hσ
      split at h
      · rename_i hend
        cases h
        obtain ⟨hsz, hin0, hlim⟩ := hend
        subst hsz
        have hend : True ∧ True ∧ len + ys.length ≤ LIM := ⟨trivial, trivial, hlim⟩
        have hkl : k < σ.length := (List.getElem?_eq_some_iff.1 hσ).1
        have hk := hS.row k _ hσ
        rw [ht] at hk
        obtain ⟨hksz, cs, e', hbk, hcs, hkn, hkc, hFx, hfx⟩ := flat_of_row hk
        rw [hksz] at hFx hcs
        rcases Nat.eq_zero_or_pos ys.length with h0 | h0
        · have hys : ys = [] := List.eq_nil_of_length_eq_zero h0
          subst hys
          have hx1 : Ext ρ w (upd ρ k ⟨bk.b, bk.o + off, i.size, len, bk.cap - off⟩) w [k] :=
            ⟨rfl, rfl, rfl, Nat.le_refl _, fun _ _ _ => rfl, fun b hb => by
              obtain ⟨t', k', h1, h2⟩ := hb
              rw [upd_at] at h1
              split at h1
              · cases h1; exact .inl ⟨k, bk, ht, h2⟩
              · exact .inl ⟨t', k', h1, h2⟩, rfl, fun t' ht' => by rw [upd_at, if_neg (by simpa using ht')]⟩
          simp only [List.length_nil, Nat.add_zero, List.append_nil]
          refine ⟨_, w, run_none hu hu2 hi (by omega), upd ρ k ⟨bk.b, bk.o + off, i.size, len, bk.cap - off⟩, ?_, hS.put hx1 k _ ?_ (fun v k' hv => ?_) (fun v v' k1 k2 g1 g2 he => ?_) (fun v k' hv => ?_) (fun v k' hne _ hv => rfl), hx1⟩
          · have := RV.os (ρ := upd ρ k ⟨bk.b, bk.o + off, i.size, len, bk.cap - off⟩) (w := w) k 0 len ⟨bk.b, bk.o + off, i.size, len, bk.cap - off⟩ a (by rw [upd_at, if_pos rfl]) (by simp) (show len ≤ bk.cap - off by omega) (fun hc => by
              have hc' : 0 < bk.cap - off := hc
              rw [ha (by omega), hksz]; rfl)
            simpa using this
          · rw [upd_at, if_pos rfl]
            have hlen' : ((xs.drop off).take len).length = len := by simp; omega
            have hFt := ((hFx.drop off).take len)
            refine rowOk_of_flat (u := (((cs.toList.drop (bk.o * i.size)).take (bk.n * i.size)).drop (off * i.size)).take (len * i.size)) rfl hlen'.symm (show len ≤ bk.cap - off by omega) hbk (by
              have : (bk.o + off + (bk.cap - off)) * i.size ≤ cs.size := by rw [show bk.o + off + (bk.cap - off) = bk.o + bk.cap from by omega]; exact hcs
              exact this) (hFt.mono fun i' row j x y hi' hj hr => ?_) (fun j v hv' => ?_) (froz_take _ (froz_drop _ hfx))
            · have := hr.ext hx1
              rwa [killV_frozen _ x (froz_take _ (froz_drop _ hfx) i' row j x hi' hj)] at this
            · rw [List.getElem?_take] at hv'
              split at hv'
              · rw [List.getElem?_drop, List.getElem?_take] at hv'
                split at hv'
                · rw [List.getElem?_drop] at hv'
                  have e9 : (bk.o + off) * i.size + j = bk.o * i.size + (off * i.size + j) := by rw [Nat.add_mul]; omega
                  show cs[(bk.o + off) * i.size + j]? = some v
                  rw [e9]
                  simpa using hv'
                · cases hv'
              · cases hv'
          · rw [upd_at] at hv
            split at hv
            · rename_i e5; rw [e5]; exact hkl
            · exact hS.len v k' hv
          · rw [upd_at] at g1 g2
            split at g1
            · split at g2
              · rename_i e5 e6; rw [e5, e6]
              · cases g1; rename_i e5 _; rw [e5]; exact hS.inj k v' bk k2 ht g2 he
            · split at g2
              · cases g2; rename_i e5; rw [e5]; exact hS.inj v k k1 bk g1 ht he
              · exact hS.inj v v' k1 k2 g1 g2 he
          · rw [upd_at] at hv
            split at hv
            · cases hv; exact ⟨hS.blk k bk ht, hS.apart k bk ht⟩
            · exact ⟨hS.blk v k' hv, hS.apart v k' hv⟩
        · by_cases hroom : len + ys.length ≤ bk.cap - off
          · -- there is room
            have had := ha (by omega)
            rw [hksz] at had
            subst had
            have hp1 : (bk.o + off) * i.size + len * i.size + nw.length ≤ cs.size := by
              rw [hF.1, ← Nat.add_mul, ← Nat.add_mul]
              exact Nat.le_trans (Nat.mul_le_mul_right _ (by omega)) hcs
            have hrun := run_room (w := w) (t := t) (u := u) (ty := ty) hu hu2 hi (b := bk.b) (off := (bk.o + off) * i.size) (sLen := len) (sCap := bk.cap - off) (n := ys.length) (c := c) (A := A) hroom hfw hone hbk hp1
            refine ⟨_, _, hrun, ?_⟩
            -- the row grows where it lies
            have hx1 : Ext ρ w (upd ρ k ⟨bk.b, bk.o + off, i.size, len + ys.length, bk.cap - off⟩) (w.setRow bk.b (cs.toList.take ((bk.o + off) * i.size + len * i.size) ++ nw ++ cs.toList.drop ((bk.o + off) * i.size + len * i.size + nw.length)).toArray) [k] :=
              ⟨rfl, rfl, rfl, by rw [setRow_size]; exact Nat.le_refl _, fun b _ hno => setRow_other w bk.b b _ (fun e => hno ⟨k, bk, ht, e.symm⟩), fun b hb => by
                obtain ⟨t', k', h1, h2⟩ := hb
                rw [upd_at] at h1
                split at h1
                · cases h1; exact .inl ⟨k, bk, ht, h2⟩
                · exact .inl ⟨t', k', h1, h2⟩, rfl, fun t' ht' => by rw [upd_at, if_neg (by simpa using ht')]⟩
            refine ⟨upd ρ k ⟨bk.b, bk.o + off, i.size, len + ys.length, bk.cap - off⟩, ?_, hS.put hx1 k _ ?_ (fun v k' hv => ?_) (fun v v' k1 k2 g1 g2 he => ?_) (fun v k' hv => ?_) (fun v k' hne _ hv => setRow_other w bk.b k'.b _ (fun e => hne (hS.inj v k k' bk hv ht e))), hx1⟩
            · have := RV.os (ρ := upd ρ k ⟨bk.b, bk.o + off, i.size, len + ys.length, bk.cap - off⟩) (w := w.setRow bk.b (cs.toList.take ((bk.o + off) * i.size + len * i.size) ++ nw ++ cs.toList.drop ((bk.o + off) * i.size + len * i.size + nw.length)).toArray) k 0 (len + ys.length) ⟨bk.b, bk.o + off, i.size, len + ys.length, bk.cap - off⟩ (some ⟨bk.b, (bk.o + off) * i.size, none⟩) (by rw [upd_at, if_pos rfl]) (by simp) hroom (fun _ => by simp)
              simpa using this
            · rw [upd_at, if_pos rfl]
              have hlen' : ((xs.drop off).take len ++ ys).length = len + ys.length := by simp; omega
              refine rowOk_of_flat (u := (((cs.toList.drop (bk.o * i.size)).take (bk.n * i.size)).drop (off * i.size)).take (len * i.size) ++ nw) rfl hlen'.symm hroom (setRow_heap w bk.b cs _ e' _ hbk) (by
                simp only [List.size_toArray, List.length_append, List.length_take, List.length_drop, Array.length_toList]
                have : (bk.o + off + (bk.cap - off)) * i.size ≤ cs.size := by rw [show bk.o + off + (bk.cap - off) = bk.o + bk.cap from by omega]; exact hcs
                omega) ((((hFx.drop off).take len).append hF).mono fun i' row j x y hi' hj hr => ?_) (fun j v hv' => ?_) (froz_append (froz_take _ (froz_drop _ hfx)) hf)
              · have := hr.ext hx1
                rwa [killV_frozen _ x (froz_append (froz_take _ (froz_drop _ hfx)) hf i' row j x hi' hj)] at this
              · have hll : ((((cs.toList.drop (bk.o * i.size)).take (bk.n * i.size)).drop (off * i.size)).take (len * i.size)).length = len * i.size := by
                  have := ((hFx.drop off).take len).1
                  rw [this]
                  congr 1
                  simp
                  omega
                have hle3 : (bk.o + off) * i.size + len * i.size ≤ cs.toList.length := by rw [Array.length_toList]; omega
                simp only [List.getElem?_toArray]
                by_cases hj : j < len * i.size
                · rw [List.getElem?_append_left (by omega), List.getElem?_take, if_pos hj, List.getElem?_drop, List.getElem?_take] at hv'
                  split at hv'
                  · rw [List.getElem?_drop] at hv'
                    rw [List.append_assoc, List.getElem?_append_left (by rw [List.length_take]; omega), List.getElem?_take, if_pos (by omega), ← hv']
                    congr 1
                    rw [Nat.add_mul]
                    omega
                  · cases hv'
                · rw [List.getElem?_append_right (by omega), hll] at hv'
                  have hjn : j - len * i.size < nw.length := (List.getElem?_eq_some_iff.1 hv').1
                  have e4 : (cs.toList.take ((bk.o + off) * i.size + len * i.size)).length = (bk.o + off) * i.size + len * i.size := by rw [List.length_take]; omega
                  rw [List.append_assoc, List.getElem?_append_right (by rw [e4]; omega), e4, List.getElem?_append_left (by omega), ← hv']
                  congr 1
                  omega
            · rw [upd_at] at hv
              split at hv
              · rename_i e5; rw [e5]; exact hkl
              · exact hS.len v k' hv
            · rw [upd_at] at g1 g2
              split at g1
              · split at g2
                · rename_i e5 e6; rw [e5, e6]
                · cases g1; rename_i e5 _; rw [e5]; exact hS.inj k v' bk k2 ht g2 he
              · split at g2
                · cases g2; rename_i e5; rw [e5]; exact hS.inj v k k1 bk g1 ht he
                · exact hS.inj v v' k1 k2 g1 g2 he
            · rw [setRow_size]
              rw [upd_at] at hv
              split at hv
              · cases hv; exact ⟨hS.blk k bk ht, hS.apart k bk ht⟩
              · exact ⟨hS.blk v k' hv, hS.apart v k' hv⟩
          · -- a new block
            have hld : listOf σ (.os k off len) = some ((xs.drop off).take len) := by simp [listOf, hσ]
            have hro : rowsOk i.size ((xs.drop off).take len) = true := by
              unfold rowsOk
              rw [List.all_eq_true]
              intro r hr'
              obtain ⟨q, hq⟩ := List.getElem?_of_mem hr'
              have := ((hFx.drop off).take len).len hq
              simpa using this
            have hxd : RV ρ w.drew (.os k off len) (.slice a len (bk.cap - off)) := (RV.os k off len bk a ht hn hcap ha).drew
            obtain ⟨A2, c2, old, e2', hFo, hfo, hfirsto, honeo⟩ := listOf_ok (P := P) (w := w.drew) hS.drew hld hxd hro
            have hlo : ((xs.drop off).take len).length = len := by simp; omega
            rw [hlo] at e2' hfirsto
            cases e2'
            have hof := hfirsto len (Nat.le_refl _)
            have hol : old.take (len * i.size) = old := List.take_of_length_le (by rw [hFo.1, hlo]; exact Nat.le_refl _)
            rw [hol] at hof
            obtain ⟨newCap, rest, h1, h2, h3⟩ := run_grow (w := w) (t := t) (u := u) (ty := ty) hu hu2 hi hz hzs hb hb0 (base := a) (sLen := len) (sCap := bk.cap - off) (n := ys.length) (c := c) (A := A) (by omega) hend.2.2 hof hfd
            refine ⟨_, _, h3, ?_⟩
            have hlen' : ((xs.drop off).take len ++ ys).length = len + ys.length := by simp; omega
            have := growBlk (e := e) hS hkl (hFo.append hF') (froz_append hfo hf') (cells := old ++ nw' ++ rest) (fun j v hv => by
              rw [List.getElem?_append_left (List.getElem?_eq_some_iff.1 hv).1]; exact hv) (cap := newCap) (by omega) (by
              rw [List.length_append, List.length_append, hFo.1, hF'.1, h2, ← Nat.add_mul, ← Nat.add_mul]
              exact Nat.mul_le_mul_right _ (by simp; omega))
            rw [hlen'] at this
            exact this
      · cases h
    · cases h
  | _ => simp [appendR] at h
theorem zeroCells_made (z : Array Value) (n : Nat) : Builtin.zeroCells z n = madeCells z (n * z.size) := rfl
theorem run_room_zeros {t u ty e : TypeId} {i : TypeInfo} {z : Value} {kn : IntKind} (hu : P.underlying t = some (.slice e)) (hu2 : P.underlying u = some (.int kn)) (hi : P.info? e = some i) (hz : i.zero = some z)
    {b off sLen sCap n : Nat} (h0 : 0 < n) (hs : 0 < i.size) (hg : sLen + n ≤ sCap) (hn : n ≤ 1000000) (hb48 : i.bytes ≤ 1048576) (hone : ∀ v ∈ (Builtin.zeroCells z.cells n).toList, v.oneCell' = true)
    {cur : Array Value} {e' : TypeId} (hb : w.heap[b]? = some (.cells cur e' (0, 0))) (hfit : off + sLen * i.size + (Builtin.zeroCells z.cells n).toList.length ≤ cur.size) :
    (Builtin.append_ #[t, u] ty #[.slice (some ⟨b, off, none⟩) sLen sCap, .int .i64 n]).run P w = .ok (.slice (some ⟨b, off, none⟩) (sLen + n) sCap) (w.setRow b (cur.toList.take (off + sLen * i.size) ++ (Builtin.zeroCells z.cells n).toList ++ cur.toList.drop (off + sLen * i.size + (Builtin.zeroCells z.cells n).toList.length)).toArray) := by
  have hst := run_storeCells_at P b (off + sLen * i.size) e' (Builtin.zeroCells z.cells n).toList 0 cur w hb (by simpa using hfit) hone
  have hk : n ≠ 0 := by omega
  have hw : IntKind.i64.wrap (n : Int) = n := by rw [IntKind.wrap_i64]; omega
  have h48 : n * i.bytes ≤ 1000000 * 1048576 := Nat.mul_le_mul hn hb48
  have h48i : ¬ (281474976710656 < (n : Int) * (i.bytes : Int)) := by
    rw [← Int.natCast_mul]
    omega
  have hneg : ¬ ((n : Int) < 0) := by omega
  have hns : ¬ (n * i.size = 0) := Nat.mul_ne_zero hk (by omega)
  simp only [Nat.add_zero] at hst
  simp [Builtin.append_, run_underlying hu, run_underlying hu2, sizeOf, typeInfo, zeroValue, hi, hz, asInt, asIntOf, hw, hneg, hns, h48i, hg, add_add', hst]
theorem run_none_zeros {t u ty e : TypeId} {i : TypeInfo} {kn : IntKind} (hu : P.underlying t = some (.slice e)) (hu2 : P.underlying u = some (.int kn)) (hi : P.info? e = some i)
    {base : Option Addr} {sLen sCap : Nat} (hg : sLen ≤ sCap) : (Builtin.append_ #[t, u] ty #[.slice base sLen sCap, .int .i64 ((0 : Nat) : Int)]).run P w = .ok (.slice base sLen sCap) w := by
  have hw : IntKind.i64.wrap ((0 : Nat) : Int) = 0 := by rw [IntKind.wrap_i64]; rfl
  have hw' : IntKind.i64.wrap 0 = 0 := hw
  cases base <;> simp [Builtin.append_, run_underlying hu, run_underlying hu2, sizeOf, typeInfo, hi, asInt, asIntOf, hw', hg, storeCells]
theorem appendZ_ok {t u ty e : TypeId} {kn : IntKind} (hu : P.underlying t = some (.slice e)) (hu2 : P.underlying u = some (.int kn)) {x y : AV} {X Y : Value} {out : Out} (hS : StoOk ρ w σ) (hx : RV ρ w x X) (hy : RV ρ w y Y)
    (h : appendZ P e σ x y = some out) : ∃ v w', (Builtin.append_ #[t, u] ty #[X, Y]).run P w = .ok v w' ∧ Post ρ w out v w' := by
  unfold appendZ at h
  split at h
  · rename_i k len n
    cases hy
    replace h := Option.bind_eq_some_iff.1 h
    obtain ⟨q, hq, h⟩ := h
    obtain ⟨i, zv, hi, hz, hzrun, hrun0, e1, e2, hzs, hs0, hzf, hb, hb0⟩ := elemA_ok hq
    split at h
    · rename_i sz xs hσ
      split at h
      · rename_i hcond
        obtain ⟨hsz, hlen0, hn0, hlim⟩ := hcond
        cases h
        rw [e1] at hsz
        subst hsz
        rw [e2]
        obtain ⟨m, rfl⟩ := Int.eq_ofNat_of_zero_le hn0
        rw [Int.toNat_natCast] at hlim ⊢
        have hkl : k < σ.length := (List.getElem?_eq_some_iff.1 hσ).1
        have hys0 : (List.replicate m (zv.cells.toList.map leaf)).length = m := by simp
        have hnwl : (Builtin.zeroCells zv.cells m).toList.length = m * i.size := by rw [Array.length_toList, zeroCells_size, hzs]
        have hFg : ∀ {ρ : Gh} {w : World}, Flat ρ w i.size (List.replicate m (zv.cells.toList.map leaf)) (Builtin.zeroCells zv.cells m).toList := fun {ρ w} => by
          have h1 := flat_made (ρ := ρ) (w := w) (n := m) (m := m) hzs hs0 (Nat.le_refl _)
          rw [zeroCells_made, hzs]
          rwa [List.take_of_length_le (by rw [Array.length_toList, size_madeCells]; exact Nat.le_refl _)] at h1
        have hf : froz (List.replicate m (zv.cells.toList.map leaf)) := froz_replicate hzf
        rcases Nat.eq_zero_or_pos m with h0 | h0
        · subst h0
          simp only [List.replicate_zero, List.append_nil, Nat.add_zero]
          cases hx with
          | osn k a ht =>
            refine ⟨_, w, run_none_zeros hu hu2 hi (Nat.le_refl _), Post.atEnd hkl ⟨ρ, .osn k a ht, ?_, Ext.refl _ _ _⟩ rfl⟩
            show StoOk ρ w (σ.set k (.arr i.size xs))
            rw [set_self hσ]
            exact hS
          | os k off len bk a ht hn hcap ha =>
            refine ⟨_, w, run_none_zeros hu hu2 hi (by omega), Post.atEnd hkl ⟨ρ, .os k 0 len bk a ht hn hcap ha, ?_, Ext.refl _ _ _⟩ rfl⟩
            show StoOk ρ w (σ.set k (.arr i.size xs))
            rw [set_self hσ]
            exact hS
        · cases hx with
          | osn k a ht =>
            have hk := hS.row k _ hσ
            rw [ht] at hk
            have hxs : xs = [] := hk
            subst hxs
            have hg := Lib.run_append_grow_zeros (P := P) w t u ty e i zv .i64 kn hu hu2 hi hz a 0 0 [] (by cases a <;> simp [Builtin.firstCells, loadCells, loadCellsFrom]) m h0 hs0 (by omega) (by unfold LIM at hlim; omega) (by
              have : m * i.bytes ≤ 1000000 * 1048576 := Nat.mul_le_mul (by unfold LIM at hlim; omega) hb
              omega) (growslice_fits (by omega) (by
              have h1 : (0 + m) * i.bytes ≤ 1000000 * 1048576 := Nat.mul_le_mul (by unfold LIM at hlim; omega) hb
              omega))
            refine ⟨_, _, hg, ?_⟩
            have hcap := grownCap_ge w (0 + m) 0 e
            simp only [List.nil_append, Nat.zero_add]
            have := growBlk (e := e) hS hkl (hFg (ρ := ρ) (w := w.drew)) hf (cells := (Builtin.zeroCells zv.cells m).toList ++ (Builtin.zeroCells zv.cells (grownCap w m 0 e - m)).toList) (fun j v hv => by
              rw [List.getElem?_append_left (List.getElem?_eq_some_iff.1 hv).1]; exact hv) (cap := grownCap w m 0 e) (by simpa using hcap) (by
              rw [List.length_append, hnwl, Array.length_toList, zeroCells_size, hzs, ← Nat.add_mul]
              exact Nat.mul_le_mul_right _ (by omega))
            rw [hys0] at this
            have earr0 : (Builtin.zeroCells zv.cells m ++ Builtin.zeroCells zv.cells (grownCap w m 0 e - m)) = ((Builtin.zeroCells zv.cells m).toList ++ (Builtin.zeroCells zv.cells (grownCap w m 0 e - m)).toList).toArray := by
              apply Array.ext'
              simp
            simp only [List.nil_append, Nat.zero_add, Array.empty_append] at this ⊢
            rw [earr0]
            exact this
          | os k off len bk a ht hn hcap ha =>
            subst hlen0
            have hk := hS.row k _ hσ
            rw [ht] at hk
            obtain ⟨hksz, cs, e', hbk, hcs, hkn, hkc, hFx, hfx⟩ := flat_of_row hk
            rw [hksz] at hFx hcs
            have htk : (xs.drop 0).take xs.length = xs := by rw [List.drop_zero, List.take_length]
            by_cases hroom : xs.length + (List.replicate m (zv.cells.toList.map leaf)).length ≤ bk.cap - 0
            · have hsh := grow_room hS hσ ht hbk (ys := List.replicate m (zv.cells.toList.map leaf)) (nw := (Builtin.zeroCells zv.cells m).toList) (off := 0) (len := xs.length) hFg hf (by omega) hroom
              have hcs' := hcs
              have had := ha (by omega)
              rw [hksz] at had
              subst had
              have hp1 : (bk.o + 0) * i.size + xs.length * i.size + (Builtin.zeroCells zv.cells m).toList.length ≤ cs.size := by
                rw [hnwl, ← Nat.add_mul, ← Nat.add_mul]
                exact Nat.le_trans (Nat.mul_le_mul_right _ (by rw [hys0] at hroom; omega)) hcs
              have hone : ∀ v ∈ (Builtin.zeroCells zv.cells m).toList, v.oneCell' = true := fun v hv => by
                obtain ⟨j, hj, rfl⟩ := List.getElem_of_mem hv
                have hj' : j < m * zv.cells.size := by simpa [zeroCells_size] using hj
                have h1 := madeCells_get zv.cells (m * zv.cells.size) j hj' (by omega)
                have hm : j % zv.cells.size < zv.cells.size := Nat.mod_lt _ (by omega)
                rw [Array.getElem?_eq_getElem (by simpa [size_madeCells] using hj'), Array.getElem?_eq_getElem hm] at h1
                have h2 := Option.some.inj h1
                have h3 : (Builtin.zeroCells zv.cells m).toList[j] = zv.cells[j % zv.cells.size] := by rw [← h2]; rfl
                rw [h3]
                have h4 := List.all_eq_true.1 hzf (leaf zv.cells[j % zv.cells.size]) (List.mem_map.2 ⟨_, by simp, rfl⟩)
                exact cell1_one (ρ := ρ) (w := w) (leaf_ok _) (frozen_cell1 _ h4)
              have hrun := run_room_zeros (w := w) (t := t) (u := u) (ty := ty) hu hu2 hi hz (b := bk.b) (off := (bk.o + 0) * i.size) (sLen := xs.length) (sCap := bk.cap - 0) (n := m) h0 hs0 (by rw [hys0] at hroom; exact hroom) (by unfold LIM at hlim; omega) hb hone hbk hp1
              refine ⟨_, _, hrun, ?_⟩
              rw [htk, hys0] at hsh
              exact hsh
            · have hld : listOf σ (.os k 0 xs.length) = some ((xs.drop 0).take xs.length) := by simp [listOf, hσ]
              have hro : rowsOk i.size ((xs.drop 0).take xs.length) = true := by
                unfold rowsOk
                rw [List.all_eq_true]
                intro r hr'
                obtain ⟨q, hq⟩ := List.getElem?_of_mem hr'
                have := ((hFx.drop 0).take xs.length).len hq
                simpa using this
              have hxd : RV ρ w.drew (.os k 0 xs.length) (.slice a xs.length (bk.cap - 0)) := (RV.os k 0 xs.length bk a ht hn hcap ha).drew
              obtain ⟨A2, c2, old, e2', hFo, hfo, hfirsto, honeo⟩ := listOf_ok (P := P) (w := w.drew) hS.drew hld hxd hro
              rw [htk] at e2' hFo hfo hfirsto
              cases e2'
              have hof := hfirsto xs.length (Nat.le_refl _)
              have hol : old.take (xs.length * i.size) = old := List.take_of_length_le (by rw [hFo.1]; exact Nat.le_refl _)
              rw [hol] at hof
              have hnr : bk.cap - 0 < xs.length + m := by rw [hys0] at hroom; omega
              have hg := Lib.run_append_grow_zeros (P := P) w t u ty e i zv .i64 kn hu hu2 hi hz a xs.length (bk.cap - 0) old hof m h0 hs0 hnr (by unfold LIM at hlim; omega) (by
                have : m * i.bytes ≤ 1000000 * 1048576 := Nat.mul_le_mul (by unfold LIM at hlim; omega) hb
                omega) (growslice_fits hnr (by
                have h1 : (xs.length + m) * i.bytes ≤ 1000000 * 1048576 := Nat.mul_le_mul (by unfold LIM at hlim; omega) hb
                omega))
              refine ⟨_, _, hg, ?_⟩
              have hcapg := grownCap_ge w (xs.length + m) (bk.cap - 0) e
              have hla : (xs ++ List.replicate m (zv.cells.toList.map leaf)).length = xs.length + m := by simp
              have := growBlk (e := e) hS hkl (hFo.append (hFg (ρ := ρ) (w := w.drew))) (froz_append hfo hf) (cells := old ++ (Builtin.zeroCells zv.cells m).toList ++ (Builtin.zeroCells zv.cells (grownCap w (xs.length + m) (bk.cap - 0) e - (xs.length + m))).toList) (fun j v hv => by
                rw [List.getElem?_append_left (List.getElem?_eq_some_iff.1 hv).1]; exact hv) (cap := grownCap w (xs.length + m) (bk.cap - 0) e) (by rw [hla]; exact hcapg) (by
                rw [List.length_append, List.length_append, hFo.1, hnwl, show (Builtin.zeroCells zv.cells (grownCap w (xs.length + m) (bk.cap - 0) e - (xs.length + m))).toList.length = (grownCap w (xs.length + m) (bk.cap - 0) e - (xs.length + m)) * i.size from by rw [Array.length_toList, zeroCells_size, hzs], ← Nat.add_mul, ← Nat.add_mul]
                exact Nat.mul_le_mul_right _ (by omega))
              rw [hla] at this
              have earr : (old.toArray ++ Builtin.zeroCells zv.cells m ++ Builtin.zeroCells zv.cells (grownCap w (xs.length + m) (bk.cap - 0) e - (xs.length + m))) = (old ++ (Builtin.zeroCells zv.cells m).toList ++ (Builtin.zeroCells zv.cells (grownCap w (xs.length + m) (bk.cap - 0) e - (xs.length + m))).toList).toArray := by
                apply Array.ext'
                simp
              rw [earr]
              exact this
      · cases h
    · cases h
  · cases h
theorem appendA_ok {base : Nat} {own : List Nat} {t u ty e e2 : TypeId} {i : TypeInfo} {z : Value} (hu : P.underlying t = some (.slice e)) (hu2 : P.underlying u = some (.slice e2)) (hi : P.info? e = some i) (hz : i.zero = some z)
    (hzs : z.cells.size = i.size) (hs0 : 0 < i.size) (hb : i.bytes ≤ 1048576) (hb0 : 0 < i.bytes) {x y : AV} {X Y : Value} {ys : List (List AV)} {out : Out} (hS : StoOk ρ w σ) (hx : RV ρ w x X) (hy : RV ρ w y Y)
    (hl : listOf σ y = some ys) (hr : rowsOk i.size ys = true) (h : appendA base own i.size σ x ys = some out) : ∃ v w', (Builtin.append_ #[t, u] ty #[X, Y]).run P w = .ok v w' ∧ Post ρ w out v w' := by
  unfold appendA at h
  split at h
  · exact appendR_ok hu hu2 hi hz hzs hs0 hb hb0 hS hx hy hl hr h
  unfold appendA0 at h
  split at h
  · rename_i o ho
    cases h
    unfold E.atEnd at ho
    split at ho
    · rename_i k off len
      split at ho
      · rename_i sz xs hs
        split at ho
        · rename_i hc
          cases ho
          obtain ⟨c1, c2, c3, c4⟩ := hc
          subst c1
          subst c2
          subst c3
          have hk : k < σ.length := (List.getElem?_eq_some_iff.1 hs).1
          by_cases hys : ys = []
          · subst hys
            have h0 : appendO base own i.size σ (.os k 0 xs.length) [] = some ⟨.os k 0 xs.length, σ.set k (.arr i.size xs), [], true⟩ := by
              simp [appendO, hs]
            obtain ⟨v, w', g1, g2⟩ := appendO_ok (base := base) (own := own) (ty := ty) hu hu2 hi hz hzs hs0 hb hb0 hS hx hy hl hr h0
            refine ⟨v, w', g1, ?_⟩
            simpa using Post.atEnd hk g2 rfl
          · have hpos : 0 < ys.length := List.length_pos_iff.2 hys
            refine appendO_ok (base := base) (own := own) (ty := ty) hu hu2 hi hz hzs hs0 hb hb0 hS hx hy hl hr ?_
            simp only [appendO, hs, if_true]
            rw [if_neg (by omega), if_pos (by omega)]
            simp
        · cases ho
      · cases ho
    · cases ho
  · exact appendO_ok hu hu2 hi hz hzs hs0 hb hb0 hS hx hy hl hr h
/-- A stretch of a row is laid anew. -/
theorem stretch_ok (hS : StoOk ρ w σ) {k s off : Nat} {bk : Blk} {xs ys : List (List AV)} {nw : List Value} (hσ : σ[k]? = some (.arr s xs)) (ht : ρ k = some bk) (hF : Flat ρ w s ys nw) (hf : froz ys) (hin : off + ys.length ≤ bk.n) :
    ∃ cs e, w.heap[bk.b]? = some (.cells cs e (0, 0)) ∧ (bk.o + off) * s + nw.length ≤ cs.size ∧ Post ρ w ⟨.dead, σ.set k (.arr s (xs.take off ++ ys ++ xs.drop (off + ys.length))), [], true⟩ undef
      (w.setRow bk.b (cs.toList.take ((bk.o + off) * s) ++ nw ++ cs.toList.drop ((bk.o + off) * s + nw.length)).toArray) := by
  have hk := hS.row k _ hσ
  rw [ht] at hk
  obtain ⟨hksz, cs, e', hbk, hcs, hkn, hkc, hFx, hfx⟩ := flat_of_row hk
  rw [hksz] at hFx hcs
  have hln : off * s + nw.length ≤ bk.n * s := by rw [hF.1, ← Nat.add_mul]; exact Nat.mul_le_mul_right _ hin
  have hbn : bk.o * s + bk.n * s ≤ cs.toList.length := by
    rw [← Nat.add_mul, Array.length_toList]; exact Nat.le_trans (Nat.mul_le_mul_right _ (by omega)) hcs
  have hp1 : (bk.o + off) * s + nw.length ≤ cs.size := by rw [Nat.add_mul]; rw [Array.length_toList] at hbn; omega
  refine ⟨cs, e', hbk, hp1, ?_⟩
  obtain ⟨q1, q2, q3⟩ := setRow_ok hS ht hbk (cs.toList.take ((bk.o + off) * s) ++ nw ++ cs.toList.drop ((bk.o + off) * s + nw.length)).toArray (.arr s (xs.take off ++ ys ++ xs.drop (off + ys.length))) (fun hv => by
    refine rowOk_of_flat (u := ((cs.toList.drop (bk.o * s)).take (bk.n * s)).take (off * s) ++ nw ++ ((cs.toList.drop (bk.o * s)).take (bk.n * s)).drop (off * s + nw.length)) hksz (by simp; omega) hkc (setRow_heap w bk.b cs _ e' _ hbk) (by
        rw [hksz]
        simp only [List.size_toArray, List.length_append, List.length_take, List.length_drop, Array.length_toList]
        omega) ?_ (fun j v hv' => ?_) (froz_append (froz_append (froz_take _ hfx) hf) (froz_drop _ hfx))
    · rw [hksz]
      have h1 := ((hFx.take off).append hF).append (hFx.drop (off + ys.length))
      have h2 : (off + ys.length) * s = off * s + nw.length := by rw [hF.1, ← Nat.add_mul]
      rw [h2] at h1
      exact h1.mono fun _ _ _ _ _ _ _ hr => hv _ _ hr
    · have hjl : j < bk.n * s := by
        have h5 := (List.getElem?_eq_some_iff.1 hv').1
        simp only [List.length_append, List.length_take, List.length_drop, Array.length_toList] at h5
        omega
      rw [splice_at cs.toList nw (bk.o * s) (off * s) (bk.n * s) j hln hbn hjl] at hv'
      have e3 : bk.o * s + off * s = (bk.o + off) * s := by rw [← Nat.add_mul]
      rw [e3] at hv'
      rw [hksz]
      simpa using hv')
  exact ⟨ρ, .dead _, q1, q2⟩
theorem copyA_ok {t u ty e : TypeId} {i : TypeInfo} (hu : P.underlying t = some (.slice e)) (hi : P.info? e = some i) (hs0 : 0 < i.size) {x y : AV} {X Y : Value} {ys : List (List AV)} {out : Out} (hS : StoOk ρ w σ) (hx : RV ρ w x X) (hy : RV ρ w y Y)
    (hl : listOf σ y = some ys) (hr : rowsOk i.size ys = true) (h : copyA i.size σ x ys = some out) : ∃ v w', (Builtin.copy_ #[t, u] ty #[X, Y]).run P w = .ok v w' ∧ Post ρ w out v w' := by
  obtain ⟨A, c, nw, rfl, hF, hf, hfirst, hone⟩ := listOf_ok (P := P) hS hl hy hr
  have zero : ∀ {a : Option Addr} {cp : Nat}, (Builtin.copy_ #[t, u] ty #[.slice a 0 cp, .slice A ys.length c]).run P w = .ok (goInt 0) w := fun {a cp} => by
    have h0 := hfirst 0 (Nat.zero_le _)
    simp only [Nat.zero_mul, List.take_zero] at h0
    have e0 : Nat.min ys.length 0 = 0 := Nat.min_zero _
    cases a <;> simp [Builtin.copy_, run_underlying hu, Builtin.lenOf, e0, sizeOf, typeInfo, hi, h0, storeCells]
  cases hx with
  | nil a =>
    simp only [copyA] at h
    cases h
    exact ⟨_, w, zero, ρ, .v _, hS, Ext.refl _ _ _⟩
  | osn k a ht =>
    simp only [copyA] at h
    split at h
    · rename_i sz xs hσ
      split at h
      · rename_i hsz
        subst hsz
        cases h
        have hk := hS.row k _ hσ
        rw [ht] at hk
        have hxs : xs = [] := hk
        subst hxs
        refine ⟨_, w, zero, ρ, ?_, ?_, Ext.refl _ _ _⟩
        · simp only [Nat.min_zero]
          exact .v _
        · simp only [List.take_nil, List.take_zero, List.drop_nil, List.append_nil]
          rw [set_self hσ]
          exact hS
      · cases h
    · cases h
  | os k off len bk a ht hn hcap ha =>
    simp only [copyA] at h
    split at h
    · rename_i sz xs hσ
      split at h
      · rename_i hsz
        subst hsz
        cases h
        have hml : (ys.take len).length = min ys.length len := by rw [List.length_take]; omega
        obtain ⟨cs, e', hbk, hfit, ρ', p1, p2, p3⟩ := stretch_ok (off := off) (ys := ys.take len) hS hσ ht (hF.take len) (froz_take _ hf) (by rw [hml]; omega)
        rw [hml] at p2
        rcases Nat.eq_zero_or_pos (min ys.length len) with h0 | h0
        · -- nothing is copied
          have e0 : (Builtin.copy_ #[t, u] ty #[.slice a len (bk.cap - off), .slice A ys.length c]).run P w = .ok (goInt 0) w := by
            have h1 := hfirst 0 (Nat.zero_le _)
            simp only [Nat.zero_mul, List.take_zero] at h1
            have e1 : Nat.min ys.length len = 0 := h0
            cases a <;> simp [Builtin.copy_, run_underlying hu, Builtin.lenOf, e1, sizeOf, typeInfo, hi, h1, storeCells]
          refine ⟨_, w, e0, ρ, ?_, ?_, Ext.refl _ _ _⟩
          · rw [h0]; exact .v _
          · have e2 : ys.take len = [] := List.eq_nil_of_length_eq_zero (by omega)
            rw [h0, e2, Nat.add_zero, List.append_nil, List.take_append_drop, set_self hσ]
            exact hS
        · have had := ha (by omega)
          have hk := hS.row k _ hσ
          rw [ht] at hk
          rw [hk.1] at had
          subst had
          have hfn := hfirst (min ys.length len) (Nat.min_le_left _ _)
          have hnl : (nw.take (min ys.length len * i.size)) = nw.take (len * i.size) := by
            rcases Nat.le_total ys.length len with hle | hle
            · rw [Nat.min_eq_left hle, List.take_of_length_le (by rw [hF.1]; exact Nat.le_refl _), List.take_of_length_le (by rw [hF.1]; exact Nat.mul_le_mul_right _ hle)]
            · rw [Nat.min_eq_right hle]
          rw [hnl] at hfn
          have hst := run_storeCells_at P bk.b ((bk.o + off) * i.size) e' (nw.take (len * i.size)) 0 cs w hbk (by simpa using hfit) (fun v hv => hone v (List.mem_of_mem_take hv))
          simp only [Nat.add_zero] at hst
          have e1 : Nat.min ys.length len = min ys.length len := rfl
          refine ⟨_, _, ?_, ρ', .v _, p2, p3⟩
          simp [Builtin.copy_, run_underlying hu, Builtin.lenOf, e1, sizeOf, typeInfo, hi, hfn, hst, goInt, goI]
      · cases h
    · cases h
  | _ => simp [copyA] at h
end
end Go.Proofs.YtabdcfcnngnnoaaDoor.E
