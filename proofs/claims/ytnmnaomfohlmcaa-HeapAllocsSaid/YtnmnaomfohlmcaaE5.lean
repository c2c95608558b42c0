/- What each operation does is what the evaluator says: operations that look, and reckon. -/
import Derived.Test.YtnmnaomfohlmcaaE4
set_option linter.unusedVariables false
set_option linter.unusedSimpArgs false
namespace Go.Proofs.Ytnmnaomfohlmcaa.E
open Go
section
variable {P : Program} {o : Oper} {a : Act} {w : World} {ρ : Gh} {σ : List Row}

theorem add_add' (b off j : Nat) : (⟨b, off, none⟩ : Addr).add j = ⟨b, off + j, none⟩ := by unfold Addr.add; split <;> simp_all
theorem cell_row {k : Blk} {cs : Array Value} {e : TypeId} (h : w.heap[k.b]? = some (.cells cs e (0, 0))) (j : Nat) : w.cell? ⟨k.b, j, none⟩ = cs[j]? := by
  unfold World.cell?
  simp only [h]
  rfl
theorem cellsAt_ok {x : AV} {y : Value} {cells : List AV} (h : cellsAt σ x = some cells) (hr : RV ρ w x y) (hS : StoOk ρ w σ) :
    ∃ ad, y = .pointer (some ad) ∧ ∀ j c, cells[j]? = some c → ∃ u, w.cell? (ad.add j) = some u ∧ RV ρ w c u := by
  cases hr with
  | rp cs ad U hcell hsub =>
    simp [cellsAt] at h
    subst h
    exact ⟨ad, rfl, fun j c hj => ⟨U j, (hcell j c hj).2, hsub j c hj⟩⟩
  | pt t i j k ht =>
    refine ⟨_, rfl, ?_⟩
    simp only [cellsAt] at h
    split at h
    · rename_i sz xs hσ
      obtain ⟨row, hrow, rfl⟩ := Option.map_eq_some_iff.1 h
      have hk := hS.row t _ hσ
      rw [ht] at hk
      obtain ⟨_, _, _, cs, e, hb, _, hc⟩ := hk
      intro j' c hj
      rw [List.getElem?_drop] at hj
      obtain ⟨_, y, hy, hr⟩ := (hc i row hrow).2 _ c hj
      refine ⟨y, ?_, hr⟩
      rw [add_add', cell_row hb, ← hy]
      congr 1
      omega
    · rename_i cs0 hσ
      split at h
      · rename_i hi
        cases h
        have hk := hS.row t _ hσ
        obtain ⟨k', hg, ho, cs, e, hb, hc⟩ := hk
        rw [ht] at hg
        cases hg
        intro j' c hj
        rw [List.getElem?_drop] at hj
        obtain ⟨y, hy, hr⟩ := hc _ c hj
        refine ⟨y, ?_, hr⟩
        rw [add_add', cell_row hb, ← hy, hi, ho]
        congr 1
        omega
      · cases h
    · cases h
  | _ => simp [cellsAt] at h
theorem loadA_ok {t : TypeId} {cells : List AV} {x : AV} {ad : Addr} (h : loadA P t cells = some x) (hc : ∀ j c, cells[j]? = some c → ∃ u, w.cell? (ad.add j) = some u ∧ RV ρ w c u) :
    ∃ v, (loadVar t ad).run P w = .ok v w ∧ RV ρ w x v := by
  unfold loadA at h
  split at h
  · cases h
  · rename_i d hd
    split at h
    · rename_i hagg
      replace h := Option.bind_eq_some_iff.1 h
      obtain ⟨n, hn, h⟩ := h
      obtain ⟨i, hi, rfl, hrun⟩ := esz_ok hn
      split at h
      · rename_i hle
        cases h
        have hex : ∀ j : Fin i.size, ∃ u, w.cell? (ad.add j.val) = some u ∧ ∀ c, cells[j.val]? = some c → RV ρ w c u := fun j => by
          have hj : j.val < cells.length := Nat.lt_of_lt_of_le j.isLt hle
          obtain ⟨u, h1, h2⟩ := hc j.val _ (List.getElem?_eq_getElem hj)
          exact ⟨u, h1, fun c hc' => by rw [List.getElem?_eq_getElem hj] at hc'; cases hc'; exact h2⟩
        let vs := List.ofFn fun j => Classical.choose (hex j)
        have hvs : ∀ j (hj : j < i.size), vs[j]? = some (Classical.choose (hex ⟨j, hj⟩)) := fun j hj => by
          rw [List.getElem?_ofFn, dif_pos hj]
        have hlen : vs.length = i.size := List.length_ofFn
        have hl := run_loadCells_list (P := P) w ad vs (fun j v hv => by
          have hj : j < i.size := by rw [← hlen]; exact (List.getElem?_eq_some_iff.1 hv).1
          rw [hvs j hj] at hv
          cases hv
          exact (Classical.choose_spec (hex ⟨j, hj⟩)).1)
        rw [hlen] at hl
        refine ⟨.agg vs.toArray, ?_, .agg _ _ (by simp [hlen, hle]) (fun j c y h1 h2 => ?_)⟩
        · simp [loadVar, isAgg_run hd, hagg, hrun, hl]
        · rw [List.getElem?_take] at h1
          split at h1
          · rename_i hj
            have h2' : vs[j]? = some y := by simpa using h2
            rw [hvs j hj] at h2'
            cases h2'
            exact (Classical.choose_spec (hex ⟨j, hj⟩)).2 c h1
          · cases h1
      · cases h
    · rename_i hagg
      have hagg' : isAggT P t = false := by simpa using hagg
      rw [List.head?_eq_getElem?] at h
      obtain ⟨u, h1, h2⟩ := hc 0 x h
      have h0 : ad.add 0 = ad := by simp [Addr.add]
      rw [h0] at h1
      exact ⟨u, by simp [loadVar, isAgg_run hd, hagg', run_load, h1], h2⟩
theorem part_ok {t : TypeId} {cells : List AV} {x : AV} {cs : Array Value} {off : Nat} (h : loadA P t (cells.drop off) = some x) (hc : RVs ρ w cells cs.toList) :
    ∃ v, (part t cs off).run P w = .ok v w ∧ RV ρ w x v := by
  unfold loadA at h
  split at h
  · cases h
  · rename_i d hd
    split at h
    · rename_i hagg
      replace h := Option.bind_eq_some_iff.1 h
      obtain ⟨n, hn, h⟩ := h
      obtain ⟨i, hi, rfl, hrun⟩ := esz_ok hn
      split at h
      · rename_i hle
        cases h
        have hd' := (hc.drop off).take i.size
        refine ⟨.agg (cs.extract off (off + i.size)), by simp [part, isAgg_run hd, hagg, hrun], .agg _ _ ?_ (fun j c y h1 h2 => ?_)⟩
        · have := hd'.1
          have h3 := hc.1
          simp at this h3 hle ⊢
          omega
        · refine hd'.2 j c y h1 ?_
          rw [← h2]
          rw [List.getElem?_take, List.getElem?_drop, Array.getElem?_extract]
          have h3 : i.size ≤ cs.size - off := by have := hc.1; simp at this hle; omega
          by_cases hj : j < i.size
          · rw [if_pos hj, if_pos (by omega)]
            simp
          · rw [if_neg hj, if_neg (by omega)]
      · cases h
    · rename_i hagg
      have hagg' : isAggT P t = false := by simpa using hagg
      rw [List.head?_eq_getElem?, List.getElem?_drop] at h
      obtain ⟨u, h1, h2⟩ := hc.get h
      have h1' : cs[off]? = some u := by simpa using h1
      exact ⟨u, by simp [part, isAgg_run hd, hagg', h1'], h2⟩
theorem fieldAddrA_ok {s : TypeId} {x r : AV} {y : Value} {f : Nat} (h : fieldAddrA P s x f = some r) (hr : RV ρ w x y) : ∃ v, (Instr.fieldAt s y f).run P w = .ok v w ∧ RV ρ w r v := by
  unfold fieldAddrA at h
  split at h
  · rename_i fs hu
    replace h := Option.bind_eq_some_iff.1 h
    obtain ⟨fd, hf, h⟩ := h
    replace h := Option.bind_eq_some_iff.1 h
    obtain ⟨n, hn, h⟩ := h
    obtain ⟨i, hi, rfl, hrun⟩ := esz_ok hn
    split at h
    · cases h
    · rename_i hn0
      have run : ∀ ad : Addr, (Instr.fieldAt s (.pointer (some ad)) f).run P w = .ok (.pointer (some (ad.add fd.offset))) w := fun ad => by
        simp [Instr.fieldAt, run_underlying hu, hf, Instr.sureAddr, fieldPlace, hrun, hn0]
      split at h
      · rename_i cells
        cases h
        cases hr with
        | rp cs ad U hcell hsub =>
          refine ⟨_, run ad, .rp _ _ (fun j => U (fd.offset + j)) (fun j x hj => ?_) (fun j x hj => ?_)⟩
          · rw [List.getElem?_drop] at hj
            rw [Addr.add_add, add_block]
            exact hcell _ x hj
          · rw [List.getElem?_drop] at hj
            exact hsub _ x hj
      · cases h
        cases hr with
        | pt _ _ _ k ht =>
          refine ⟨_, run _, ?_⟩
          rw [add_add', Nat.add_assoc]
          exact .pt _ _ _ k ht
      · cases h
  · cases h
theorem fieldA_ok {t : TypeId} {x r : AV} {y : Value} {f : Nat} (h : fieldA P t x f = some r) (hr : RV ρ w x y) : ∃ v, (Instr.field t y f).run P w = .ok v w ∧ RV ρ w r v := by
  unfold fieldA at h
  split at h
  · rename_i fs cells hu
    replace h := Option.bind_eq_some_iff.1 h
    obtain ⟨fd, hf, h⟩ := h
    cases hr with
    | agg l vs hl hsub =>
      obtain ⟨v, h1, h2⟩ := part_ok (cs := vs) h ⟨by simpa using hl, fun j x y h1 h2 => hsub j x y h1 (by simpa using h2)⟩
      exact ⟨v, by simp [Instr.field, run_underlying hu, hf, asAgg, h1], h2⟩
  · cases h
theorem len_of {x : AV} {y : Value} {n : Nat} (h : lenA x = some n) (hr : RV ρ w x y) : ∃ a c, y = .slice a n c := by
  cases hr with
  | nil a => simp [lenA] at h; subst h; exact ⟨_, _, rfl⟩
  | sl xs a c => simp [lenA] at h; subst h; exact ⟨_, _, rfl⟩
  | os t off len => simp [lenA] at h; subst h; exact ⟨_, _, rfl⟩
  | osn t a => simp [lenA] at h; subst h; exact ⟨_, _, rfl⟩
  | v x =>
    unfold lenA at h
    split at h
    · rename_i he; cases he
    · rename_i he; cases he
    · rename_i he; cases he
    · rename_i he; cases he; cases h; exact ⟨_, _, rfl⟩
    · cases h
  | _ => simp [lenA] at h
theorem indexAddrA_ok {t : TypeId} {x i r : AV} {y z : Value} (h : indexAddrA P σ t x i = some r) (hr : RV ρ w x y) (hi : RV ρ w i z) (hS : StoOk ρ w σ) : ∃ v, (Instr.indexAt t y z).run P w = .ok v w ∧ RV ρ w r v := by
  unfold indexAddrA at h
  split at h
  · rename_i e kd n hu
    cases hi with
    | v =>
      replace h := Option.bind_eq_some_iff.1 h
      obtain ⟨s, hs, h⟩ := h
      obtain ⟨inf, hinf, rfl, hrun⟩ := esz_ok hs
      have run : ∀ (ad : Addr) (len cap : Nat), 0 ≤ n → n < len → (Instr.indexAt t (.slice (some ad) len cap) (.int kd n)).run P w = .ok (.pointer (some (ad.add (n.toNat * inf.size)))) w := fun ad len cap h0 h1 => by
        simp [Instr.indexAt, run_underlying hu, asIntOf, h0, h1, hrun]
      split at h
      · rename_i xs
        split at h
        · rename_i hb
          replace h := Option.bind_eq_some_iff.1 h
          obtain ⟨row, hrow, h⟩ := h
          split at h
          · rename_i hl
            cases h
            cases hr with
            | sl xs ad c sz U hc ha hrow' hcell hsub =>
              have hsz : sz = inf.size := by rw [← hrow' _ _ hrow, hl]
              obtain ⟨ad', had⟩ := Option.isSome_iff_exists.1 (ha (by omega))
              subst had
              refine ⟨_, run ad' xs.length c hb.1 hb.2, .rp row _ (fun j => U n.toNat j) (fun j x hj => ?_) (fun j x hj => ?_)⟩
              · obtain ⟨_, ad2, e2, h2, h3⟩ := hcell _ row j x hrow hj
                cases e2
                rw [Addr.add_add, add_block, ← hsz]
                exact ⟨h2, h3⟩
              · exact hsub _ row j x hrow hj
          · cases h
        · cases h
      · rename_i k off len
        split at h
        · rename_i sz xs hσ
          split at h
          · rename_i hb
            replace h := Option.bind_eq_some_iff.1 h
            obtain ⟨row, hrow, h⟩ := h
            cases h
            cases hr with
            | os _ _ _ bk ad ht hn hcap ha =>
              have hk := hS.row k _ hσ
              rw [ht] at hk
              obtain ⟨h0, h1, h2, cs, e', hb', _, hc⟩ := hk
              have hsz : bk.sz = inf.size := by rw [h0]; exact hb.2.2
              have had := ha (by omega)
              subst had
              refine ⟨_, run _ len _ hb.1 hb.2.1, ?_⟩
              rw [add_add', ← hsz]
              have := RV.pt (ρ := ρ) (w := w) k (off + n.toNat) 0 bk ht
              rw [show (bk.o + (off + n.toNat)) * bk.sz + 0 = (bk.o + off) * bk.sz + n.toNat * bk.sz from by rw [← Nat.add_assoc, Nat.add_mul, Nat.add_zero]] at this
              exact this
            | osn => simp at hb; omega
          · cases h
        · cases h
      · cases h
  · rename_i len e kd n hu
    cases hi with
    | v =>
      replace h := Option.bind_eq_some_iff.1 h
      obtain ⟨s, hs, h⟩ := h
      obtain ⟨inf, hinf, rfl, hrun⟩ := esz_ok hs
      split at h
      · rename_i hb
        have run : ∀ (ad : Addr), (Instr.indexAt t (.pointer (some ad)) (.int kd n)).run P w = .ok (.pointer (some (ad.add (n.toNat * inf.size)))) w := fun ad => by
          simp [Instr.indexAt, run_underlying hu, asIntOf, hb.1, hb.2, hrun, Instr.sureAddr]
        split at h
        · rename_i cells
          cases h
          cases hr with
          | rp cs ad U hcell hsub =>
            refine ⟨_, run ad, .rp _ _ (fun j => U (n.toNat * inf.size + j)) (fun j x hj => ?_) (fun j x hj => ?_)⟩
            · rw [List.getElem?_drop] at hj
              rw [Addr.add_add, add_block]
              exact hcell _ x hj
            · rw [List.getElem?_drop] at hj
              exact hsub _ x hj
        · cases h
          cases hr with
          | pt _ _ _ k ht =>
            refine ⟨_, run _, ?_⟩
            rw [add_add', Nat.add_assoc]
            exact .pt _ _ _ k ht
        · cases h
      · cases h
  · cases h
theorem indexA_ok {t : TypeId} {x i r : AV} {y z : Value} (h : indexA P t x i = some r) (hr : RV ρ w x y) (hi : RV ρ w i z) : ∃ v, (Instr.index t y z).run P w = .ok v w ∧ RV ρ w r v := by
  unfold indexA at h
  split at h
  · rename_i len e cells kd n hu
    cases hi with
    | v =>
      split at h
      · rename_i hb
        replace h := Option.bind_eq_some_iff.1 h
        obtain ⟨s, hs, h⟩ := h
        obtain ⟨inf, hinf, rfl, hrun⟩ := esz_ok hs
        cases hr with
        | agg l vs hl hsub =>
          obtain ⟨v, h1, h2⟩ := part_ok (cs := vs) h ⟨by simpa using hl, fun j x y h1 h2 => hsub j x y h1 (by simpa using h2)⟩
          exact ⟨v, by simp [Instr.index, asIntOf, run_underlying hu, hb.1, hb.2, hrun, h1], h2⟩
      · cases h
  · rename_i s kd n hu
    cases hi with
    | v =>
      cases hr with
      | v =>
        split at h
        · rename_i h0
          obtain ⟨b, hb, rfl⟩ := Option.map_eq_some_iff.1 h
          exact ⟨_, by simp [Instr.index, asIntOf, run_underlying hu, h0, hb], .v _⟩
        · cases h
  · cases h
theorem unA_ok {op : UnOp} {x r : AV} {y : Value} (h : unA op x = some r) (hr : RV ρ w x y) : ∃ v, (Op.unary op y).run P w = .ok v w ∧ RV ρ w r v := by
  cases hr with
  | v =>
    cases op <;> cases y <;> simp only [unA, Option.some.injEq, reduceCtorEq] at h <;> subst h <;> exact ⟨_, rfl, .v _⟩
  | _ => cases op <;> simp [unA] at h
theorem convA_ok {s d : TypeId} {x r : AV} {y : Value} (h : convA P s d x = some r) (hr : RV ρ w x y) : ∃ v, (convert s d y).run P w = .ok v w ∧ RV ρ w r v := by
  unfold convA at h
  split at h
  · rename_i k k' k'' n hs hd
    cases h
    cases hr with
    | v => exact ⟨_, by simp [convert, run_underlying hs, run_underlying hd, Conv.intToInt], .v _⟩
  · cases h
end
end Go.Proofs.Ytnmnaomfohlmcaa.E
