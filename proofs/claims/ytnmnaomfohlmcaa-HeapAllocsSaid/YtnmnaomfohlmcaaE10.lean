/- What each operation does is what the evaluator says: all of them, but for calls. -/
import Derived.Test.YtnmnaomfohlmcaaE9
set_option linter.unusedVariables false
set_option linter.unusedSimpArgs false
namespace Go.Proofs.Ytnmnaomfohlmcaa.E
open Go
section
variable {P : Program} {o : Oper} {a : Act} {w : World} {ρ : Gh} {σ : List Row}

theorem clearA_ok {t ty e : TypeId} {i : TypeInfo} {z : Value} (hu : P.underlying t = some (.slice e)) (hi : P.info? e = some i) (hz : i.zero = some z) (hzs : z.cells.size = i.size) (hs0 : 0 < i.size)
    (hzf : (z.cells.toList.map leaf).all frozen = true) {x : AV} {X : Value} {out : Out} (hS : StoOk ρ w σ) (hx : RV ρ w x X) (h : clearA i.size (z.cells.toList.map leaf) σ x = some out) :
    ∃ v w', (Builtin.clear_ #[t] ty #[X]).run P w = .ok v w' ∧ Post ρ w out v w' := by
  cases hx with
  | nil a =>
    simp only [clearA] at h
    cases h
    exact ⟨.tuple #[], w, by cases a <;> simp [Builtin.clear_, run_underlying hu], ρ, .dead _, hS, Ext.refl _ _ _⟩
  | osn k a ht =>
    simp only [clearA] at h
    split at h
    · rename_i sz xs hσ
      split at h
      · rename_i hsz
        subst hsz
        cases h
        have hk := hS.row k _ hσ
        rw [ht] at hk
        have hxs : xs = [] := hk
        subst hxs
        refine ⟨.tuple #[], w, by cases a <;> simp [Builtin.clear_, run_underlying hu], ρ, .dead _, ?_, Ext.refl _ _ _⟩
        simp only [List.take_nil, List.replicate_zero, List.drop_nil, List.append_nil]
        rw [set_self hσ]
        exact hS
      · cases h
    · cases h
  | os k off len bk a ht hn hcap ha =>
    simp only [clearA] at h
    split at h
    · rename_i sz xs hσ
      split at h
      · rename_i hsz
        subst hsz
        cases h
        rcases Nat.eq_zero_or_pos len with h0 | h0
        · subst h0
          refine ⟨.tuple #[], w, by cases a <;> simp [Builtin.clear_, run_underlying hu], ρ, .dead _, ?_, Ext.refl _ _ _⟩
          simp only [List.replicate_zero, Nat.add_zero, List.append_nil, List.take_append_drop]
          rw [set_self hσ]
          exact hS
        · have hF : Flat ρ w i.size (List.replicate len (z.cells.toList.map leaf)) (madeCells z.cells (len * i.size)).toList := by
            have := flat_made (ρ := ρ) (w := w) (n := len) (m := len) hzs hs0 (Nat.le_refl _)
            rwa [List.take_of_length_le (by simp [size_madeCells])] at this
          obtain ⟨cs, e', hbk, hfit, hpost⟩ := stretch_ok (off := off) hS hσ ht hF (froz_replicate hzf) (by simp; omega)
          have had := ha (by omega)
          have hk := hS.row k _ hσ
          rw [ht] at hk
          rw [hk.1] at had
          subst had
          have hone : ∀ v ∈ (madeCells z.cells (len * i.size)).toList, v.oneCell' = true := fun v hv => by
            obtain ⟨j, hj, rfl⟩ := List.getElem_of_mem hv
            have hj' : j < len * i.size := by simpa [size_madeCells] using hj
            have h1 := madeCells_get z.cells (len * i.size) j hj' (by omega)
            have hm : j % z.cells.size < z.cells.size := Nat.mod_lt _ (by omega)
            rw [Array.getElem?_eq_getElem (by simpa [size_madeCells] using hj'), Array.getElem?_eq_getElem hm] at h1
            have h2 := Option.some.inj h1
            have h3 : (madeCells z.cells (len * i.size)).toList[j] = z.cells[j % z.cells.size] := by rw [← h2]; rfl
            rw [h3]
            have h4 := List.all_eq_true.1 hzf (leaf z.cells[j % z.cells.size]) (List.mem_map.2 ⟨_, by simp, rfl⟩)
            exact cell1_one (ρ := ρ) (w := w) (leaf_ok _) (frozen_cell1 _ h4)
          have hst := run_storeCells_at P bk.b ((bk.o + off) * i.size) e' (madeCells z.cells (len * i.size)).toList 0 cs w hbk (by simpa using hfit) hone
          simp only [Nat.add_zero] at hst
          have hzc : Builtin.zeroCells z.cells len = madeCells z.cells (len * i.size) := by unfold Builtin.zeroCells madeCells; rw [hzs]
          obtain ⟨ρ', p1, p2, p3⟩ := hpost
          have hl0 : ¬ len = 0 := by omega
          refine ⟨.tuple #[], _, ?_, ρ', .dead _, by simpa using p2, p3⟩
          have e1 : (Builtin.clear_ #[t] ty #[.slice (some ⟨bk.b, (bk.o + off) * i.size, none⟩) len (bk.cap - off)]).run P w = ((storeCells ⟨bk.b, (bk.o + off) * i.size, none⟩ (madeCells z.cells (len * i.size)).toList).run P w).andThen fun _ w' => .ok (.tuple #[]) w' := by
            obtain ⟨len', rfl⟩ : ∃ q, len = q + 1 := ⟨len - 1, by omega⟩
            simp [Builtin.clear_, run_underlying hu, zeroValue, typeInfo, hi, hz, hzc]
          rw [e1, hst]
          rfl
      · cases h
    · cases h
  | _ => simp [clearA] at h
theorem boundA_up {n d cap d' m : Nat} {x : Option AV} (hx : x ≠ none) (hn : n ≤ cap) (h : boundA n x d = some m) : boundA cap x d' = some m := by
  cases x with
  | none => exact absurd rfl hx
  | some x =>
    cases x with
    | v x =>
      cases x with
      | int k q =>
        simp only [boundA] at h ⊢
        split at h
        · rename_i hb
          rw [if_pos ⟨hb.1, by omega⟩]; exact h
        · cases h
      | _ => simp [boundA] at h
    | _ => simp [boundA] at h
theorem add_zero' (ad : Addr) : ad.add 0 = ad := by unfold Addr.add; split <;> simp_all
theorem clipA_ok {t e : TypeId} {inf : TypeInfo} {xs : List (List AV)} {r : AV} {y : Value} {hi mx : Option AV} {l h m : Option Value} (hu : P.underlying t = some (.slice e)) (hrun : ∀ w, (sizeOf e).run P w = .ok inf.size w) (hh : clipA xs hi mx = some r) (hr : RV ρ w (.sl xs) y)
    (nh : hi = none ↔ h = none) (rh : ∀ u v, hi = some u → h = some v → RV ρ w u v)
    (nm : mx = none ↔ m = none) (rm : ∀ u v, mx = some u → m = some v → RV ρ w u v) (hl : l = none) : ∃ v, (Instr.sliceAt t y l h m).run P w = .ok v w ∧ RV ρ w r v := by
  subst hl
  unfold clipA at hh
  split at hh
  case h_2 => cases hh
  rename_i hi' mx'
  replace hh := Option.bind_eq_some_iff.1 hh
  obtain ⟨mv, h1, hh⟩ := hh
  replace hh := Option.bind_eq_some_iff.1 hh
  obtain ⟨hv, h2, hh⟩ := hh
  split at hh
  case isFalse => cases hh
  rename_i hmh
  obtain ⟨rfl, rfl⟩ := hmh
  cases hh
  cases hr with
  | sl xs a c sz U hc ha hrow hcell hsub =>
    rcases boundA_ok (P := P) (w := w) (code := .index) (boundA_up (d' := 0) (by simp) hc h1) nm rm with ⟨h9, _⟩ | ⟨v1, rfl, _, hrun1⟩
    · cases nm.2 h9
    rcases boundA_ok (P := P) (w := w) (code := .index) h2 nh rh with ⟨h9, _⟩ | ⟨v2, rfl, hle2, hrun2⟩
    · cases nh.2 h9
    · have e : (if xs.length = 0 then a else a.map (·.add (0 * inf.size))) = a := by
        split
        · rfl
        · rw [Nat.zero_mul]
          cases a with
          | none => rfl
          | some ad => simp only [Option.map_some]; rw [add_zero']
      refine ⟨.slice (if xs.length = 0 then a else a.map (·.add (0 * inf.size))) (xs.length - 0) (xs.length - 0), by simp [Instr.sliceAt, Instr.slice, run_underlying hu, Instr.sliceBounds, hrun1, hrun2, hrun], ?_⟩
      rw [e]
      exact .cl xs a (.sl xs a xs.length sz U (Nat.le_refl _) ha hrow hcell hsub)
theorem slice3A_ok {t : TypeId} {x r : AV} {y : Value} {lo hi mx : Option AV} {l h m : Option Value} (hh : slice3A P σ t x lo hi mx = some r) (hr : RV ρ w x y) (hS : StoOk ρ w σ)
    (nl : lo = none ↔ l = none) (rl : ∀ u v, lo = some u → l = some v → RV ρ w u v) (nh : hi = none ↔ h = none) (rh : ∀ u v, hi = some u → h = some v → RV ρ w u v)
    (nm : mx = none ↔ m = none) (rm : ∀ u v, mx = some u → m = some v → RV ρ w u v) (hm : mx ≠ none) : ∃ v, (Instr.sliceAt t y l h m).run P w = .ok v w ∧ RV ρ w r v := by
  unfold slice3A at hh
  split at hh
  case h_2 => cases hh
  rename_i e hu
  replace hh := Option.bind_eq_some_iff.1 hh
  obtain ⟨s, hs, hh⟩ := hh
  obtain ⟨inf, hinf, rfl, hrun⟩ := esz_ok hs
  simp only at hh
  split at hh
  · rename_i xs
    exact clipA_ok hu hrun hh hr nh rh nm rm (nl.1 rfl)
  replace hh := Option.bind_eq_some_iff.1 hh
  obtain ⟨n, hn, hh⟩ := hh
  replace hh := Option.bind_eq_some_iff.1 hh
  obtain ⟨mv, h1, hh⟩ := hh
  split at hh
  · cases hh
  · rename_i hu'
    replace hh := Option.bind_eq_some_iff.1 hh
    obtain ⟨hv, h2, hh⟩ := hh
    replace hh := Option.bind_eq_some_iff.1 hh
    obtain ⟨lv, h3, hh⟩ := hh
    have hy : ∃ a len cap, y = .slice a len cap ∧ n ≤ cap := by
      cases hr with
      | nil a => simp at hn; exact ⟨_, _, _, rfl, by omega⟩
      | sl xs a c sz U hc => simp at hn; exact ⟨_, _, _, rfl, by omega⟩
      | os k off len bk a ht hn' hcap ha =>
        simp only at hn
        split at hn
        · rename_i sz xs hσ
          have hk := hS.row k _ hσ
          rw [ht] at hk
          obtain ⟨_, hkn, _⟩ := hk
          cases hn
          exact ⟨_, _, _, rfl, by omega⟩
        · cases hn
      | osn k a ht =>
        simp only at hn
        split at hn
        · rename_i sz xs hσ
          have hk := hS.row k _ hσ
          rw [ht] at hk
          have : xs = [] := hk
          subst this
          cases hn
          exact ⟨_, _, _, rfl, by simp⟩
        · cases hn
      | _ => simp at hn
    obtain ⟨a, len, cap, rfl, hnc⟩ := hy
    have c1 := boundA_ok (P := P) (code := .index) h1 nm rm
    have c2 := boundA_ok (P := P) (code := .index) h2 nh rh
    have c3 := boundA_ok (P := P) (code := .index) h3 nl rl
    rcases c1 with ⟨hm0, _⟩ | ⟨v1, rfl, hle1, _⟩
    · exact absurd (nm.2 hm0) hm
    · rcases c2 with ⟨hh0, _⟩ | ⟨v2, rfl, hle2, hrun2⟩
      · have := nh.2 hh0; cases this
      · have hrun1 : ∀ code, (Instr.sliceBound v1 cap code).run P w = .ok mv w := by
          rcases boundA_ok (P := P) (code := .index) (boundA_up (d' := 0) hm hnc h1) nm rm with ⟨h9, _⟩ | ⟨v9, e9, _, h9⟩
          · cases h9
          · cases e9; exact h9
        have fin : ∃ v, (Instr.sliceAt t (.slice a len cap) l (some v2) (some v1)).run P w = .ok v w ∧ v = .slice (if mv = lv then a else a.map (·.add (lv * inf.size))) (hv - lv) (mv - lv) ∧ lv ≤ hv := by
          rcases c3 with ⟨rfl, rfl⟩ | ⟨v3, rfl, hle3, hrun3⟩
          · exact ⟨_, by simp [Instr.sliceAt, Instr.slice, run_underlying hu, Instr.sliceBounds, hrun1, hrun2, hrun], rfl, Nat.zero_le _⟩
          · exact ⟨_, by simp [Instr.sliceAt, Instr.slice, run_underlying hu, Instr.sliceBounds, hrun1, hrun2, hrun3, hrun], rfl, hle3⟩
        obtain ⟨v, hrv, rfl, hlh⟩ := fin
        refine ⟨_, hrv, ?_⟩
        split at hh
        · rename_i hml
          cases hh
          have e1 : hv - lv = 0 := by omega
          have e2 : mv - lv = 0 := by omega
          rw [if_pos hml, e1, e2]
          exact .nil _
        · cases hh
          exact .dead _
theorem mapA_ok {ea : Operand → Option AV} (hea : ∀ x v, ea x = some v → RV ρ w v (a.eval x)) : ∀ {l : List Operand} {xs : List AV}, mapA ea l = some xs → RVs ρ w xs (l.map a.eval)
  | [], xs, h => by cases h; exact RVs.nil'
  | x :: r, xs, h => by
    simp only [mapA] at h
    replace h := Option.bind_eq_some_iff.1 h
    obtain ⟨v, hv, h⟩ := h
    obtain ⟨vs, hvs, rfl⟩ := Option.map_eq_some_iff.1 h
    exact RVs.cons' (hea x v hv) (mapA_ok hea hvs)
theorem mapParts_ok {ea : Operand → Option AV} (hea : ∀ x v, ea x = some v → RV ρ w v (a.eval x)) : ∀ {l : List (Nat × Operand)} {ps : List (Nat × AV)}, mapParts ea l = some ps →
    ps.length = l.length ∧ ∀ (i : Nat) p q, ps[i]? = some p → l[i]? = some q → p.1 = q.1 ∧ RV ρ w p.2 (a.eval q.2)
  | [], ps, h => by cases h; exact ⟨rfl, fun i p q h => by simp at h⟩
  | (i, x) :: r, ps, h => by
    simp only [mapParts] at h
    replace h := Option.bind_eq_some_iff.1 h
    obtain ⟨v, hv, h⟩ := h
    obtain ⟨vs, hvs, rfl⟩ := Option.map_eq_some_iff.1 h
    obtain ⟨h1, h2⟩ := mapParts_ok hea hvs
    refine ⟨by simp [h1], fun j p q hp hq => ?_⟩
    cases j with
    | zero => simp at hp hq; subst hp; subst hq; exact ⟨rfl, hea x v hv⟩
    | succ j => exact h2 j p q (by simpa using hp) (by simpa using hq)
theorem places_ok {fs : Array Field} {ps : List (Nat × AV)} {vs : List (Nat × Value)} {out : List (Nat × Nat × List AV)} (h : places P fs ps = some out)
    (hp : ps.length = vs.length ∧ ∀ (i : Nat) p q, ps[i]? = some p → vs[i]? = some q → p.1 = q.1 ∧ RV ρ w p.2 q.2) :
    out.length = vs.length ∧ ∀ (i : Nat) p v, out[i]? = some p → vs[i]? = some v → (∃ f, fs[v.1]? = some f ∧ p.1 = f.offset ∧ esz P f.type = some p.2.1) ∧ RVs ρ w p.2.2 v.2.cells.toList := by
  induction ps generalizing vs out with
  | nil =>
    cases h
    exact ⟨by simpa using hp.1, fun i p v h => by simp at h⟩
  | cons q r ih =>
    obtain ⟨i, x⟩ := q
    cases vs with
    | nil => have := hp.1; simp at this
    | cons v vs =>
      simp only [places] at h
      split at h
      · rename_i hbx
        replace h := Option.bind_eq_some_iff.1 h
        obtain ⟨f, hf, h⟩ := h
        replace h := Option.bind_eq_some_iff.1 h
        obtain ⟨s, hs, h⟩ := h
        obtain ⟨out', ho, rfl⟩ := Option.map_eq_some_iff.1 h
        obtain ⟨h1, h2⟩ := ih (vs := vs) ho ⟨by have := hp.1; simpa using this, fun i p q h3 h4 => hp.2 (i + 1) p q (by simpa using h3) (by simpa using h4)⟩
        obtain ⟨h3, h4⟩ := hp.2 0 _ _ rfl rfl
        simp only at h3 h4
        refine ⟨by simp [h1], fun j p u hp' hu' => ?_⟩
        cases j with
        | zero =>
          simp at hp' hu'
          subst hp'; subst hu'
          exact ⟨⟨f, by rw [← h3]; exact hf, rfl, hs⟩, (h4.cells hbx).1⟩
        | succ j => exact h2 j p u (by simpa using hp') (by simpa using hu')
      · cases h
theorem mapM_places {P : Program} (w : World) : ∀ (l : List Field), (∀ f ∈ l, ∃ s, esz P f.type = some s) → ∃ out : List (Nat × Nat), (l.mapM fun f => (Prod.mk f.offset <$> sizeOf f.type : Sem (Nat × Nat))).run P w = .ok out w ∧ out.length = l.length ∧
    ∀ (i : Nat) f, l[i]? = some f → ∃ s, esz P f.type = some s ∧ out[i]? = some (f.offset, s)
  | [], _ => ⟨[], by simp, rfl, fun i f h => by simp at h⟩
  | f :: r, h => by
    obtain ⟨s, hs⟩ := h f (by simp)
    obtain ⟨out, h1, h2, h3⟩ := mapM_places w r (fun g hg => h g (by simp [hg]))
    obtain ⟨i, hi, rfl, hrun⟩ := esz_ok hs
    refine ⟨(f.offset, i.size) :: out, ?_, by simp [h2], fun j g hg => ?_⟩
    · simp only [List.mapM_cons, Sem.run_bind, Sem.run_map, hrun, Result.andThen_ok, Sem.run_pure, h1]
    · cases j with
      | zero => simp at hg; subst hg; exact ⟨i.size, hs, by simp⟩
      | succ j => simpa using h3 j g (by simpa using hg)
theorem buildA_ok {t : TypeId} {fs : Array Field} {ps : List (Nat × AV)} {qs : List (Nat × Nat × List AV)} {vs : Array (Nat × Value)} {z cs : List AV} (hu : P.underlying t = some (.struct fs)) (hall : fs.toList.all (fun f => (esz P f.type).isSome) = true)
    (hq : places P fs ps = some qs) (hz : zeroA P t = some z) (hf : fillA z qs = some cs)
    (hp : ps.length = vs.toList.length ∧ ∀ (i : Nat) p v, ps[i]? = some p → vs.toList[i]? = some v → p.1 = v.1 ∧ RV ρ w p.2 v.2) : ∃ v, (Instr.build t vs).run P w = .ok v w ∧ RV ρ w (.agg cs) v := by
  obtain ⟨i, zv, hi, hzv, hzrun, rfl⟩ := zeroA_ok hz
  obtain ⟨out, h1, h2, h3⟩ := mapM_places (P := P) w fs.toList (fun f hf => by
    have := List.all_eq_true.1 hall f hf
    exact Option.isSome_iff_exists.1 this)
  obtain ⟨g1, g2⟩ := places_ok hq hp
  obtain ⟨zs', hfill, hr⟩ := fill_ok (ρ := ρ) (w := w) (fun i => out[i]?) qs vs.toList (zv.cells.toList.map leaf) zv.cells cs (leafs_ok _) ⟨g1, fun j p v hp' hv' => by
    obtain ⟨⟨f, hf, e1, e2⟩, hcells⟩ := g2 j p v hp' hv'
    obtain ⟨s, hs, ho⟩ := h3 v.1 f (by simpa using hf)
    rw [e2] at hs
    cases hs
    refine ⟨?_, hcells⟩
    rw [e1]
    exact ho⟩ hf
  refine ⟨.agg zs', ?_, .agg _ _ (by have := hr.1; simpa using this) (fun j x y hx hy => hr.2 j x y hx (by simpa using hy))⟩
  have h1' : (fs.mapM fun f => (Prod.mk f.offset <$> sizeOf f.type : Sem (Nat × Nat))).run P w = .ok out.toArray w := by
    rw [Array.mapM_eq_mapM_toList]
    simp only [Sem.run_map, h1, Result.andThen_ok]
  simp [Instr.build, hzrun, run_underlying hu, h1', hfill]
end
end Go.Proofs.Ytnmnaomfohlmcaa.E
