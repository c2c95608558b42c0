/- What each operation does is what the evaluator says: all of them, but for calls. -/
import Derived.Test.YtabdcfcnngnnoaaDoorE9
set_option linter.unusedVariables false
set_option linter.unusedSimpArgs false
namespace Go.Proofs.YtabdcfcnngnnoaaDoor.E
open Go
section
variable {P : Program} {o : Oper} {a : Act} {w : World} {ρ : Gh} {σ : List Row}

theorem clearA_ok {t ty e : TypeId} {i : TypeInfo} {z : Value} (hu : P.underlying t = some (.slice e)) (hi : P.info? e = some i) (hz : i.zero = some z) (hzs : z.cells.size = i.size) (hs0 : 0 < i.size)
    (hzf : (z.cells.toList.map leaf).all frozen = true) {x : AV} {X : Value} {out : Out} (hS : StoOk ρ w σ) (hx : RV ρ w x X) (h : clearA i.size (z.cells.toList.map leaf) σ x = some out) :
    ∃ v w', (Builtin.clear_ #[t] ty #[X]).run P w = .ok v w' ∧ Post ρ w out v w' := by
  cases hx with
  | nil a =>
    simp only [clearA] at h
    cases h
    exact ⟨.tuple #[], w, by cases a <;> simp [Builtin.clear_, run_underlying hu], ρ, .dead _, hS, Ext.refl _ _ _⟩
  | osn k a ht =>
    simp only [clearA] at h
    split at h
    · rename_i sz xs hσ
      split at h
      · rename_i hsz
        subst hsz
        cases h
        have hk := hS.row k _ hσ
        rw [ht] at hk
        have hxs : xs = [] := hk
        subst hxs
        refine ⟨.tuple #[], w, by cases a <;> simp [Builtin.clear_, run_underlying hu], ρ, .dead _, ?_, Ext.refl _ _ _⟩
        simp only [List.take_nil, List.replicate_zero, List.drop_nil, List.append_nil]
        rw [set_self hσ]
        exact hS
      · cases h
    · cases h
  | os k off len bk a ht hn hcap ha =>
    simp only [clearA] at h
    split at h
    · rename_i sz xs hσ
      split at h
      · rename_i hsz
        subst hsz
        cases h
        rcases Nat.eq_zero_or_pos len with h0 | h0
        · subst h0
          refine ⟨.tuple #[], w, by cases a <;> simp [Builtin.clear_, run_underlying hu], ρ, .dead _, ?_, Ext.refl _ _ _⟩
          simp only [List.replicate_zero, Nat.add_zero, List.append_nil, List.take_append_drop]
          rw [set_self hσ]
          exact hS
        · have hF : Flat ρ w i.size (List.replicate len (z.cells.toList.map leaf)) (madeCells z.cells (len * i.size)).toList := by
            have := flat_made (ρ := ρ) (w := w) (n := len) (m := len) hzs hs0 (Nat.le_refl _)
            rwa [List.take_of_length_le (by simp [size_madeCells])] at this
          obtain ⟨cs, e', hbk, hfit, hpost⟩ := stretch_ok (off := off) hS hσ ht hF (froz_replicate hzf) (by simp; omega)
          have had := ha (by omega)
          have hk := hS.row k _ hσ
          rw [ht] at hk
          rw [hk.1] at had
          subst had
          have hone : ∀ v ∈ (madeCells z.cells (len * i.size)).toList, v.oneCell' = true := fun v hv => by
            obtain ⟨j, hj, rfl⟩ := List.getElem_of_mem hv
            have hj' : j < len * i.size := by simpa [size_madeCells] using hj
            have h1 := madeCells_get z.cells (len * i.size) j hj' (by omega)
            have hm : j % z.cells.size < z.cells.size := Nat.mod_lt _ (by omega)
            rw [Array.getElem?_eq_getElem (by simpa [size_madeCells] using hj'), Array.getElem?_eq_getElem hm] at h1
            have h2 := Option.some.inj h1
            have h3 : (madeCells z.cells (len * i.size)).toList[j] = z.cells[j % z.cells.size] := by rw [← h2]; rfl
            rw [h3]
            have h4 := List.all_eq_true.1 hzf (leaf z.cells[j % z.cells.size]) (List.mem_map.2 ⟨_, by simp, rfl⟩)
            exact cell1_one (ρ := ρ) (w := w) (leaf_ok _) (frozen_cell1 _ h4)
          have hst := run_storeCells_at P bk.b ((bk.o + off) * i.size) e' (madeCells z.cells (len * i.size)).toList 0 cs w hbk (by simpa using hfit) hone
          simp only [Nat.add_zero] at hst
          have hzc : Builtin.zeroCells z.cells len = madeCells z.cells (len * i.size) := by unfold Builtin.zeroCells madeCells; rw [hzs]
          obtain ⟨ρ', p1, p2, p3⟩ := hpost
          have hl0 : ¬ len = 0 := by omega
          refine ⟨.tuple #[], _, ?_, ρ', .dead _, by simpa using p2, p3⟩
          have e1 : (Builtin.clear_ #[t] ty #[.slice (some ⟨bk.b, (bk.o + off) * i.size, none⟩) len (bk.cap - off)]).run P w = ((storeCells ⟨bk.b, (bk.o + off) * i.size, none⟩ (madeCells z.cells (len * i.size)).toList).run P w).andThen fun _ w' => .ok (.tuple #[]) w' := by
            obtain ⟨len', rfl⟩ : ∃ q, len = q + 1 := ⟨len - 1, by omega⟩
            simp [Builtin.clear_, run_underlying hu, zeroValue, typeInfo, hi, hz, hzc]
          rw [e1, hst]
          rfl
      · cases h
    · cases h
  | _ => simp [clearA] at h
theorem boundA_up {n d cap d' m : Nat} {x : Option AV} (hx : x ≠ none) (hn : n ≤ cap) (h : boundA n x d = some m) : boundA cap x d' = some m := by
  cases x with
  | none => exact absurd rfl hx
  | some x =>
    cases x with
    | v x =>
      cases x with
      | int k q =>
        simp only [boundA] at h ⊢
        split at h
        · rename_i hb
          rw [if_pos ⟨hb.1, by omega⟩]; exact h
        · cases h
      | _ => simp [boundA] at h
    | _ => simp [boundA] at h
theorem add_zero' (ad : Addr) : ad.add 0 = ad := by unfold Addr.add; split <;> simp_all
theorem clipA_ok {t e : TypeId} {inf : TypeInfo} {xs : List (List AV)} {r : AV} {y : Value} {hi mx : Option AV} {l h m : Option Value} (hu : P.underlying t = some (.slice e)) (hrun : ∀ w, (sizeOf e).run P w = .ok inf.size w) (hh : clipA xs hi mx = some r) (hr : RV ρ w (.sl xs) y)
    (nh : hi = none ↔ h = none) (rh : ∀ u v, hi = some u → h = some v → RV ρ w u v)
    (nm : mx = none ↔ m = none) (rm : ∀ u v, mx = some u → m = some v → RV ρ w u v) (hl : l = none) : ∃ v, (Instr.sliceAt t y l h m).run P w = .ok v w ∧ RV ρ w r v := by
  subst hl
  unfold clipA at hh
  split at hh
  case h_2 => cases hh
  rename_i hi' mx'
  replace hh := Option.bind_eq_some_iff.1 hh
  obtain ⟨mv, h1, hh⟩ := hh
  replace hh := Option.bind_eq_some_iff.1 hh
  obtain ⟨hv, h2, hh⟩ := hh
  split at hh
  case isFalse => cases hh
  rename_i hmh
  obtain ⟨rfl, rfl⟩ := hmh
  cases hh
  cases hr with
  | sl xs a c sz U hc ha hrow hcell hsub =>
    rcases boundA_ok (P := P) (w := w) (code := .index) (boundA_up (d' := 0) (by simp) hc h1) nm rm with ⟨h9, _⟩ | ⟨v1, rfl, _, hrun1⟩
    · cases nm.2 h9
    rcases boundA_ok (P := P) (w := w) (code := .index) h2 nh rh with ⟨h9, _⟩ | ⟨v2, rfl, hle2, hrun2⟩
    · cases nh.2 h9
    · have e : (if xs.length = 0 then a else a.map (·.add (0 * inf.size))) = a := by
        split
        · rfl
        · rw [Nat.zero_mul]
          cases a with
          | none => rfl
          | some ad => simp only [Option.map_some]; rw [add_zero']
      refine ⟨.slice (if xs.length = 0 then a else a.map (·.add (0 * inf.size))) (xs.length - 0) (xs.length - 0), by simp [Instr.sliceAt, Instr.slice, run_underlying hu, Instr.sliceBounds, hrun1, hrun2, hrun], ?_⟩
      rw [e]
      exact .cl xs a (.sl xs a xs.length sz U (Nat.le_refl _) ha hrow hcell hsub)
theorem slice3A_ok {t : TypeId} {x r : AV} {y : Value} {lo hi mx : Option AV} {l h m : Option Value} (hh : slice3A P σ t x lo hi mx = some r) (hr : RV ρ w x y) (hS : StoOk ρ w σ)
    (nl : lo = none ↔ l = none) (rl : ∀ u v, lo = some u → l = some v → RV ρ w u v) (nh : hi = none ↔ h = none) (rh : ∀ u v, hi = some u → h = some v → RV ρ w u v)
    (nm : mx = none ↔ m = none) (rm : ∀ u v, mx = some u → m = some v → RV ρ w u v) (hm : mx ≠ none) : ∃ v, (Instr.sliceAt t y l h m).run P w = .ok v w ∧ RV ρ w r v := by
  unfold slice3A at hh
  split at hh
  case h_2 => cases hh
  rename_i e hu
  replace hh := Option.bind_eq_some_iff.1 hh
  obtain ⟨s, hs, hh⟩ := hh
  obtain ⟨inf, hinf, rfl, hrun⟩ := esz_ok hs
  simp only at hh
  split at hh
  · rename_i xs
    exact clipA_ok hu hrun hh hr nh rh nm rm (nl.1 rfl)
  replace hh := Option.bind_eq_some_iff.1 hh
  obtain ⟨n, hn, hh⟩ := hh
  replace hh := Option.bind_eq_some_iff.1 hh
  obtain ⟨mv, h1, hh⟩ := hh
  split at hh
  · cases hh
  · rename_i hu'
    replace hh := Option.bind_eq_some_iff.1 hh
    obtain ⟨hv, h2, hh⟩ := hh
    replace hh := Option.bind_eq_some_iff.1 hh
    obtain ⟨lv, h3, hh⟩ := hh
    have hy : ∃ a len cap, y = .slice a len cap ∧ n ≤ cap := by
      cases hr with
      | nil a => simp at hn; exact ⟨_, _, _, rfl, by omega⟩
      | sl xs a c sz U hc => simp at hn; exact ⟨_, _, _, rfl, by omega⟩
      | os k off len bk a ht hn' hcap ha =>
        simp only at hn
        split at hn
        · rename_i sz xs hσ
          have hk := hS.row k _ hσ
          rw [ht] at hk
          obtain ⟨_, hkn, _⟩ := hk
          cases hn
          exact ⟨_, _, _, rfl, by omega⟩
        · cases hn
      | osn k a ht =>
        simp only at hn
        split at hn
        · rename_i sz xs hσ
          have hk := hS.row k _ hσ
          rw [ht] at hk
          have : xs = [] := hk
          subst this
          cases hn
          exact ⟨_, _, _, rfl, by simp⟩
        · cases hn
      | _ => simp at hn
    obtain ⟨a, len, cap, rfl, hnc⟩ := hy
    have c1 := boundA_ok (P := P) (code := .index) h1 nm rm
    have c2 := boundA_ok (P := P) (code := .index) h2 nh rh
    have c3 := boundA_ok (P := P) (code := .index) h3 nl rl
    rcases c1 with ⟨hm0, _⟩ | ⟨v1, rfl, hle1, _⟩
    · exact absurd (nm.2 hm0) hm
    · rcases c2 with ⟨hh0, _⟩ | ⟨v2, rfl, hle2, hrun2⟩
      · have := nh.2 hh0; cases this
      · have hrun1 : ∀ code, (Instr.sliceBound v1 cap code).run P w = .ok mv w := by
          rcases boundA_ok (P := P) (code := .index) (boundA_up (d' := 0) hm hnc h1) nm rm with ⟨h9, _⟩ | ⟨v9, e9, _, h9⟩
          · cases h9
          · cases e9; exact h9
        have fin : ∃ v, (Instr.sliceAt t (.slice a len cap) l (some v2) (some v1)).run P w = .ok v w ∧ v = .slice (if mv = lv then a else a.map (·.add (lv * inf.size))) (hv - lv) (mv - lv) ∧ lv ≤ hv := by
          rcases c3 with ⟨rfl, rfl⟩ | ⟨v3, rfl, hle3, hrun3⟩
          · exact ⟨_, by simp [Instr.sliceAt, Instr.slice, run_underlying hu, Instr.sliceBounds, hrun1, hrun2, hrun], rfl, Nat.zero_le _⟩
          · exact ⟨_, by simp [Instr.sliceAt, Instr.slice, run_underlying hu, Instr.sliceBounds, hrun1, hrun2, hrun3, hrun], rfl, hle3⟩
        obtain ⟨v, hrv, rfl, hlh⟩ := fin
        refine ⟨_, hrv, ?_⟩
        split at hh
        · rename_i hml
          cases hh
          have e1 : hv - lv = 0 := by omega
          have e2 : mv - lv = 0 := by omega
          rw [if_pos hml, e1, e2]
          exact .nil _
        · cases hh
          exact .dead _
theorem mapA_ok {ea : Operand → Option AV} (hea : ∀ x v, ea x = some v → RV ρ w v (a.eval x)) : ∀ {l : List Operand} {xs : List AV}, mapA ea l = some xs → RVs ρ w xs (l.map a.eval)
  | [], xs, h => by cases h; exact RVs.nil'
  | x :: r, xs, h => by
    simp only [mapA] at h
    replace h := Option.bind_eq_some_iff.1 h
    obtain ⟨v, hv, h⟩ := h
    obtain ⟨vs, hvs, rfl⟩ := Option.map_eq_some_iff.1 h
    exact RVs.cons' (hea x v hv) (mapA_ok hea hvs)
theorem mapParts_ok {ea : Operand → Option AV} (hea : ∀ x v, ea x = some v → RV ρ w v (a.eval x)) : ∀ {l : List (Nat × Operand)} {ps : List (Nat × AV)}, mapParts ea l = some ps →
    ps.length = l.length ∧ ∀ (i : Nat) p q, ps[i]? = some p → l[i]? = some q → p.1 = q.1 ∧ RV ρ w p.2 (a.eval q.2)
  | [], ps, h => by cases h; exact ⟨rfl, fun i p q h => by simp at h⟩
  | (i, x) :: r, ps, h => by
    simp only [mapParts] at h
    replace h := Option.bind_eq_some_iff.1 h
    obtain ⟨v, hv, h⟩ := h
    obtain ⟨vs, hvs, rfl⟩ := Option.map_eq_some_iff.1 h
    obtain ⟨h1, h2⟩ := mapParts_ok hea hvs
    refine ⟨by simp [h1], fun j p q hp hq => ?_⟩
    cases j with
    | zero => simp at hp hq; subst hp; subst hq; exact ⟨rfl, hea x v hv⟩
    | succ j => exact h2 j p q (by simpa using hp) (by simpa using hq)
theorem places_ok {fs : Array Field} {ps : List (Nat × AV)} {vs : List (Nat × Value)} {out : List (Nat × Nat × List AV)} (h : places P fs ps = some out)
    (hp : ps.length = vs.length ∧ ∀ (i : Nat) p q, ps[i]? = some p → vs[i]? = some q → p.1 = q.1 ∧ RV ρ w p.2 q.2) :
    out.length = vs.length ∧ ∀ (i : Nat) p v, out[i]? = some p → vs[i]? = some v → (∃ f, fs[v.1]? = some f ∧ p.1 = f.offset ∧ esz P f.type = some p.2.1) ∧ RVs ρ w p.2.2 v.2.cells.toList := by
  induction ps generalizing vs out with
  | nil =>
    cases h
    exact ⟨by simpa using hp.1, fun i p v h => by simp at h⟩
  | cons q r ih =>
    obtain ⟨i, x⟩ := q
    cases vs with
    | nil => have := hp.1; simp at this
    | cons v vs =>
      simp only [places] at h
      split at h
      · rename_i hbx
        replace h := Option.bind_eq_some_iff.1 h
        obtain ⟨f, hf, h⟩ := h
        replace h := Option.bind_eq_some_iff.1 h
        obtain ⟨s, hs, h⟩ := h
        obtain ⟨out', ho, rfl⟩ := Option.map_eq_some_iff.1 h
        obtain ⟨h1, h2⟩ := ih (vs := vs) ho ⟨by have := hp.1; simpa using this, fun i p q h3 h4 => hp.2 (i + 1) p q (by simpa using h3) (by simpa using h4)⟩
        obtain ⟨h3, h4⟩ := hp.2 0 _ _ rfl rfl
        simp only at h3 h4
        refine ⟨by simp [h1], fun j p u hp' hu' => ?_⟩
        cases j with
        | zero =>
          simp at hp' hu'
          subst hp'; subst hu'
          exact ⟨⟨f, by rw [← h3]; exact hf, rfl, hs⟩, (h4.cells hbx).1⟩
        | succ j => exact h2 j p u (by simpa using hp') (by simpa using hu')
      · cases h
theorem mapM_places {P : Program} (w : World) : ∀ (l : List Field), (∀ f ∈ l, ∃ s, esz P f.type = some s) → ∃ out : List (Nat × Nat), (l.mapM fun f => (Prod.mk f.offset <$> sizeOf f.type : Sem (Nat × Nat))).run P w = .ok out w ∧ out.length = l.length ∧
    ∀ (i : Nat) f, l[i]? = some f → ∃ s, esz P f.type = some s ∧ out[i]? = some (f.offset, s)
  | [], _ => ⟨[], by simp, rfl, fun i f h => by simp at h⟩
  | f :: r, h => by
    obtain ⟨s, hs⟩ := h f (by simp)
    obtain ⟨out, h1, h2, h3⟩ := mapM_places w r (fun g hg => h g (by simp [hg]))
    obtain ⟨i, hi, rfl, hrun⟩ := esz_ok hs
    refine ⟨(f.offset, i.size) :: out, ?_, by simp [h2], fun j g hg => ?_⟩
    · simp only [List.mapM_cons, Sem.run_bind, Sem.run_map, hrun, Result.andThen_ok, Sem.run_pure, h1]
    · cases j with
      | zero => simp at hg; subst hg; exact ⟨i.size, hs, by simp⟩
      | succ j => simpa using h3 j g (by simpa using hg)
theorem buildA_ok {t : TypeId} {fs : Array Field} {ps : List (Nat × AV)} {qs : List (Nat × Nat × List AV)} {vs : Array (Nat × Value)} {z cs : List AV} (hu : P.underlying t = some (.struct fs)) (hall : fs.toList.all (fun f => (esz P f.type).isSome) = true)
    (hq : places P fs ps = some qs) (hz : zeroA P t = some z) (hf : fillA z qs = some cs)
    (hp : ps.length = vs.toList.length ∧ ∀ (i : Nat) p v, ps[i]? = some p → vs.toList[i]? = some v → p.1 = v.1 ∧ RV ρ w p.2 v.2) : ∃ v, (Instr.build t vs).run P w = .ok v w ∧ RV ρ w (.agg cs) v := by
  obtain ⟨i, zv, hi, hzv, hzrun, rfl⟩ := zeroA_ok hz
  obtain ⟨out, h1, h2, h3⟩ := mapM_places (P := P) w fs.toList (fun f hf => by
    have := List.all_eq_true.1 hall f hf
    exact Option.isSome_iff_exists.1 this)
  obtain ⟨g1, g2⟩ := places_ok hq hp
  obtain ⟨zs', hfill, hr⟩ := fill_ok (ρ := ρ) (w := w) (fun i => out[i]?) qs vs.toList (zv.cells.toList.map leaf) zv.cells cs (leafs_ok _) ⟨g1, fun j p v hp' hv' => by
    obtain ⟨⟨f, hf, e1, e2⟩, hcells⟩ := g2 j p v hp' hv'
    obtain ⟨s, hs, ho⟩ := h3 v.1 f (by simpa using hf)
    rw [e2] at hs
    cases hs
    refine ⟨?_, hcells⟩
    rw [e1]
    exact ho⟩ hf
  refine ⟨.agg zs', ?_, .agg _ _ (by have := hr.1; simpa using this) (fun j x y hx hy => hr.2 j x y hx (by simpa using hy))⟩
  have h1' : (fs.mapM fun f => (Prod.mk f.offset <$> sizeOf f.type : Sem (Nat × Nat))).run P w = .ok out.toArray w := by
    rw [Array.mapM_eq_mapM_toList]
    simp only [Sem.run_map, h1, Result.andThen_ok]
  simp [Instr.build, hzrun, run_underlying hu, h1', hfill]
end
end Go.Proofs.YtabdcfcnngnnoaaDoor.E
set_option linter.unusedVariables false
set_option linter.unusedSimpArgs false
namespace Go.Proofs.YtabdcfcnngnnoaaDoor.E
open Go
theorem nameL_get (g : Nat → Nat) : ∀ (l : List AV) (j : Nat), (nameL g l)[j]? = (l[j]?).map (nameV g)
  | [], j => by simp [nameL]
  | x :: r, 0 => by simp [nameL]
  | x :: r, j + 1 => by simp [nameL, nameL_get g r j]
theorem nameL_len (g : Nat → Nat) : ∀ l : List AV, (nameL g l).length = l.length
  | [] => rfl
  | x :: r => by simp [nameL, nameL_len g r]
theorem nameV_frozen (g : Nat → Nat) : ∀ x : AV, frozen x = true → nameV g x = x
  | .v _, _ => by simp [nameV]
  | .nil, _ => rfl
  | .sl _, _ => rfl
  | .cl _, h | .os .., h | .pt .., h | .rp _, h | .mp _, h | .clo .., h | .agg _, h | .tup _, h | .dead, h => by simp [frozen] at h
theorem weakL_get : ∀ (l : List AV) (j : Nat), (weakL l)[j]? = (l[j]?).map weakV
  | [], j => by simp [weakL]
  | x :: r, 0 => by simp [weakL]
  | x :: r, j + 1 => by simp [weakL, weakL_get r j]
theorem weakL_len : ∀ l : List AV, (weakL l).length = l.length
  | [] => rfl
  | x :: r => by simp [weakL, weakL_len r]
section
variable {P : Program} {o : Oper} {a : Act} {w : World} {ρ : Gh} {σ : List Row}
theorem RV.weak {x : AV} {y : Value} (h : RV ρ w x y) : RV ρ w (weakV x) y := by
  induction h with
  | nil a => exact .sl [] a 0 0 (fun _ _ => undef) (Nat.le_refl _) (fun h => by simp at h) (fun i row h => by simp at h) (fun i row j x h => by simp at h) (fun i row j x h => by simp at h)
  | agg l vs hl hsub ih =>
    unfold weakV
    refine .agg _ vs (by rw [weakL_len]; exact hl) (fun j x y h1 h2 => ?_)
    rw [weakL_get] at h1
    obtain ⟨x0, h3, rfl⟩ := Option.map_eq_some_iff.1 h1
    exact ih j x0 y h3 h2
  | tup l vs hl hsub ih =>
    unfold weakV
    refine .tup _ vs (by rw [weakL_len]; exact hl) (fun j x y h1 h2 => ?_)
    rw [weakL_get] at h1
    obtain ⟨x0, h3, rfl⟩ := Option.map_eq_some_iff.1 h1
    exact ih j x0 y h3 h2
  | v x => exact .v x
  | dead y => exact .dead y
  | sl xs a c sz U hc ha hrow hcell hsub ih => exact .sl xs a c sz U hc ha hrow hcell hsub
  | cl xs a h ih => exact .cl xs a h
  | os t off len k a ht hn hcap ha => exact .os t off len k a ht hn hcap ha
  | osn t a ht => exact .osn t a ht
  | pt t i j k ht => exact .pt t i j k ht
  | rp cells a U hcell hsub ih => exact .rp cells a U hcell hsub
  | mp t k ht => exact .mp t k ht
  | clo f caps vs hl hsub ih => exact .clo f caps vs hl hsub
theorem RVs.weak {l : List AV} {vs : List Value} (h : RVs ρ w l vs) : RVs ρ w (weakL l) vs :=
  ⟨by rw [weakL_len]; exact h.1, fun j x y h1 h2 => by
    rw [weakL_get] at h1
    obtain ⟨x0, h3, rfl⟩ := Option.map_eq_some_iff.1 h1
    exact (h.2 j x0 y h3 h2).weak⟩
/-- Tokens are called otherwise. -/
theorem RV.name {ρ' : Gh} {g : Nat → Nat} {x : AV} {y : Value} (h : RV ρ w x y) (hg : ∀ t, t ∈ toksV x → ρ' (g t) = ρ t) (ho : ∀ b, owns ρ' b → owns ρ b) : RV ρ' w (nameV g x) y := by
  induction h with
  | v x => exact .v x
  | dead y => exact .dead y
  | nil a => exact .nil a
  | sl xs a c sz U hc ha hrow hcell hsub ih =>
    refine .sl xs a c sz U hc ha hrow (fun i row j x h1 h2 => ?_) (fun i row j x h1 h2 => ?_)
    · obtain ⟨hf, ad, e, hno, hu⟩ := hcell i row j x h1 h2
      exact ⟨hf, ad, e, fun h => hno (ho _ h), hu⟩
    · have hf := (hcell i row j x h1 h2).1
      have := ih i row j x h1 h2 (fun t ht => by
        cases x <;> first | (simp [toksV] at ht; done) | (simp [frozen] at hf))
      rwa [nameV_frozen g x hf] at this
  | cl xs a h ih => exact .cl xs a (ih (fun t ht => by simp [toksV] at ht))
  | os t off len k a ht hn hcap ha => exact .os (g t) off len k a ((hg t (by simp [toksV])).trans ht) hn hcap ha
  | osn t a ht => exact .osn (g t) a ((hg t (by simp [toksV])).trans ht)
  | pt t i j k ht => exact .pt (g t) i j k ((hg t (by simp [toksV])).trans ht)
  | rp cells a U hcell hsub ih =>
    unfold nameV
    refine .rp _ a U (fun j x h1 => ?_) (fun j x h1 => ?_)
    · rw [nameL_get] at h1
      obtain ⟨x0, h2, rfl⟩ := Option.map_eq_some_iff.1 h1
      exact ⟨fun h => (hcell j x0 h2).1 (ho _ h), (hcell j x0 h2).2⟩
    · rw [nameL_get] at h1
      obtain ⟨x0, h2, rfl⟩ := Option.map_eq_some_iff.1 h1
      exact ih j x0 h2 (fun t ht => hg t (by unfold toksV; exact toksL_mem h2 ht))
  | mp t k ht => exact .mp (g t) k ((hg t (by simp [toksV])).trans ht)
  | clo f caps vs hl hsub ih =>
    unfold nameV
    refine .clo f _ vs (by rw [nameL_len]; exact hl) (fun j x y h1 h2 => ?_)
    rw [nameL_get] at h1
    obtain ⟨x0, h3, rfl⟩ := Option.map_eq_some_iff.1 h1
    exact ih j x0 y h3 h2 (fun t ht => hg t (by unfold toksV; exact toksL_mem h3 ht))
  | agg l vs hl hsub ih =>
    unfold nameV
    refine .agg _ vs (by rw [nameL_len]; exact hl) (fun j x y h1 h2 => ?_)
    rw [nameL_get] at h1
    obtain ⟨x0, h3, rfl⟩ := Option.map_eq_some_iff.1 h1
    exact ih j x0 y h3 h2 (fun t ht => hg t (by unfold toksV; exact toksL_mem h3 ht))
  | tup l vs hl hsub ih =>
    unfold nameV
    refine .tup _ vs (by rw [nameL_len]; exact hl) (fun j x y h1 h2 => ?_)
    rw [nameL_get] at h1
    obtain ⟨x0, h3, rfl⟩ := Option.map_eq_some_iff.1 h1
    exact ih j x0 y h3 h2 (fun t ht => hg t (by unfold toksV; exact toksL_mem h3 ht))
theorem RowOk.name {ρ' : Gh} {g : Nat → Nat} {gk : Option Blk} {r : Row} (h : RowOk ρ w gk r) (hg : ∀ t, t ∈ toksR r → ρ' (g t) = ρ t) (ho : ∀ b, owns ρ' b → owns ρ b) : RowOk ρ' w gk (nameR g r) := by
  cases r with
  | dead => exact trivial
  | map n m => exact h
  | arr sz xs =>
    cases gk with
    | none => exact h
    | some k =>
      obtain ⟨h0, h1, h2, cs, e, h3, h4, h5⟩ := h
      refine ⟨h0, h1, h2, cs, e, h3, h4, fun i row hi => ⟨(h5 i row hi).1, fun j x hj => ?_⟩⟩
      obtain ⟨h6, y, h7, h8⟩ := (h5 i row hi).2 j x hj
      have := h8.name (ρ' := ρ') (g := g) (fun t ht => by cases x <;> first | (simp [toksV] at ht; done) | (simp [frozen] at h6)) ho
      rw [nameV_frozen g x h6] at this
      exact ⟨h6, y, h7, this⟩
  | box cells =>
    obtain ⟨k, hk, h1, cs, e, h3, h5⟩ := h
    refine ⟨k, hk, h1, cs, e, h3, fun j x hj => ?_⟩
    rw [nameL_get] at hj
    obtain ⟨x0, hj0, rfl⟩ := Option.map_eq_some_iff.1 hj
    obtain ⟨y, h7, h8⟩ := h5 j x0 hj0
    exact ⟨y, h7, h8.name (fun t ht => hg t (by unfold toksR; exact toksL_mem hj0 ht)) ho⟩
theorem putBack_get : ∀ (ts : List Nat) (rs sto : List Row) (t : Nat), ts.Nodup → ts.length = rs.length → (putBack ts rs sto)[t]? = if t ∈ ts then (if t < sto.length then rs[ts.idxOf t]? else none) else sto[t]?
  | [], rs, sto, t, _, h => by
    cases rs with
    | nil => simp [putBack]
    | cons => simp at h
  | u :: ts, rs, sto, t, hn, h => by
    cases rs with
    | nil => simp at h
    | cons r rs =>
      rw [List.nodup_cons] at hn
      unfold putBack
      rw [putBack_get ts rs (sto.set u r) t hn.2 (by simpa using h), List.length_set]
      by_cases hu : t = u
      · subst hu
        rw [if_neg hn.1, if_pos (List.mem_cons_self)]
        simp [List.getElem?_set]
      · by_cases ht : t ∈ ts
        · rw [if_pos ht, if_pos (List.mem_cons_of_mem _ ht), show (u :: ts).idxOf t = ts.idxOf t + 1 from by rw [List.idxOf_cons, show (u == t) = false from by simpa using (fun e => hu e.symm)]; rfl, List.getElem?_cons_succ]
        · rw [if_neg ht, if_neg (by simp [hu, ht]), List.getElem?_set, if_neg (fun e => hu e.symm)]
theorem putBack_len : ∀ (ts : List Nat) (rs sto : List Row), (putBack ts rs sto).length = sto.length
  | [], _, _ => by simp [putBack]
  | _ :: _, [], _ => by simp [putBack]
  | u :: ts, r :: rs, sto => by unfold putBack; rw [putBack_len ts rs]; simp
theorem idx_get {TS : List Nat} {t : Nat} (h : t ∈ TS) : TS.idxOf t < TS.length ∧ TS[TS.idxOf t]? = some t := by
  have h1 := List.idxOf_lt_length_iff.2 h
  exact ⟨h1, by rw [List.getElem?_eq_getElem h1, List.getElem_idxOf h1]⟩
theorem idx_of_get {TS : List Nat} (hn : TS.Nodup) {i t : Nat} (h : TS[i]? = some t) : TS.idxOf t = i := by
  obtain ⟨hi, rfl⟩ := List.getElem?_eq_some_iff.1 h
  exact hn.idxOf_getElem i hi
theorem getT_get {TS : List Nat} {i : Nat} (h : i < TS.length) : TS[i]? = some (getT TS i) := by
  unfold getT
  rw [List.getElem?_eq_getElem h]
  simp [h]
/-- The memory of a call: what it is handed, of the caller's. -/
def loc (ρ : Gh) (ts : List Nat) : Gh := ⟨fun i => match ts[i]? with | some t => ρ t | none => none, fun b => ρ.X b ∨ ∃ t k, t ∉ ts ∧ ρ t = some k ∧ k.b = b⟩
theorem loc_at {ts : List Nat} {i t : Nat} (h : ts[i]? = some t) : (loc ρ ts) i = ρ t := by
  show (match ts[i]? with | some t => ρ t | none => none) = _
  rw [h]
theorem loc_some {ts : List Nat} {i : Nat} {k : Blk} (h : (loc ρ ts) i = some k) : ∃ t, ts[i]? = some t ∧ ρ t = some k := by
  have h' : (match ts[i]? with | some t => ρ t | none => none) = some k := h
  split at h'
  · rename_i t ht; exact ⟨t, ht, h'⟩
  · cases h'
theorem loc_own {ts : List Nat} {b : Nat} (h : own (loc ρ ts) b) : own ρ b := by
  obtain ⟨i, k, h1, h2⟩ := h
  obtain ⟨t, _, h3⟩ := loc_some h1
  exact ⟨t, k, h3, h2⟩
theorem loc_owns {ts : List Nat} {b : Nat} (h : owns (loc ρ ts) b) : owns ρ b := by
  rcases h with h | h | ⟨t, k, _, h1, h2⟩
  · exact .inl (loc_own h)
  · exact .inr h
  · exact .inl ⟨t, k, h1, h2⟩
theorem closed_spec {ts : List Nat} {args : List AV} (h : closedA ts args σ = true) : ts.Nodup ∧ (∀ t ∈ ts, t < σ.length) ∧ (∀ t ∈ toksL args, t ∈ ts) ∧ ∀ t ∈ ts, ∀ row, σ[t]? = some row → ∀ u ∈ toksR row, u ∈ ts := by
  unfold closedA at h
  simp only [Bool.and_eq_true, decide_eq_true_eq, List.all_eq_true] at h
  obtain ⟨⟨⟨h1, h2⟩, h3⟩, h4⟩ := h
  refine ⟨h1, h2, fun t ht => by simpa using h3 t ht, fun t ht row hr u hu => ?_⟩
  have := h4 t ht
  rw [hr] at this
  simp only [List.all_eq_true] at this
  simpa using this u hu
theorem loc_sto (hS : StoOk ρ w σ) {ts : List Nat} {args : List AV} (hc : closedA ts args σ = true) : StoOk (loc ρ ts) w (ts.map fun t => nameR (idxOf ts) (σ.getD t .dead)) := by
  obtain ⟨hn, hlt, _, hrow⟩ := closed_spec hc
  refine ⟨fun i k hi => ?_, fun i i' k k' hi hi' hb => ?_, fun i k hi => ?_, fun i k hi => ?_, fun b hb => ?_, fun i r hr => ?_, hS.tab.sub fun b hb => by
    obtain ⟨i, k, h1, h2⟩ := hb
    obtain ⟨t, _, h3⟩ := loc_some h1
    exact ⟨t, k, h3, h2⟩⟩
  · obtain ⟨t, ht, _⟩ := loc_some hi
    rw [List.length_map]
    exact (List.getElem?_eq_some_iff.1 ht).1
  · obtain ⟨t, ht, h1⟩ := loc_some hi
    obtain ⟨t', ht', h2⟩ := loc_some hi'
    have := hS.inj t t' k k' h1 h2 hb
    subst this
    rw [← idx_of_get hn ht, ← idx_of_get hn ht']
  · obtain ⟨t, ht, h1⟩ := loc_some hi
    exact hS.blk t k h1
  · obtain ⟨t, ht, h1⟩ := loc_some hi
    rintro (h | ⟨t', k', h2, h3, h4⟩)
    · exact hS.apart t k h1 h
    · have := hS.inj t' t k' k h3 h1 h4
      subst this
      exact h2 (List.mem_of_getElem? ht)
  · rcases hb with h | ⟨t', k', _, h3, h4⟩
    · exact hS.old b h
    · rw [← h4]; exact hS.blk t' k' h3
  · rw [List.getElem?_map] at hr
    obtain ⟨t, ht, rfl⟩ := Option.map_eq_some_iff.1 hr
    have hm := List.mem_of_getElem? ht
    have hl := hlt t hm
    have hg : σ.getD t .dead = σ[t] := by simp [hl]
    have hσ : σ[t]? = some σ[t] := List.getElem?_eq_getElem hl
    rw [loc_at ht, hg]
    exact (hS.row t _ hσ).name (fun u hu => by
      have hu' := hrow t hm _ hσ u hu
      exact loc_at (idx_get hu').2) (fun b hb => loc_owns hb)
theorem loc_args {ts : List Nat} {args : List AV} {vs : List Value} (hc : closedA ts args σ = true) (h : RVs ρ w args vs) : RVs (loc ρ ts) w (nameL (idxOf ts) args) vs := by
  obtain ⟨_, _, ha, _⟩ := closed_spec hc
  refine ⟨by rw [nameL_len]; exact h.1, fun j x y h1 h2 => ?_⟩
  rw [nameL_get] at h1
  obtain ⟨x0, h3, rfl⟩ := Option.map_eq_some_iff.1 h1
  exact (h.2 j x0 y h3 h2).name (fun t ht => loc_at (idx_get (ha t (toksL_mem h3 ht))).2) (fun b hb => loc_owns hb)
/-- Back from the call: the memory as the caller knows it. 'TS': the tokens that stand for what the call leaves. -/
theorem land {ρl' : Gh} {w' : World} {ts TS mv : List Nat} {s1 : List Row} {r : AV} {v : Value} (hS : StoOk ρ w σ) (hT : TS.Nodup) (hts : ts.length ≤ TS.length) (hpre : ∀ (i : Nat) t, ts[i]? = some t → TS[i]? = some t) (hlen : TS.length = s1.length) (hlt : ∀ t ∈ TS, t < σ.length)
    (hr : RV ρl' w' r v) (hS' : StoOk ρl' w' s1) (hx : Ext (loc ρ ts) w ρl' w' (mv ++ List.range' ts.length (s1.length - ts.length))) (hrt : ∀ t ∈ toksV r, t < s1.length) (hst : ∀ row ∈ s1, ∀ t ∈ toksR row, t < s1.length) :
    ∃ ρ', RV ρ' w' (nameV (getT TS) r) v ∧ StoOk ρ' w' (putBack TS (s1.map (nameR (getT TS))) (σ.map (killR (mv.map (getT ts) ++ TS.drop ts.length)))) ∧ Ext ρ w ρ' w' (mv.map (getT ts) ++ TS.drop ts.length) := by
  have hsub : ∀ t, t ∈ ts → t ∈ TS := fun t ht => by
    obtain ⟨i, hi⟩ := List.getElem?_of_mem ht
    exact List.mem_of_getElem? (hpre i t hi)
  let ρ' : Gh := ⟨fun t => if t ∈ TS then ρl' (TS.idxOf t) else ρ t, ρ.X⟩
  have at1 : ∀ t, t ∈ TS → ρ' t = ρl' (TS.idxOf t) := fun t ht => if_pos ht
  have at2 : ∀ t, t ∉ TS → ρ' t = ρ t := fun t ht => if_neg ht
  have atg : ∀ i, i < s1.length → ρ' (getT TS i) = ρl' i := fun i hi => by
    have hg := getT_get (TS := TS) (i := i) (by omega)
    rw [at1 _ (List.mem_of_getElem? hg), idx_of_get hT hg]
  have hX : ρl'.X = (loc ρ ts).X := hx.X
  have other : ∀ t k, t ∉ ts → ρ t = some k → ρl'.X k.b := fun t k h1 h2 => by rw [hX]; exact .inr ⟨t, k, h1, h2, rfl⟩
  have hown : ∀ b, own ρ' b → own ρl' b ∨ ∃ t k, t ∉ TS ∧ ρ t = some k ∧ k.b = b := fun b ⟨t, k, h1, h2⟩ => by
    by_cases ht : t ∈ TS
    · rw [at1 t ht] at h1; exact .inl ⟨_, k, h1, h2⟩
    · rw [at2 t ht] at h1; exact .inr ⟨t, k, ht, h1, h2⟩
  have howns : ∀ b, owns ρ' b → owns ρl' b := fun b hb => by
    rcases hb with hb | hb
    · rcases hown b hb with h | ⟨t, k, h1, h2, h3⟩
      · exact .inl h
      · rw [← h3]; exact .inr (other t k (fun h => h1 (hsub t h)) h2)
    · right; rw [hX]; exact .inl hb
  have hext : Ext ρ w ρ' w' (mv.map (getT ts) ++ TS.drop ts.length) := by
    refine ⟨hx.os, hx.tape, hx.output, hx.size, fun b hb hno => hx.keep b hb (fun h => hno (loc_own h)), fun b hb => ?_, rfl, fun t ht => ?_⟩
    · rcases hown b hb with h | ⟨t, k, h1, h2, h3⟩
      · exact (hx.new b h).imp loc_own id
      · exact .inl ⟨t, k, h2, h3⟩
    · by_cases hm : t ∈ TS
      · obtain ⟨i, hi⟩ := List.getElem?_of_mem hm
        simp only [List.mem_append, not_or] at ht
        have hil : i < ts.length := by
          apply Nat.lt_of_not_le
          intro hle
          apply ht.2
          have : (TS.drop ts.length)[i - ts.length]? = some t := by rw [List.getElem?_drop, Nat.add_sub_cancel' hle]; exact hi
          exact List.mem_of_getElem? this
        have hti : ts[i]? = some t := by
          have h1 : ts[i]? = some ts[i] := List.getElem?_eq_getElem hil
          have h2 := hpre i _ h1
          rw [hi] at h2
          rw [h1, ← Option.some.inj h2]
        rw [at1 t hm, idx_of_get hT hi, hx.tok i ?_, loc_at hti]
        simp only [List.mem_append, not_or]
        refine ⟨fun h => ht.1 ?_, fun h => ?_⟩
        · refine List.mem_map.2 ⟨i, h, ?_⟩
          have h3 := getT_get (TS := ts) hil
          rw [hti] at h3
          exact (Option.some.inj h3).symm
        · rw [List.mem_range'_1] at h; omega
      · exact at2 t hm
  refine ⟨ρ', hr.name (fun t ht => atg t (hrt t ht)) howns, ⟨fun t k ht => ?_, fun t t' k k' ht ht' hb => ?_, fun t k ht => ?_, fun t k ht => ?_, fun b hb => ?_, fun t row hrow => ?_, hS.tab.ext hext⟩, hext⟩
  · rw [putBack_len, List.length_map]
    by_cases hm : t ∈ TS
    · exact hlt t hm
    · rw [at2 t hm] at ht; exact hS.len t k ht
  · by_cases hm : t ∈ TS
    · rw [at1 t hm] at ht
      by_cases hm' : t' ∈ TS
      · rw [at1 t' hm'] at ht'
        have := hS'.inj _ _ k k' ht ht' hb
        have h1 := (idx_get hm).2
        rw [this, (idx_get hm').2] at h1
        exact (Option.some.inj h1).symm
      · rw [at2 t' hm'] at ht'
        have := other t' k' (fun h => hm' (hsub t' h)) ht'
        rw [← hb] at this
        exact absurd this (hS'.apart _ k ht)
    · rw [at2 t hm] at ht
      by_cases hm' : t' ∈ TS
      · rw [at1 t' hm'] at ht'
        have := other t k (fun h => hm (hsub t h)) ht
        rw [hb] at this
        exact absurd this (hS'.apart _ k' ht')
      · rw [at2 t' hm'] at ht'
        exact hS.inj t t' k k' ht ht' hb
  · by_cases hm : t ∈ TS
    · rw [at1 t hm] at ht; exact hS'.blk _ k ht
    · rw [at2 t hm] at ht; exact Nat.lt_of_lt_of_le (hS.blk t k ht) hx.size
  · by_cases hm : t ∈ TS
    · rw [at1 t hm] at ht
      intro h
      exact hS'.apart _ k ht (by rw [hX]; exact .inl h)
    · rw [at2 t hm] at ht; exact hS.apart t k ht
  · exact Nat.lt_of_lt_of_le (hS.old b hb) hx.size
  · rw [putBack_get TS _ _ t hT (by rw [List.length_map]; exact hlen), List.length_map] at hrow
    split at hrow
    · rename_i hm
      rw [if_pos (hlt t hm), List.getElem?_map] at hrow
      obtain ⟨r0, h0, rfl⟩ := Option.map_eq_some_iff.1 hrow
      rw [at1 t hm]
      exact (hS'.row _ r0 h0).name (fun u hu => atg u (hst r0 (List.mem_of_getElem? h0) u hu)) howns
    · rename_i hm
      rw [List.getElem?_map] at hrow
      obtain ⟨r0, h0, rfl⟩ := Option.map_eq_some_iff.1 hrow
      rw [at2 t hm]
      exact (hS.row t r0 h0).ext hext (fun k hk => hx.keep k.b (hS.blk t k hk) (fun ⟨i, k', h1, h2⟩ => by
        obtain ⟨t', ht', h3⟩ := loc_some h1
        have := hS.inj t' t k' k h3 hk h2
        subst this
        exact hm (hsub t' (List.mem_of_getElem? ht'))))
end
end Go.Proofs.YtabdcfcnngnnoaaDoor.E
set_option linter.unusedVariables false
set_option linter.unusedSimpArgs false
namespace Go.Proofs.YtabdcfcnngnnoaaDoor.E
open Go
section
variable {P : Program} {o : Oper} {a : Act} {w : World} {ρ : Gh} {σ : List Row}
theorem freezeV_lt {x : AV} {p : AV × List Nat} (h : freezeV σ x = some p) : ∀ t ∈ p.2, t ∈ toksV x ∧ t < σ.length := by
  cases x with
  | os t off len =>
    simp only [freezeV] at h
    split at h
    · rename_i sz xs hσ
      cases h
      intro u hu
      have : u = t := by simpa using hu
      subst this
      exact ⟨by simp [toksV], (List.getElem?_eq_some_iff.1 hσ).1⟩
    · cases h
  | nil => simp only [freezeV] at h; cases h; intro u hu; simp at hu
  | sl xs => simp only [freezeV] at h; cases h; intro u hu; simp at hu
  | v x =>
    simp only [freezeV] at h
    split at h
    · cases h; intro u hu; simp at hu
    · cases h
  | _ => simp [freezeV] at h
theorem settleLeaf {n : Nat} {TS : List Nat} (hS : StoOk ρ w σ) (hT : ∀ t, t ∈ TS ↔ n ≤ t ∧ t < σ.length) {x x' : AV} {y : Value} (hr : RV ρ w x y)
    (hsing : (toksV x).all (fun t => decide (t < n)) = false → ∀ t ∈ toksV x, n ≤ t) (h : (if (toksV x).all (fun t => decide (t < n)) then some x else (freezeV σ x).map (·.1)) = some x') : RV (del ρ TS) w x' y := by
  split at h
  · rename_i hall
    cases h
    have := hr.ext (Ext.giveUp ρ w TS)
    rwa [killV_not TS x (fun t ht hm => by
      have h1 := List.all_eq_true.1 hall t ht
      have h2 := (hT t).1 hm
      simp at h1
      omega)] at this
  · rename_i hall
    obtain ⟨p, hp, rfl⟩ := Option.map_eq_some_iff.1 h
    have hl := freezeV_lt hp
    exact (freezeV_ok (ts := p.2) hS hp hr (fun t ht => (hT t).2 ⟨hsing (by simpa using hall) t (hl t ht).1, (hl t ht).2⟩)).1
mutual
theorem settleV_ok {n : Nat} {TS : List Nat} (hS : StoOk ρ w σ) (hT : ∀ t, t ∈ TS ↔ n ≤ t ∧ t < σ.length) : ∀ (x : AV) (x' : AV) (y : Value), RV ρ w x y → settleV n σ x = some x' → RV (del ρ TS) w x' y
  | .agg l, x', y, hr, h => by
    unfold settleV at h
    obtain ⟨l', hl', rfl⟩ := Option.map_eq_some_iff.1 h
    cases hr with
    | agg l vs hl hsub =>
      have := settleL_ok hS hT l l' vs.toList ⟨by simpa using hl, fun j x y h1 h2 => hsub j x y h1 (by simpa using h2)⟩ hl'
      exact .agg _ vs (by simpa using this.1) (fun j x y h1 h2 => this.2 j x y h1 (by simpa using h2))
  | .tup l, x', y, hr, h => by
    unfold settleV at h
    obtain ⟨l', hl', rfl⟩ := Option.map_eq_some_iff.1 h
    cases hr with
    | tup l vs hl hsub =>
      have := settleL_ok hS hT l l' vs.toList ⟨by simpa using hl, fun j x y h1 h2 => hsub j x y h1 (by simpa using h2)⟩ hl'
      exact .tup _ vs (by simpa using this.1) (fun j x y h1 h2 => this.2 j x y h1 (by simpa using h2))
  | .os t off len, x', y, hr, h => settleLeaf hS hT hr (fun h1 => by intro u hu; simp [toksV] at h1 hu; omega) (by unfold settleV at h; exact h)
  | .pt t i j, x', y, hr, h => settleLeaf hS hT hr (fun h1 => by intro u hu; simp [toksV] at h1 hu; omega) (by unfold settleV at h; exact h)
  | .mp t, x', y, hr, h => settleLeaf hS hT hr (fun h1 => by intro u hu; simp [toksV] at h1 hu; omega) (by unfold settleV at h; exact h)
  | .v z, x', y, hr, h => settleLeaf hS hT hr (fun h1 => by simp [toksV] at h1) (by unfold settleV at h; exact h)
  | .nil, x', y, hr, h => settleLeaf hS hT hr (fun h1 => by simp [toksV] at h1) (by unfold settleV at h; exact h)
  | .sl xs, x', y, hr, h => settleLeaf hS hT hr (fun h1 => by simp [toksV] at h1) (by unfold settleV at h; exact h)
  | .cl xs, x', y, hr, h => settleLeaf hS hT hr (fun h1 => by simp [toksV] at h1) (by unfold settleV at h; exact h)
  | .dead, x', y, hr, h => settleLeaf hS hT hr (fun h1 => by simp [toksV] at h1) (by unfold settleV at h; exact h)
  | .rp cells, x', y, hr, h => by
    unfold settleV at h
    split at h
    · rename_i hall
      cases h
      have := hr.ext (Ext.giveUp ρ w TS)
      rwa [killV_not TS (.rp cells) (fun t ht hm => by
        have h1 := List.all_eq_true.1 hall t ht
        have h2 := (hT t).1 hm
        simp at h1
        omega)] at this
    · simp [freezeV] at h
  | .clo f caps, x', y, hr, h => by
    unfold settleV at h
    split at h
    · rename_i hall
      cases h
      have := hr.ext (Ext.giveUp ρ w TS)
      rwa [killV_not TS (.clo f caps) (fun t ht hm => by
        have h1 := List.all_eq_true.1 hall t ht
        have h2 := (hT t).1 hm
        simp at h1
        omega)] at this
    · simp [freezeV] at h
theorem settleL_ok {n : Nat} {TS : List Nat} (hS : StoOk ρ w σ) (hT : ∀ t, t ∈ TS ↔ n ≤ t ∧ t < σ.length) : ∀ (l l' : List AV) (vs : List Value), RVs ρ w l vs → settleL n σ l = some l' → RVs (del ρ TS) w l' vs
  | [], l', vs, hr, h => by
    unfold settleL at h
    cases h
    have : vs = [] := List.eq_nil_of_length_eq_zero (by rw [← hr.1]; rfl)
    subst this
    exact RVs.nil'
  | x :: r, l', vs, hr, h => by
    unfold settleL at h
    replace h := Option.bind_eq_some_iff.1 h
    obtain ⟨x', hx, h⟩ := h
    obtain ⟨r', hr', rfl⟩ := Option.map_eq_some_iff.1 h
    obtain ⟨y, vr, rfl, hy, hvr⟩ := hr.head
    exact RVs.cons' (settleV_ok hS hT x x' y hy hx) (settleL_ok hS hT r r' vr hvr hr')
end
/-- What is known of a call. -/
def CallOk (P : Program) (call : CallF) : Prop := ∀ f args sto r s1 mv, call f args sto = some (r, s1, mv) → ∀ (ρ : Gh) (w : World) (vs : Array Value), StoOk ρ w sto → RVs ρ w args vs.toList →
  Calls P f vs w fun e w' => ∃ v ρ', e = .returned v ∧ RV ρ' w' r v ∧ StoOk ρ' w' s1 ∧ Ext ρ w ρ' w' (mv ++ List.range' sto.length (s1.length - sto.length))
theorem StoOk.more (hS : StoOk ρ w σ) (n : Nat) : StoOk ρ w (σ ++ List.replicate n .dead) where
  len := fun t k ht => by have := hS.len t k ht; simp; omega
  inj := hS.inj
  blk := hS.blk
  apart := hS.apart
  old := hS.old
  tab := hS.tab
  row := fun t r hr => by
    rw [List.getElem?_append] at hr
    split at hr
    · exact hS.row t r hr
    · rw [List.getElem?_replicate] at hr
      split at hr
      · cases hr; exact trivial
      · cases hr
theorem callB_ok {call : CallF} {base : Nat} {own : List Nat} {f : FuncId} {args : List AV} {ts : List Nat} {vs : Array Value} {out : Out} (hC : CallOk P call) (hS : StoOk ρ w σ) (ha : RVs ρ w args vs.toList) (h : callB call base own f args ts σ = some out) :
    (∃ q s x, call f q s = some x) ∧ Calls P f vs w fun e w' => ∃ v, e = .returned v ∧ Post ρ w out v w' := by
  unfold callB at h
  simp only at h
  split at h
  case isFalse => cases h
  rename_i hclosed
  split at h
  · cases h
  · rename_i r s1 mv hcall
    split at h
    case isFalse => cases h
    rename_i hcond
    obtain ⟨hm, hrt, hst⟩ := hcond
    have hrt' : ∀ t ∈ toksV r, t < s1.length := fun t ht => by simpa using List.all_eq_true.1 hrt t ht
    have hst' : ∀ row ∈ s1, ∀ t ∈ toksR row, t < s1.length := fun row hrow t ht => by
      have := List.all_eq_true.1 hst row hrow
      simpa using List.all_eq_true.1 this t ht
    have hcs := hC f _ _ r s1 mv hcall (loc ρ ts) w vs (loc_sto hS hclosed) (loc_args hclosed ha)
    obtain ⟨hn, hlt, _, _⟩ := closed_spec hclosed
    refine ⟨⟨_, _, _, hcall⟩, hcs.mono ?_⟩
    rintro e w' ⟨v, ρl', rfl, hrv, hS', hx⟩
    rw [List.length_map] at hx
    refine ⟨v, rfl, ?_⟩
    split at h
    · -- nothing is kept
      split at h
      · rename_i hlen
        cases h
        obtain ⟨ρ', h1, h2, h3⟩ := land hS hn (Nat.le_refl _) (fun i t ht => ht) hlen.symm hlt hrv hS' hx hrt' hst'
        rw [List.drop_length, List.append_nil] at h2 h3
        refine ⟨ρ', h1, ?_, h3⟩
        have e1 : (if (mv.map (getT ts)).isEmpty then σ else σ.map (killR (mv.map (getT ts)))) = σ.map (killR (mv.map (getT ts))) := by
          split
          · rename_i he
            have : mv.map (getT ts) = [] := by simpa using he
            rw [this]
            have : (killR [] : Row → Row) = id := funext killR_nil
            rw [this, List.map_id]
          · rfl
        simp only [e1]
        exact h2
      · rename_i hlen
        obtain ⟨r2, hr2, rfl⟩ := Option.map_eq_some_iff.1 h
        have hF : ts.length + (s1.length - ts.length) = s1.length := by omega
        have hTn : (ts ++ List.range' σ.length (s1.length - ts.length)).Nodup := by
          rw [List.nodup_append]
          refine ⟨hn, List.nodup_range', fun t ht t' ht' => ?_⟩
          rw [List.mem_range'_1] at ht'
          have := hlt t ht
          omega
        have hTl : (ts ++ List.range' σ.length (s1.length - ts.length)).length = s1.length := by simp; omega
        obtain ⟨ρ', h1, h2, h3⟩ := land (TS := ts ++ List.range' σ.length (s1.length - ts.length)) (hS.more (s1.length - ts.length)) hTn (by simp) (fun i t ht => by
            rw [List.getElem?_append_left (List.getElem?_eq_some_iff.1 ht).1]; exact ht) hTl (fun t ht => by
            rw [List.length_append, List.length_replicate]
            rcases List.mem_append.1 ht with h | h
            · have := hlt t h; omega
            · rw [List.mem_range'_1] at h; omega) hrv hS' hx hrt' hst'
        rw [List.drop_left] at h2 h3
        have hfl : (putBack (ts ++ List.range' σ.length (s1.length - ts.length)) (s1.map (nameR (getT (ts ++ List.range' σ.length (s1.length - ts.length))))) ((σ ++ List.replicate (s1.length - ts.length) Row.dead).map (killR (mv.map (getT ts) ++ List.range' σ.length (s1.length - ts.length))))).length = σ.length + (s1.length - ts.length) := by
          rw [putBack_len]; simp
        have hr3 := settleV_ok h2 (n := σ.length) (TS := List.range' σ.length (s1.length - ts.length)) (fun t => by rw [List.mem_range'_1, hfl]) _ r2 v h1 hr2
        have hS3 := h2.giveUp (List.range' σ.length (s1.length - ts.length))
        refine ⟨_, hr3, ⟨fun t k ht => ?_, hS3.inj, hS3.blk, hS3.apart, hS3.old, fun t row hrow => ?_, hS3.tab⟩, ?_⟩
        · obtain ⟨h4, h5⟩ := del_some ht
          have h6 := h2.len t k h4
          rw [hfl] at h6
          rw [List.mem_range'_1] at h5
          rw [List.length_take, giveUp_len, hfl]
          omega
        · rw [List.getElem?_take] at hrow
          split at hrow
          · exact hS3.row t row hrow
          · cases hrow
        · refine ⟨h3.os, h3.tape, h3.output, h3.size, h3.keep, fun b ⟨t, k, h4, h5⟩ => h3.new b ⟨t, k, (del_some h4).1, h5⟩, h3.X, fun t ht => ?_⟩
          rw [del_at]
          split
          · rename_i hm
            rw [List.mem_range'_1] at hm
            cases hρ : ρ t with
            | none => rfl
            | some k => have := hS.len t k hρ; omega
          · rename_i hm
            exact h3.tok t (by simp only [List.mem_append, not_or]; exact ⟨ht, hm⟩)
    · split at h
      · rename_i hcond2
        cases h
        obtain ⟨hl2, hn2, hlt2⟩ := hcond2
        obtain ⟨ρ', h1, h2, h3⟩ := land (TS := ts ++ own.map (base + ·)) hS hn2 (by simp) (fun i t ht => by
            rw [List.getElem?_append_left (List.getElem?_eq_some_iff.1 ht).1]; exact ht) hl2 (fun t ht => by
            rcases List.mem_append.1 ht with h | h
            · exact hlt t h
            · simpa using List.all_eq_true.1 hlt2 t h) hrv hS' hx hrt' hst'
        rw [List.drop_left] at h2 h3
        exact ⟨ρ', h1, h2, h3⟩
      · cases h
mutual
theorem settle_toksV {n : Nat} : ∀ (x x' : AV), settleV n σ x = some x' → ∀ t ∈ toksV x', t < n
  | .agg l, x', h => by
    unfold settleV at h
    obtain ⟨l', hl', rfl⟩ := Option.map_eq_some_iff.1 h
    intro t ht
    exact settle_toksL l l' hl' t (by simpa [toksV] using ht)
  | .tup l, x', h => by
    unfold settleV at h
    obtain ⟨l', hl', rfl⟩ := Option.map_eq_some_iff.1 h
    intro t ht
    exact settle_toksL l l' hl' t (by simpa [toksV] using ht)
  | .os a b c, x', h => settle_leafT (by unfold settleV at h; exact h)
  | .pt a b c, x', h => settle_leafT (by unfold settleV at h; exact h)
  | .mp a, x', h => settle_leafT (by unfold settleV at h; exact h)
  | .v a, x', h => settle_leafT (by unfold settleV at h; exact h)
  | .nil, x', h => settle_leafT (by unfold settleV at h; exact h)
  | .sl a, x', h => settle_leafT (by unfold settleV at h; exact h)
  | .cl a, x', h => settle_leafT (by unfold settleV at h; exact h)
  | .dead, x', h => settle_leafT (by unfold settleV at h; exact h)
  | .rp a, x', h => settle_leafT (by unfold settleV at h; exact h)
  | .clo a b, x', h => settle_leafT (by unfold settleV at h; exact h)
theorem settle_toksL {n : Nat} : ∀ (l l' : List AV), settleL n σ l = some l' → ∀ t ∈ toksL l', t < n
  | [], l', h => by
    unfold settleL at h
    cases h
    intro t ht
    simp [toksL] at ht
  | x :: r, l', h => by
    unfold settleL at h
    replace h := Option.bind_eq_some_iff.1 h
    obtain ⟨x', hx, h⟩ := h
    obtain ⟨r', hr', rfl⟩ := Option.map_eq_some_iff.1 h
    intro t ht
    rcases List.mem_append.1 (show t ∈ toksV x' ++ toksL r' from by simpa [toksL] using ht) with h1 | h1
    · exact settle_toksV x x' hx t h1
    · exact settle_toksL r r' hr' t h1
theorem settle_leafT {n : Nat} {x x' : AV} (h : (if (toksV x).all (fun t => decide (t < n)) then some x else (freezeV σ x).map (·.1)) = some x') : ∀ t ∈ toksV x', t < n := by
  intro t ht
  split at h
  · rename_i hall
    cases h
    simpa using List.all_eq_true.1 hall t ht
  · obtain ⟨p, hp, rfl⟩ := Option.map_eq_some_iff.1 h
    exfalso
    cases x with
    | os t off len =>
      simp only [freezeV] at hp
      split at hp
      · cases hp; simp [toksV] at ht
      · cases hp
    | nil => simp only [freezeV] at hp; cases hp; simp [toksV] at ht
    | sl xs => simp only [freezeV] at hp; cases hp; simp [toksV] at ht
    | v x =>
      simp only [freezeV] at hp
      split at hp
      · cases hp; simp [toksV] at ht
      · cases hp
    | _ => simp [freezeV] at hp
end
mutual
theorem nameV_none (g : Nat → Nat) : ∀ x : AV, (∀ t, t ∉ toksV x) → nameV g x = x
  | .v _, _ | .nil, _ | .sl _, _ | .cl _, _ | .dead, _ => by simp [nameV]
  | .os t _ _, h => absurd (by simp [toksV]) (h t)
  | .pt t _ _, h => absurd (by simp [toksV]) (h t)
  | .mp t, h => absurd (by simp [toksV]) (h t)
  | .rp cells, h => by simp [nameV, nameL_none g cells (fun t ht => h t (by simpa [toksV] using ht))]
  | .clo f caps, h => by simp [nameV, nameL_none g caps (fun t ht => h t (by simpa [toksV] using ht))]
  | .agg cells, h => by simp [nameV, nameL_none g cells (fun t ht => h t (by simpa [toksV] using ht))]
  | .tup xs, h => by simp [nameV, nameL_none g xs (fun t ht => h t (by simpa [toksV] using ht))]
theorem nameL_none (g : Nat → Nat) : ∀ l : List AV, (∀ t, t ∉ toksL l) → nameL g l = l
  | [], _ => rfl
  | x :: r, h => by rw [nameL, nameV_none g x (fun t ht => h t (by simp [toksL, ht])), nameL_none g r (fun t ht => h t (by simp [toksL, ht]))]
end
theorem weakO_one {k : Nat} (h : k < LEND) (args : List AV) : weakO [k] args = weakL args := if_neg fun e => by
  have e' : k = KEEPN := Option.some.inj e
  rw [e'] at h
  exact absurd h (by decide)
theorem ownO_one {k : Nat} (h : k < LEND) : ownO [k] = [k] := if_neg fun e => by
  have e' : k = KEEPN := Option.some.inj e
  rw [e'] at h
  exact absurd h (by decide)
theorem callS_ok {call : CallF} {base : Nat} {own : List Nat} {f : FuncId} {args : List AV} {vs : Array Value} {out : Out} (hC : CallOk P call) (hS : StoOk ρ w σ) (ha : RVs ρ w args vs.toList) (h : callS call base own f args σ = some out) :
    (∃ q s x, call f q s = some x) ∧ Calls P f vs w fun e w' => ∃ v, e = .returned v ∧ Post ρ w out v w' := by
  have ha2 : RVs ρ w (weakO own args) vs.toList := by
    unfold weakO; split
    · exact ha
    · exact ha.weak
  unfold callS at h
  simp only at h
  split at h
  · rename_i hc
    replace h := Option.bind_eq_some_iff.1 h
    obtain ⟨⟨r, s1, mv⟩, hcall, h⟩ := h
    obtain ⟨r2, hr2, rfl⟩ := Option.map_eq_some_iff.1 h
    have htk : toksL (weakO own args) = [] := by simpa using hc.1
    have hcl : closedA [] (weakO own args) σ = true := by simp [closedA, htk]
    have hnm : nameL (idxOf []) (weakO own args) = weakO own args := by
      apply List.ext_getElem?
      intro j
      rw [nameL_get]
      cases hj : (weakO own args)[j]? with
      | none => rfl
      | some x =>
        have hx : ∀ t, t ∉ toksV x := fun t ht => by have := toksL_mem hj ht; rw [htk] at this; simp at this
        simp only [Option.map_some]
        congr 1
        exact nameV_none _ x hx
    have hcs := hC f _ _ r s1 mv hcall (loc ρ []) w vs (by simpa using loc_sto hS hcl) (by have := loc_args hcl ha2; rwa [hnm] at this)
    refine ⟨⟨_, _, _, hcall⟩, hcs.mono ?_⟩
    rintro e w' ⟨v, ρl', rfl, hrv, hS', hx⟩
    refine ⟨v, rfl, ρ, ?_, ?_, ?_⟩
    · have hr3 := settleV_ok hS' (n := 0) (TS := List.range' 0 s1.length) (fun t => by rw [List.mem_range'_1]; omega) r r2 v hrv hr2
      have htr := settle_toksV r r2 hr2
      have := hr3.name (ρ' := ρ) (g := id) (fun t ht => by have := htr t ht; omega) (fun b hb => by
        right
        rw [show (del ρl' (List.range' 0 s1.length)).X = (loc ρ []).X from hx.X]
        rcases hb with ⟨t, k, h1, h2⟩ | hb
        · exact .inr ⟨t, k, by simp, h1, h2⟩
        · exact .inl hb)
      rwa [nameV_none id r2 (fun t ht => by have := htr t ht; omega)] at this
    · have hno : ∀ b, ¬ E.own (loc ρ []) b := fun b ⟨t, k, h1, _⟩ => by
        obtain ⟨_, h3, _⟩ := loc_some h1
        simp at h3
      exact hS.ext ⟨hx.os, hx.tape, hx.output, hx.size, fun b hb _ => hx.keep b hb (hno b), fun b hb => .inl hb, rfl, fun _ _ => rfl⟩ (fun t k ht => hx.keep _ (hS.blk t k ht) (hno _))
    · have hno : ∀ b, ¬ E.own (loc ρ []) b := fun b ⟨t, k, h1, _⟩ => by
        obtain ⟨_, h3, _⟩ := loc_some h1
        simp at h3
      exact ⟨hx.os, hx.tape, hx.output, hx.size, fun b hb _ => hx.keep b hb (hno b), fun b hb => .inl hb, rfl, fun _ _ => rfl⟩
  · exact callB_ok hC hS ha2 h
end
end Go.Proofs.YtabdcfcnngnnoaaDoor.E
set_option linter.unusedVariables false
set_option linter.unusedSimpArgs false
namespace Go.Proofs.YtabdcfcnngnnoaaDoor.E
open Go
section
variable {P : Program} {o : Oper} {a : Act} {w : World} {ρ : Gh} {σ : List Row}
theorem frozen_toks {x : AV} (h : frozen x = true) : toksV x = [] := by
  cases x <;> first | rfl | simp [frozen] at h
theorem frozens_toks : ∀ m : List AV, (∀ x ∈ m, frozen x = true) → toksL m = []
  | [], _ => rfl
  | u :: us, hm => by simp [toksL, frozen_toks (hm u (by simp)), frozens_toks us (fun x hx => hm x (by simp [hx]))]
theorem lendL_ok (hS : StoOk ρ w σ) {TS : List Nat} : ∀ {l l' : List AV} {vs : List Value} {ts : List Nat}, lendL σ l = some (l', ts) → RVs ρ w l vs → (∀ t ∈ ts, t ∈ TS) → RVs (del ρ TS) w l' vs ∧ toksL l' = []
  | [], l', vs, ts, h, hv, _ => by
    cases h
    have : vs = [] := List.eq_nil_of_length_eq_zero (by rw [← hv.1]; rfl)
    subst this
    exact ⟨RVs.nil', rfl⟩
  | x :: r, l', vs, ts, h, hv, hsub => by
    simp only [lendL] at h
    obtain ⟨⟨a1, a2⟩, h1, h⟩ := Option.bind_eq_some_iff.1 h
    obtain ⟨⟨b1, b2⟩, h2, h⟩ := Option.bind_eq_some_iff.1 h
    cases h
    obtain ⟨y, vr, rfl, hy, hvr⟩ := hv.head
    obtain ⟨k1, k2⟩ := lendL_ok hS (TS := TS) h2 hvr (fun t ht => hsub t (by simp [ht]))
    unfold lendW at h1
    split at h1
    · rename_i he
      cases h1
      have he' : toksV x = [] := by simpa using he
      have := hy.ext (Ext.giveUp ρ w TS)
      rw [killV_not TS x (fun t ht => by rw [he'] at ht; simp at ht)] at this
      exact ⟨RVs.cons' this k1, by simp [toksL, he', k2]⟩
    · split at h1
      · rename_i l0 _
        obtain ⟨⟨c1, c2⟩, h3, h4⟩ := Option.map_eq_some_iff.1 h1
        cases h4
        cases hy with
        | agg l vs hl hs0 =>
          obtain ⟨g1, g2⟩ := freezeL_ok hS (TS := TS) h3 (⟨by simpa using hl, fun j x y h5 h6 => hs0 j x y h5 (by simpa using h6)⟩ : RVs ρ w l0 vs.toList) (fun t ht => hsub t (by simp [ht]))
          have e0 : toksL c1 = [] := frozens_toks c1 g2
          exact ⟨RVs.cons' (.agg c1 vs (by rw [g1.1]; simp) (fun j x y h5 h6 => g1.2 j x y h5 (by simpa using h6))) k1, by simp [toksL, toksV, e0, k2]⟩
      · obtain ⟨g1, g2⟩ := freezeV_ok hS h1 hy (TS := TS) (fun t ht => hsub t (by simp [ht]))
        exact ⟨RVs.cons' g1 k1, by simp [toksL, frozen_toks g2, k2]⟩
/-- What is fresh is none of the caller's. -/
def Fresh (ρ : Gh) (w : World) (ρ' : Gh) : Prop := ∀ t k, ρ' t = some k → w.heap.size ≤ k.b
theorem lentArr {ρ' : Gh} {w' : World} {s1 : List Row} {t off len sz : Nat} {xs : List (List AV)} {y : Value} (hS : StoOk ρ w σ) (hS' : StoOk ρ' w' s1) (hF : Fresh ρ w ρ') (hs : s1[t]? = some (.arr sz xs)) (hsc : scalars xs = true) (hr : RV ρ' w' (.os t off len) y) : RV ρ w' (.sl ((xs.drop off).take len)) y := by
  have hv : ∀ (i : Nat) (row : List AV) (j : Nat) (x : AV), xs[i]? = some row → row[j]? = some x → ∃ z, x = .v z := fun i row j x h1 h2 => by
    have h3 := List.all_eq_true.1 hsc row (List.mem_of_getElem? h1)
    have h4 := List.all_eq_true.1 h3 x (List.mem_of_getElem? h2)
    cases x <;> first | exact ⟨_, rfl⟩ | simp [scalarA] at h4
  cases hr with
  | os t off len k a ht hn hcap ha =>
    have hk := hS'.row t _ hs
    rw [ht] at hk
    obtain ⟨h0, h1, h2, cs, e, hb, hsz, hc⟩ := hk
    have hl : ((xs.drop off).take len).length = len := by simp; omega
    have := RV.sl (ρ := ρ) (w := w') ((xs.drop off).take len) a (k.cap - off) k.sz (fun i j => cs.getD ((k.o + off + i) * k.sz + j) undef) (by rw [hl]; omega) (fun hp => by
        rw [hl] at hp; rw [ha (by omega)]; rfl) (fun i row hi => ?_) (fun i row j x hi hj => ?_) (fun i row j x hi hj => ?_)
    · rwa [hl] at this
    · rw [List.getElem?_take] at hi
      split at hi
      · rw [List.getElem?_drop] at hi; exact (hc _ row hi).1
      · cases hi
    · rw [List.getElem?_take] at hi
      split at hi
      · rename_i hlt
        rw [List.getElem?_drop] at hi
        obtain ⟨hf, u, hu, hru⟩ := (hc _ row hi).2 j x hj
        refine ⟨hf, _, ha (by omega), ?_, ?_⟩
        · have hfr := hF t k ht
          rintro (⟨t', k', h3, h4⟩ | h3)
          · have := hS.blk t' k' h3
            have h4' : k'.b = k.b := h4
            omega
          · have := hS.old _ h3
            have h5 : k.b < w.heap.size := this
            omega
        · rw [add_add', cell_row hb]
          have e1 : (k.o + off) * k.sz + (i * k.sz + j) = (k.o + off + i) * k.sz + j := by rw [Nat.add_mul (k.o + off) i, Nat.add_assoc]
          have e2 : (k.o + (off + i)) * k.sz + j = (k.o + off + i) * k.sz + j := by rw [Nat.add_assoc]
          rw [e1]
          rw [e2] at hu
          simp [hu]
      · cases hi
    · rw [List.getElem?_take] at hi
      split at hi
      · rename_i hlt
        rw [List.getElem?_drop] at hi
        obtain ⟨hf, u, hu, hru⟩ := (hc _ row hi).2 j x hj
        have e2 : (k.o + (off + i)) * k.sz + j = (k.o + off + i) * k.sz + j := by rw [Nat.add_assoc]
        rw [e2] at hu
        simp only [Array.getD_eq_getD_getElem?, hu, Option.getD_some]
        obtain ⟨z, rfl⟩ := hv _ row j x hi hj
        cases hru
        exact .v _
      · cases hi
  | osn t a ht =>
    simp only [List.take_zero]
    exact .sl [] a 0 0 (fun _ _ => undef) (by simp) (fun h => by simp at h) (fun i row h => by simp at h) (fun i row j x h => by simp at h) (fun i row j x h => by simp at h)
theorem lentV_ok {ρ' : Gh} {w' : World} {s1 : List Row} {x r : AV} {y : Value} (hS : StoOk ρ w σ) (hS' : StoOk ρ' w' s1) (hF : Fresh ρ w ρ') (h : lentV s1 x = some r) (hr : RV ρ' w' x y) : RV ρ w' r y := by
  unfold lentV at h
  split at h
  · cases h; cases hr; exact .v _
  · cases h
    generalize hl : ([] : List (List AV)) = l at hr
    cases hr with
    | sl xs a c sz U hc ha hrow hcell hsub =>
      subst hl
      exact .sl [] a c 0 (fun _ _ => undef) (by simp) (fun h => by simp at h) (fun i row h => by simp at h) (fun i row j x h => by simp at h) (fun i row j x h => by simp at h)
  · split at h
    · rename_i hs
      split at h
      · rename_i hsc
        cases h
        exact lentArr hS hS' hF hs hsc hr
      · cases h
    · cases h
  · cases h
theorem lentL_ok {ρ' : Gh} {w' : World} {s1 : List Row} (hS : StoOk ρ w σ) (hS' : StoOk ρ' w' s1) (hF : Fresh ρ w ρ') : ∀ {l l' : List AV} {vs : List Value}, lentL s1 l = some l' → RVs ρ' w' l vs → RVs ρ w' l' vs
  | [], l', vs, h, hv => by
    cases h
    have : vs = [] := List.eq_nil_of_length_eq_zero (by rw [← hv.1]; rfl)
    subst this
    exact RVs.nil'
  | x :: r, l', vs, h, hv => by
    simp only [lentL] at h
    obtain ⟨y, hy, h⟩ := Option.bind_eq_some_iff.1 h
    obtain ⟨r', hr', rfl⟩ := Option.map_eq_some_iff.1 h
    obtain ⟨z, vr, rfl, hz, hvr⟩ := hv.head
    exact RVs.cons' (lentV_ok hS hS' hF hy hz) (lentL_ok hS hS' hF hr' hvr)
theorem lentR_ok {ρ' : Gh} {w' : World} {s1 : List Row} {x r : AV} {y : Value} (hS : StoOk ρ w σ) (hS' : StoOk ρ' w' s1) (hF : Fresh ρ w ρ') (h : lentR s1 x = some r) (hr : RV ρ' w' x y) : RV ρ w' r y := by
  unfold lentR at h
  split at h
  · obtain ⟨l', hl', rfl⟩ := Option.map_eq_some_iff.1 h
    cases hr with
    | tup l vs hl hsub =>
      have := lentL_ok hS hS' hF hl' (vs := vs.toList) ⟨by simpa using hl, fun j x y h1 h2 => hsub j x y h1 (by simpa using h2)⟩
      exact .tup _ vs (by simpa using this.1) (fun j x y h1 h2 => this.2 j x y h1 (by simpa using h2))
  · obtain ⟨l', hl', rfl⟩ := Option.map_eq_some_iff.1 h
    cases hr with
    | agg l vs hl hsub =>
      have := lentL_ok hS hS' hF hl' (vs := vs.toList) ⟨by simpa using hl, fun j x y h1 h2 => hsub j x y h1 (by simpa using h2)⟩
      exact .agg _ vs (by simpa using this.1) (fun j x y h1 h2 => this.2 j x y h1 (by simpa using h2))
  · exact lentV_ok hS hS' hF h hr
theorem lendA_ok {call : CallF} {base : Nat} {own : List Nat} {f : FuncId} {args : List AV} {vs : Array Value} {out : Out} (hC : CallOk P call) (hS : StoOk ρ w σ) (ha : RVs ρ w args vs.toList) (h : lendA call base own f args σ = some out) :
    (∃ q s x, call f q s = some x) ∧ Calls P f vs w fun e w' => ∃ v, e = .returned v ∧ Post ρ w out v w' := by
  unfold lendA at h
  replace h := Option.bind_eq_some_iff.1 h
  obtain ⟨⟨fa, ts⟩, hfa, h⟩ := h
  replace h := Option.bind_eq_some_iff.1 h
  obtain ⟨⟨r, s1, mv⟩, hcall, h⟩ := h
  obtain ⟨hfv, htk⟩ := lendL_ok hS (TS := ts) hfa ha.weak (fun t ht => ht)
  have hS1 := hS.giveUp ts
  have hcl : closedA [] fa (giveUp ts σ) = true := by simp [closedA, htk]
  have hnm : nameL (idxOf []) fa = fa := by
    apply List.ext_getElem?
    intro j
    rw [nameL_get]
    cases hj : fa[j]? with
    | none => rfl
    | some x =>
      have hx : ∀ t, t ∉ toksV x := fun t ht => by have := toksL_mem hj ht; rw [htk] at this; simp at this
      simp only [Option.map_some]
      congr 1
      exact nameV_none _ x hx
  have hcs := hC f _ _ r s1 mv hcall (loc (del ρ ts) []) w vs (by simpa using loc_sto hS1 hcl) (by have := loc_args hcl hfv; rwa [hnm] at this)
  refine ⟨⟨_, _, _, hcall⟩, hcs.mono ?_⟩
  rintro e w' ⟨v, ρl', rfl, hrv, hS', hx⟩
  have hno : ∀ b, ¬ E.own (loc (del ρ ts) []) b := fun b ⟨t, k, h1, _⟩ => by
    obtain ⟨_, h3, _⟩ := loc_some h1
    simp at h3
  have hF : Fresh ρ w ρl' := fun t k hk => (hx.new k.b ⟨t, k, hk, rfl⟩).elim (fun h => absurd h (hno _)) id
  have hkeep : ∀ b, b < w.heap.size → w'.heap[b]? = w.heap[b]? := fun b hb => hx.keep b hb (hno b)
  have hE : Ext ρ w ρ w' [] := ⟨hx.os, hx.tape, hx.output, hx.size, fun b hb _ => hkeep b hb, fun b hb => .inl hb, rfl, fun _ _ => rfl⟩
  have hSw : StoOk ρ w' σ := hS.ext hE (fun t k ht => hkeep _ (hS.blk t k ht))
  split at h
  · obtain ⟨r2, hr2, rfl⟩ := Option.map_eq_some_iff.1 h
    exact ⟨v, rfl, ρ, lentR_ok hS hS' hF hr2 hrv, hSw, hE⟩
  · rename_i k0
    split at h
    · rename_i t off len hr
      have hr' : r = .os t off len := hr
      subst hr'
      split at h
      · rename_i sz xs hs
        split at h
        · rename_i hc
          cases h
          have hs' : s1[t]? = some (.arr sz xs) := hs
          have hv : ∀ (i : Nat) (row : List AV) (j : Nat) (x : AV), xs[i]? = some row → row[j]? = some x → ∃ z, x = .v z := fun i row j x h1 h2 => by
            have h3 := List.all_eq_true.1 hc.2 row (List.mem_of_getElem? h1)
            have h4 := List.all_eq_true.1 h3 x (List.mem_of_getElem? h2)
            cases x <;> first | exact ⟨_, rfl⟩ | simp [scalarA] at h4
          have hk := hS'.row t _ hs'
          cases hrv with
          | os t off len k a ht hn hcap ha2 =>
            rw [ht] at hk
            obtain ⟨h0, h1, h2, cs, e, hb, hsz, hcell⟩ := hk
            have hfr := hF t k ht
            have hbw : k.b < w'.heap.size := hS'.blk t k ht
            have hx2 : Ext ρ w (upd ρ (base + k0) k) w' [base + k0] :=
              ⟨hx.os, hx.tape, hx.output, hx.size, fun b hb _ => hkeep b hb, fun b ⟨u, ku, h3, h4⟩ => by
                rw [upd_at] at h3
                split at h3
                · cases h3; exact .inr (by omega)
                · exact .inl ⟨u, ku, h3, h4⟩, rfl, fun u hu => by rw [upd_at, if_neg (by simpa using hu)]⟩
            refine ⟨_, rfl, upd ρ (base + k0) k, .os _ off len k a (by rw [upd_at, if_pos rfl]) hn hcap ha2, ?_, hx2⟩
            refine hS.put hx2 (base + k0) (.arr sz xs) ?_ (fun u ku hu => ?_) (fun u u' k1 k2 g1 g2 ge => ?_) (fun u ku hu => ?_) (fun u ku _ _ hu => hkeep _ (hS.blk u ku hu))
            · rw [upd_at, if_pos rfl]
              refine ⟨h0, h1, h2, cs, e, hb, hsz, fun i row hi => ⟨(hcell i row hi).1, fun j x hj => ?_⟩⟩
              obtain ⟨hf, y, hy, hry⟩ := (hcell i row hi).2 j x hj
              obtain ⟨z, rfl⟩ := hv i row j x hi hj
              cases hry
              exact ⟨hf, _, hy, .v _⟩
            · rw [upd_at] at hu
              split at hu
              · rename_i e1; rw [e1]; exact hc.1
              · exact hS.len u ku hu
            · rw [upd_at] at g1 g2
              split at g1
              · split at g2
                · rename_i e1 e2; rw [e1, e2]
                · cases g1; have := hS.blk u' k2 g2; omega
              · split at g2
                · cases g2; have := hS.blk u k1 g1; omega
                · exact hS.inj u u' k1 k2 g1 g2 ge
            · rw [upd_at] at hu
              split at hu
              · cases hu; exact ⟨hbw, fun hX => by have := hS.old _ hX; omega⟩
              · have := hS.blk u ku hu
                exact ⟨Nat.lt_of_lt_of_le this hx.size, hS.apart u ku hu⟩
          | osn t a ht =>
            rw [ht] at hk
            have hxs : xs = [] := hk
            subst hxs
            have hx2 : Ext ρ w (del ρ [base + k0]) w' [base + k0] :=
              ⟨hx.os, hx.tape, hx.output, hx.size, fun b hb _ => hkeep b hb, fun b ⟨u, ku, h3, h4⟩ => .inl ⟨u, ku, (del_some h3).1, h4⟩, rfl, fun u hu => by rw [del_at, if_neg hu]⟩
            refine ⟨_, rfl, del ρ [base + k0], .osn _ a (by rw [del_at, if_pos (by simp)]), ?_, hx2⟩
            refine hS.put hx2 (base + k0) (.arr sz []) ?_ (fun u ku hu => hS.len u ku (del_some hu).1) (fun u u' k1 k2 g1 g2 ge => hS.inj u u' k1 k2 (del_some g1).1 (del_some g2).1 ge) (fun u ku hu => ⟨Nat.lt_of_lt_of_le (hS.blk u ku (del_some hu).1) hx.size, hS.apart u ku (del_some hu).1⟩) (fun u ku _ _ hu => hkeep _ (hS.blk u ku hu))
            rw [del_at, if_pos (by simp)]
            rfl
        · cases h
      · cases h
    · rename_i hr
      have hr' : r = .nil := hr
      subst hr'
      cases h
      cases hrv
      exact ⟨_, rfl, ρ, .nil _, hSw, hE⟩
    · cases h
  · cases h
theorem callA_ok {call : CallF} {base : Nat} {own : List Nat} {f : FuncId} {args : List AV} {vs : Array Value} {out : Out} (hC : CallOk P call) (hS : StoOk ρ w σ) (ha : RVs ρ w args vs.toList) (h : callA call base own f args σ = some out) :
    (∃ q s x, call f q s = some x) ∧ Calls P f vs w fun e w' => ∃ v, e = .returned v ∧ Post ρ w out v w' := by
  unfold callA at h
  split at h
  · exact lendA_ok hC hS ha h
  · exact callS_ok hC hS ha h
end
end Go.Proofs.YtabdcfcnngnnoaaDoor.E
