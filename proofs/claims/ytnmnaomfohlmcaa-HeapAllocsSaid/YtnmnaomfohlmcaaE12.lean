/- What a call does is what the evaluator says; and each operation. -/
import Derived.Test.YtnmnaomfohlmcaaE11
set_option linter.unusedVariables false
set_option linter.unusedSimpArgs false
namespace Go.Proofs.Ytnmnaomfohlmcaa.E
open Go
section
variable {P : Program} {o : Oper} {a : Act} {w : World} {ρ : Gh} {σ : List Row}
theorem freezeV_lt {x : AV} {p : AV × List Nat} (h : freezeV σ x = some p) : ∀ t ∈ p.2, t ∈ toksV x ∧ t < σ.length := by
  cases x with
  | os t off len =>
    simp only [freezeV] at h
    split at h
    · rename_i sz xs hσ
      cases h
      intro u hu
      have : u = t := by simpa using hu
      subst this
      exact ⟨by simp [toksV], (List.getElem?_eq_some_iff.1 hσ).1⟩
    · cases h
  | nil => simp only [freezeV] at h; cases h; intro u hu; simp at hu
  | sl xs => simp only [freezeV] at h; cases h; intro u hu; simp at hu
  | v x =>
    simp only [freezeV] at h
    split at h
    · cases h; intro u hu; simp at hu
    · cases h
  | _ => simp [freezeV] at h
theorem settleLeaf {n : Nat} {TS : List Nat} (hS : StoOk ρ w σ) (hT : ∀ t, t ∈ TS ↔ n ≤ t ∧ t < σ.length) {x x' : AV} {y : Value} (hr : RV ρ w x y)
    (hsing : (toksV x).all (fun t => decide (t < n)) = false → ∀ t ∈ toksV x, n ≤ t) (h : (if (toksV x).all (fun t => decide (t < n)) then some x else (freezeV σ x).map (·.1)) = some x') : RV (del ρ TS) w x' y := by
  split at h
  · rename_i hall
    cases h
    have := hr.ext (Ext.giveUp ρ w TS)
    rwa [killV_not TS x (fun t ht hm => by
      have h1 := List.all_eq_true.1 hall t ht
      have h2 := (hT t).1 hm
      simp at h1
      omega)] at this
  · rename_i hall
    obtain ⟨p, hp, rfl⟩ := Option.map_eq_some_iff.1 h
    have hl := freezeV_lt hp
    exact (freezeV_ok (ts := p.2) hS hp hr (fun t ht => (hT t).2 ⟨hsing (by simpa using hall) t (hl t ht).1, (hl t ht).2⟩)).1
mutual
theorem settleV_ok {n : Nat} {TS : List Nat} (hS : StoOk ρ w σ) (hT : ∀ t, t ∈ TS ↔ n ≤ t ∧ t < σ.length) : ∀ (x : AV) (x' : AV) (y : Value), RV ρ w x y → settleV n σ x = some x' → RV (del ρ TS) w x' y
  | .agg l, x', y, hr, h => by
    unfold settleV at h
    obtain ⟨l', hl', rfl⟩ := Option.map_eq_some_iff.1 h
    cases hr with
    | agg l vs hl hsub =>
      have := settleL_ok hS hT l l' vs.toList ⟨by simpa using hl, fun j x y h1 h2 => hsub j x y h1 (by simpa using h2)⟩ hl'
      exact .agg _ vs (by simpa using this.1) (fun j x y h1 h2 => this.2 j x y h1 (by simpa using h2))
  | .tup l, x', y, hr, h => by
    unfold settleV at h
    obtain ⟨l', hl', rfl⟩ := Option.map_eq_some_iff.1 h
    cases hr with
    | tup l vs hl hsub =>
      have := settleL_ok hS hT l l' vs.toList ⟨by simpa using hl, fun j x y h1 h2 => hsub j x y h1 (by simpa using h2)⟩ hl'
      exact .tup _ vs (by simpa using this.1) (fun j x y h1 h2 => this.2 j x y h1 (by simpa using h2))
  | .os t off len, x', y, hr, h => settleLeaf hS hT hr (fun h1 => by intro u hu; simp [toksV] at h1 hu; omega) (by unfold settleV at h; exact h)
  | .pt t i j, x', y, hr, h => settleLeaf hS hT hr (fun h1 => by intro u hu; simp [toksV] at h1 hu; omega) (by unfold settleV at h; exact h)
  | .mp t, x', y, hr, h => settleLeaf hS hT hr (fun h1 => by intro u hu; simp [toksV] at h1 hu; omega) (by unfold settleV at h; exact h)
  | .v z, x', y, hr, h => settleLeaf hS hT hr (fun h1 => by simp [toksV] at h1) (by unfold settleV at h; exact h)
  | .nil, x', y, hr, h => settleLeaf hS hT hr (fun h1 => by simp [toksV] at h1) (by unfold settleV at h; exact h)
  | .sl xs, x', y, hr, h => settleLeaf hS hT hr (fun h1 => by simp [toksV] at h1) (by unfold settleV at h; exact h)
  | .cl xs, x', y, hr, h => settleLeaf hS hT hr (fun h1 => by simp [toksV] at h1) (by unfold settleV at h; exact h)
  | .dead, x', y, hr, h => settleLeaf hS hT hr (fun h1 => by simp [toksV] at h1) (by unfold settleV at h; exact h)
  | .rp cells, x', y, hr, h => by
    unfold settleV at h
    split at h
    · rename_i hall
      cases h
      have := hr.ext (Ext.giveUp ρ w TS)
      rwa [killV_not TS (.rp cells) (fun t ht hm => by
        have h1 := List.all_eq_true.1 hall t ht
        have h2 := (hT t).1 hm
        simp at h1
        omega)] at this
    · simp [freezeV] at h
  | .clo f caps, x', y, hr, h => by
    unfold settleV at h
    split at h
    · rename_i hall
      cases h
      have := hr.ext (Ext.giveUp ρ w TS)
      rwa [killV_not TS (.clo f caps) (fun t ht hm => by
        have h1 := List.all_eq_true.1 hall t ht
        have h2 := (hT t).1 hm
        simp at h1
        omega)] at this
    · simp [freezeV] at h
theorem settleL_ok {n : Nat} {TS : List Nat} (hS : StoOk ρ w σ) (hT : ∀ t, t ∈ TS ↔ n ≤ t ∧ t < σ.length) : ∀ (l l' : List AV) (vs : List Value), RVs ρ w l vs → settleL n σ l = some l' → RVs (del ρ TS) w l' vs
  | [], l', vs, hr, h => by
    unfold settleL at h
    cases h
    have : vs = [] := List.eq_nil_of_length_eq_zero (by rw [← hr.1]; rfl)
    subst this
    exact RVs.nil'
  | x :: r, l', vs, hr, h => by
    unfold settleL at h
    replace h := Option.bind_eq_some_iff.1 h
    obtain ⟨x', hx, h⟩ := h
    obtain ⟨r', hr', rfl⟩ := Option.map_eq_some_iff.1 h
    obtain ⟨y, vr, rfl, hy, hvr⟩ := hr.head
    exact RVs.cons' (settleV_ok hS hT x x' y hy hx) (settleL_ok hS hT r r' vr hvr hr')
end
/-- What is known of a call. -/
def CallOk (P : Program) (call : CallF) : Prop := ∀ f args sto r s1 mv, call f args sto = some (r, s1, mv) → ∀ (ρ : Gh) (w : World) (vs : Array Value), StoOk ρ w sto → RVs ρ w args vs.toList →
  Calls P f vs w fun e w' => ∃ v ρ', e = .returned v ∧ RV ρ' w' r v ∧ StoOk ρ' w' s1 ∧ Ext ρ w ρ' w' (mv ++ List.range' sto.length (s1.length - sto.length))
theorem StoOk.more (hS : StoOk ρ w σ) (n : Nat) : StoOk ρ w (σ ++ List.replicate n .dead) where
  len := fun t k ht => by have := hS.len t k ht; simp; omega
  inj := hS.inj
  blk := hS.blk
  apart := hS.apart
  old := hS.old
  row := fun t r hr => by
    rw [List.getElem?_append] at hr
    split at hr
    · exact hS.row t r hr
    · rw [List.getElem?_replicate] at hr
      split at hr
      · cases hr; exact trivial
      · cases hr
theorem callB_ok {call : CallF} {base : Nat} {own : List Nat} {f : FuncId} {args : List AV} {ts : List Nat} {vs : Array Value} {out : Out} (hC : CallOk P call) (hS : StoOk ρ w σ) (ha : RVs ρ w args vs.toList) (h : callB call base own f args ts σ = some out) :
    (∃ q s x, call f q s = some x) ∧ Calls P f vs w fun e w' => ∃ v, e = .returned v ∧ Post ρ w out v w' := by
  unfold callB at h
  simp only at h
  split at h
  case isFalse => cases h
  rename_i hclosed
  split at h
  · cases h
  · rename_i r s1 mv hcall
    split at h
    case isFalse => cases h
    rename_i hcond
    obtain ⟨hm, hrt, hst⟩ := hcond
    have hrt' : ∀ t ∈ toksV r, t < s1.length := fun t ht => by simpa using List.all_eq_true.1 hrt t ht
    have hst' : ∀ row ∈ s1, ∀ t ∈ toksR row, t < s1.length := fun row hrow t ht => by
      have := List.all_eq_true.1 hst row hrow
      simpa using List.all_eq_true.1 this t ht
    have hcs := hC f _ _ r s1 mv hcall (loc ρ ts) w vs (loc_sto hS hclosed) (loc_args hclosed ha)
    obtain ⟨hn, hlt, _, _⟩ := closed_spec hclosed
    refine ⟨⟨_, _, _, hcall⟩, hcs.mono ?_⟩
    rintro e w' ⟨v, ρl', rfl, hrv, hS', hx⟩
    rw [List.length_map] at hx
    refine ⟨v, rfl, ?_⟩
    split at h
    · -- nothing is kept
      split at h
      · rename_i hlen
        cases h
        obtain ⟨ρ', h1, h2, h3⟩ := land hS hn (Nat.le_refl _) (fun i t ht => ht) hlen.symm hlt hrv hS' hx hrt' hst'
        rw [List.drop_length, List.append_nil] at h2 h3
        refine ⟨ρ', h1, ?_, h3⟩
        have e1 : (if (mv.map (getT ts)).isEmpty then σ else σ.map (killR (mv.map (getT ts)))) = σ.map (killR (mv.map (getT ts))) := by
          split
          · rename_i he
            have : mv.map (getT ts) = [] := by simpa using he
            rw [this]
            have : (killR [] : Row → Row) = id := funext killR_nil
            rw [this, List.map_id]
          · rfl
        simp only [e1]
        exact h2
      · rename_i hlen
        obtain ⟨r2, hr2, rfl⟩ := Option.map_eq_some_iff.1 h
        have hF : ts.length + (s1.length - ts.length) = s1.length := by omega
        have hTn : (ts ++ List.range' σ.length (s1.length - ts.length)).Nodup := by
          rw [List.nodup_append]
          refine ⟨hn, List.nodup_range', fun t ht t' ht' => ?_⟩
          rw [List.mem_range'_1] at ht'
          have := hlt t ht
          omega
        have hTl : (ts ++ List.range' σ.length (s1.length - ts.length)).length = s1.length := by simp; omega
        obtain ⟨ρ', h1, h2, h3⟩ := land (TS := ts ++ List.range' σ.length (s1.length - ts.length)) (hS.more (s1.length - ts.length)) hTn (by simp) (fun i t ht => by
            rw [List.getElem?_append_left (List.getElem?_eq_some_iff.1 ht).1]; exact ht) hTl (fun t ht => by
            rw [List.length_append, List.length_replicate]
            rcases List.mem_append.1 ht with h | h
            · have := hlt t h; omega
            · rw [List.mem_range'_1] at h; omega) hrv hS' hx hrt' hst'
        rw [List.drop_left] at h2 h3
        have hfl : (putBack (ts ++ List.range' σ.length (s1.length - ts.length)) (s1.map (nameR (getT (ts ++ List.range' σ.length (s1.length - ts.length))))) ((σ ++ List.replicate (s1.length - ts.length) Row.dead).map (killR (mv.map (getT ts) ++ List.range' σ.length (s1.length - ts.length))))).length = σ.length + (s1.length - ts.length) := by
          rw [putBack_len]; simp
        have hr3 := settleV_ok h2 (n := σ.length) (TS := List.range' σ.length (s1.length - ts.length)) (fun t => by rw [List.mem_range'_1, hfl]) _ r2 v h1 hr2
        have hS3 := h2.giveUp (List.range' σ.length (s1.length - ts.length))
        refine ⟨_, hr3, ⟨fun t k ht => ?_, hS3.inj, hS3.blk, hS3.apart, hS3.old, fun t row hrow => ?_⟩, ?_⟩
        · obtain ⟨h4, h5⟩ := del_some ht
          have h6 := h2.len t k h4
          rw [hfl] at h6
          rw [List.mem_range'_1] at h5
          rw [List.length_take, giveUp_len, hfl]
          omega
        · rw [List.getElem?_take] at hrow
          split at hrow
          · exact hS3.row t row hrow
          · cases hrow
        · refine ⟨h3.os, h3.tape, h3.output, h3.size, h3.keep, fun b ⟨t, k, h4, h5⟩ => h3.new b ⟨t, k, (del_some h4).1, h5⟩, h3.X, fun t ht => ?_⟩
          rw [del_at]
          split
          · rename_i hm
            rw [List.mem_range'_1] at hm
            cases hρ : ρ t with
            | none => rfl
            | some k => have := hS.len t k hρ; omega
          · rename_i hm
            exact h3.tok t (by simp only [List.mem_append, not_or]; exact ⟨ht, hm⟩)
    · split at h
      · rename_i hcond2
        cases h
        obtain ⟨hl2, hn2, hlt2⟩ := hcond2
        obtain ⟨ρ', h1, h2, h3⟩ := land (TS := ts ++ own.map (base + ·)) hS hn2 (by simp) (fun i t ht => by
            rw [List.getElem?_append_left (List.getElem?_eq_some_iff.1 ht).1]; exact ht) hl2 (fun t ht => by
            rcases List.mem_append.1 ht with h | h
            · exact hlt t h
            · simpa using List.all_eq_true.1 hlt2 t h) hrv hS' hx hrt' hst'
        rw [List.drop_left] at h2 h3
        exact ⟨ρ', h1, h2, h3⟩
      · cases h
mutual
theorem settle_toksV {n : Nat} : ∀ (x x' : AV), settleV n σ x = some x' → ∀ t ∈ toksV x', t < n
  | .agg l, x', h => by
    unfold settleV at h
    obtain ⟨l', hl', rfl⟩ := Option.map_eq_some_iff.1 h
    intro t ht
    exact settle_toksL l l' hl' t (by simpa [toksV] using ht)
  | .tup l, x', h => by
    unfold settleV at h
    obtain ⟨l', hl', rfl⟩ := Option.map_eq_some_iff.1 h
    intro t ht
    exact settle_toksL l l' hl' t (by simpa [toksV] using ht)
  | .os a b c, x', h => settle_leafT (by unfold settleV at h; exact h)
  | .pt a b c, x', h => settle_leafT (by unfold settleV at h; exact h)
  | .mp a, x', h => settle_leafT (by unfold settleV at h; exact h)
  | .v a, x', h => settle_leafT (by unfold settleV at h; exact h)
  | .nil, x', h => settle_leafT (by unfold settleV at h; exact h)
  | .sl a, x', h => settle_leafT (by unfold settleV at h; exact h)
  | .cl a, x', h => settle_leafT (by unfold settleV at h; exact h)
  | .dead, x', h => settle_leafT (by unfold settleV at h; exact h)
  | .rp a, x', h => settle_leafT (by unfold settleV at h; exact h)
  | .clo a b, x', h => settle_leafT (by unfold settleV at h; exact h)
theorem settle_toksL {n : Nat} : ∀ (l l' : List AV), settleL n σ l = some l' → ∀ t ∈ toksL l', t < n
  | [], l', h => by
    unfold settleL at h
    cases h
    intro t ht
    simp [toksL] at ht
  | x :: r, l', h => by
    unfold settleL at h
    replace h := Option.bind_eq_some_iff.1 h
    obtain ⟨x', hx, h⟩ := h
    obtain ⟨r', hr', rfl⟩ := Option.map_eq_some_iff.1 h
    intro t ht
    rcases List.mem_append.1 (show t ∈ toksV x' ++ toksL r' from by simpa [toksL] using ht) with h1 | h1
    · exact settle_toksV x x' hx t h1
    · exact settle_toksL r r' hr' t h1
theorem settle_leafT {n : Nat} {x x' : AV} (h : (if (toksV x).all (fun t => decide (t < n)) then some x else (freezeV σ x).map (·.1)) = some x') : ∀ t ∈ toksV x', t < n := by
  intro t ht
  split at h
  · rename_i hall
    cases h
    simpa using List.all_eq_true.1 hall t ht
  · obtain ⟨p, hp, rfl⟩ := Option.map_eq_some_iff.1 h
    exfalso
    cases x with
    | os t off len =>
      simp only [freezeV] at hp
      split at hp
      · cases hp; simp [toksV] at ht
      · cases hp
    | nil => simp only [freezeV] at hp; cases hp; simp [toksV] at ht
    | sl xs => simp only [freezeV] at hp; cases hp; simp [toksV] at ht
    | v x =>
      simp only [freezeV] at hp
      split at hp
      · cases hp; simp [toksV] at ht
      · cases hp
    | _ => simp [freezeV] at hp
end
mutual
theorem nameV_none (g : Nat → Nat) : ∀ x : AV, (∀ t, t ∉ toksV x) → nameV g x = x
  | .v _, _ | .nil, _ | .sl _, _ | .cl _, _ | .dead, _ => by simp [nameV]
  | .os t _ _, h => absurd (by simp [toksV]) (h t)
  | .pt t _ _, h => absurd (by simp [toksV]) (h t)
  | .mp t, h => absurd (by simp [toksV]) (h t)
  | .rp cells, h => by simp [nameV, nameL_none g cells (fun t ht => h t (by simpa [toksV] using ht))]
  | .clo f caps, h => by simp [nameV, nameL_none g caps (fun t ht => h t (by simpa [toksV] using ht))]
  | .agg cells, h => by simp [nameV, nameL_none g cells (fun t ht => h t (by simpa [toksV] using ht))]
  | .tup xs, h => by simp [nameV, nameL_none g xs (fun t ht => h t (by simpa [toksV] using ht))]
theorem nameL_none (g : Nat → Nat) : ∀ l : List AV, (∀ t, t ∉ toksL l) → nameL g l = l
  | [], _ => rfl
  | x :: r, h => by rw [nameL, nameV_none g x (fun t ht => h t (by simp [toksL, ht])), nameL_none g r (fun t ht => h t (by simp [toksL, ht]))]
end
theorem callS_ok {call : CallF} {base : Nat} {own : List Nat} {f : FuncId} {args : List AV} {vs : Array Value} {out : Out} (hC : CallOk P call) (hS : StoOk ρ w σ) (ha : RVs ρ w args vs.toList) (h : callS call base own f args σ = some out) :
    (∃ q s x, call f q s = some x) ∧ Calls P f vs w fun e w' => ∃ v, e = .returned v ∧ Post ρ w out v w' := by
  unfold callS at h
  simp only at h
  split at h
  · rename_i hc
    replace h := Option.bind_eq_some_iff.1 h
    obtain ⟨⟨r, s1, mv⟩, hcall, h⟩ := h
    obtain ⟨r2, hr2, rfl⟩ := Option.map_eq_some_iff.1 h
    have htk : toksL (weakL args) = [] := by simpa using hc.1
    have hcl : closedA [] (weakL args) σ = true := by simp [closedA, htk]
    have hnm : nameL (idxOf []) (weakL args) = weakL args := by
      apply List.ext_getElem?
      intro j
      rw [nameL_get]
      cases hj : (weakL args)[j]? with
      | none => rfl
      | some x =>
        have hx : ∀ t, t ∉ toksV x := fun t ht => by have := toksL_mem hj ht; rw [htk] at this; simp at this
        simp only [Option.map_some]
        congr 1
        exact nameV_none _ x hx
    have hcs := hC f _ _ r s1 mv hcall (loc ρ []) w vs (by simpa using loc_sto hS hcl) (by have := loc_args hcl ha.weak; rwa [hnm] at this)
    refine ⟨⟨_, _, _, hcall⟩, hcs.mono ?_⟩
    rintro e w' ⟨v, ρl', rfl, hrv, hS', hx⟩
    refine ⟨v, rfl, ρ, ?_, ?_, ?_⟩
    · have hr3 := settleV_ok hS' (n := 0) (TS := List.range' 0 s1.length) (fun t => by rw [List.mem_range'_1]; omega) r r2 v hrv hr2
      have htr := settle_toksV r r2 hr2
      have := hr3.name (ρ' := ρ) (g := id) (fun t ht => by have := htr t ht; omega) (fun b hb => by
        right
        rw [show (del ρl' (List.range' 0 s1.length)).X = (loc ρ []).X from hx.X]
        rcases hb with ⟨t, k, h1, h2⟩ | hb
        · exact .inr ⟨t, k, by simp, h1, h2⟩
        · exact .inl hb)
      rwa [nameV_none id r2 (fun t ht => by have := htr t ht; omega)] at this
    · have hno : ∀ b, ¬ E.own (loc ρ []) b := fun b ⟨t, k, h1, _⟩ => by
        obtain ⟨_, h3, _⟩ := loc_some h1
        simp at h3
      exact hS.ext ⟨hx.os, hx.tape, hx.output, hx.size, fun b hb _ => hx.keep b hb (hno b), fun b hb => .inl hb, rfl, fun _ _ => rfl⟩ (fun t k ht => hx.keep _ (hS.blk t k ht) (hno _))
    · have hno : ∀ b, ¬ E.own (loc ρ []) b := fun b ⟨t, k, h1, _⟩ => by
        obtain ⟨_, h3, _⟩ := loc_some h1
        simp at h3
      exact ⟨hx.os, hx.tape, hx.output, hx.size, fun b hb _ => hx.keep b hb (hno b), fun b hb => .inl hb, rfl, fun _ _ => rfl⟩
  · exact callB_ok hC hS ha.weak h
end
end Go.Proofs.Ytnmnaomfohlmcaa.E
