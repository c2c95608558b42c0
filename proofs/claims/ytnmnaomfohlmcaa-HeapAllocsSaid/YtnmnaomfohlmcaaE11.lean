/- What a call does is what the evaluator says. -/
import Derived.Test.YtnmnaomfohlmcaaE10
set_option linter.unusedVariables false
set_option linter.unusedSimpArgs false
namespace Go.Proofs.Ytnmnaomfohlmcaa.E
open Go
theorem nameL_get (g : Nat → Nat) : ∀ (l : List AV) (j : Nat), (nameL g l)[j]? = (l[j]?).map (nameV g)
  | [], j => by simp [nameL]
  | x :: r, 0 => by simp [nameL]
  | x :: r, j + 1 => by simp [nameL, nameL_get g r j]
theorem nameL_len (g : Nat → Nat) : ∀ l : List AV, (nameL g l).length = l.length
  | [] => rfl
  | x :: r => by simp [nameL, nameL_len g r]
theorem nameV_frozen (g : Nat → Nat) : ∀ x : AV, frozen x = true → nameV g x = x
  | .v _, _ => by simp [nameV]
  | .nil, _ => rfl
  | .sl _, _ => rfl
  | .cl _, h | .os .., h | .pt .., h | .rp _, h | .mp _, h | .clo .., h | .agg _, h | .tup _, h | .dead, h => by simp [frozen] at h
theorem weakL_get : ∀ (l : List AV) (j : Nat), (weakL l)[j]? = (l[j]?).map weakV
  | [], j => by simp [weakL]
  | x :: r, 0 => by simp [weakL]
  | x :: r, j + 1 => by simp [weakL, weakL_get r j]
theorem weakL_len : ∀ l : List AV, (weakL l).length = l.length
  | [] => rfl
  | x :: r => by simp [weakL, weakL_len r]
section
variable {P : Program} {o : Oper} {a : Act} {w : World} {ρ : Gh} {σ : List Row}
theorem RV.weak {x : AV} {y : Value} (h : RV ρ w x y) : RV ρ w (weakV x) y := by
  induction h with
  | nil a => exact .sl [] a 0 0 (fun _ _ => undef) (Nat.le_refl _) (fun h => by simp at h) (fun i row h => by simp at h) (fun i row j x h => by simp at h) (fun i row j x h => by simp at h)
  | agg l vs hl hsub ih =>
    unfold weakV
    refine .agg _ vs (by rw [weakL_len]; exact hl) (fun j x y h1 h2 => ?_)
    rw [weakL_get] at h1
    obtain ⟨x0, h3, rfl⟩ := Option.map_eq_some_iff.1 h1
    exact ih j x0 y h3 h2
  | tup l vs hl hsub ih =>
    unfold weakV
    refine .tup _ vs (by rw [weakL_len]; exact hl) (fun j x y h1 h2 => ?_)
    rw [weakL_get] at h1
    obtain ⟨x0, h3, rfl⟩ := Option.map_eq_some_iff.1 h1
    exact ih j x0 y h3 h2
  | v x => exact .v x
  | dead y => exact .dead y
  | sl xs a c sz U hc ha hrow hcell hsub ih => exact .sl xs a c sz U hc ha hrow hcell hsub
  | cl xs a h ih => exact .cl xs a h
  | os t off len k a ht hn hcap ha => exact .os t off len k a ht hn hcap ha
  | osn t a ht => exact .osn t a ht
  | pt t i j k ht => exact .pt t i j k ht
  | rp cells a U hcell hsub ih => exact .rp cells a U hcell hsub
  | mp t k ht => exact .mp t k ht
  | clo f caps vs hl hsub ih => exact .clo f caps vs hl hsub
theorem RVs.weak {l : List AV} {vs : List Value} (h : RVs ρ w l vs) : RVs ρ w (weakL l) vs :=
  ⟨by rw [weakL_len]; exact h.1, fun j x y h1 h2 => by
    rw [weakL_get] at h1
    obtain ⟨x0, h3, rfl⟩ := Option.map_eq_some_iff.1 h1
    exact (h.2 j x0 y h3 h2).weak⟩
/-- Tokens are called otherwise. -/
theorem RV.name {ρ' : Gh} {g : Nat → Nat} {x : AV} {y : Value} (h : RV ρ w x y) (hg : ∀ t, t ∈ toksV x → ρ' (g t) = ρ t) (ho : ∀ b, owns ρ' b → owns ρ b) : RV ρ' w (nameV g x) y := by
  induction h with
  | v x => exact .v x
  | dead y => exact .dead y
  | nil a => exact .nil a
  | sl xs a c sz U hc ha hrow hcell hsub ih =>
    refine .sl xs a c sz U hc ha hrow (fun i row j x h1 h2 => ?_) (fun i row j x h1 h2 => ?_)
    · obtain ⟨hf, ad, e, hno, hu⟩ := hcell i row j x h1 h2
      exact ⟨hf, ad, e, fun h => hno (ho _ h), hu⟩
    · have hf := (hcell i row j x h1 h2).1
      have := ih i row j x h1 h2 (fun t ht => by
        cases x <;> first | (simp [toksV] at ht; done) | (simp [frozen] at hf))
      rwa [nameV_frozen g x hf] at this
  | cl xs a h ih => exact .cl xs a (ih (fun t ht => by simp [toksV] at ht))
  | os t off len k a ht hn hcap ha => exact .os (g t) off len k a ((hg t (by simp [toksV])).trans ht) hn hcap ha
  | osn t a ht => exact .osn (g t) a ((hg t (by simp [toksV])).trans ht)
  | pt t i j k ht => exact .pt (g t) i j k ((hg t (by simp [toksV])).trans ht)
  | rp cells a U hcell hsub ih =>
    unfold nameV
    refine .rp _ a U (fun j x h1 => ?_) (fun j x h1 => ?_)
    · rw [nameL_get] at h1
      obtain ⟨x0, h2, rfl⟩ := Option.map_eq_some_iff.1 h1
      exact ⟨fun h => (hcell j x0 h2).1 (ho _ h), (hcell j x0 h2).2⟩
    · rw [nameL_get] at h1
      obtain ⟨x0, h2, rfl⟩ := Option.map_eq_some_iff.1 h1
      exact ih j x0 h2 (fun t ht => hg t (by unfold toksV; exact toksL_mem h2 ht))
  | mp t k ht => exact .mp (g t) k ((hg t (by simp [toksV])).trans ht)
  | clo f caps vs hl hsub ih =>
    unfold nameV
    refine .clo f _ vs (by rw [nameL_len]; exact hl) (fun j x y h1 h2 => ?_)
    rw [nameL_get] at h1
    obtain ⟨x0, h3, rfl⟩ := Option.map_eq_some_iff.1 h1
    exact ih j x0 y h3 h2 (fun t ht => hg t (by unfold toksV; exact toksL_mem h3 ht))
  | agg l vs hl hsub ih =>
    unfold nameV
    refine .agg _ vs (by rw [nameL_len]; exact hl) (fun j x y h1 h2 => ?_)
    rw [nameL_get] at h1
    obtain ⟨x0, h3, rfl⟩ := Option.map_eq_some_iff.1 h1
    exact ih j x0 y h3 h2 (fun t ht => hg t (by unfold toksV; exact toksL_mem h3 ht))
  | tup l vs hl hsub ih =>
    unfold nameV
    refine .tup _ vs (by rw [nameL_len]; exact hl) (fun j x y h1 h2 => ?_)
    rw [nameL_get] at h1
    obtain ⟨x0, h3, rfl⟩ := Option.map_eq_some_iff.1 h1
    exact ih j x0 y h3 h2 (fun t ht => hg t (by unfold toksV; exact toksL_mem h3 ht))
theorem RowOk.name {ρ' : Gh} {g : Nat → Nat} {gk : Option Blk} {r : Row} (h : RowOk ρ w gk r) (hg : ∀ t, t ∈ toksR r → ρ' (g t) = ρ t) (ho : ∀ b, owns ρ' b → owns ρ b) : RowOk ρ' w gk (nameR g r) := by
  cases r with
  | dead => exact trivial
  | map n m => exact h
  | arr sz xs =>
    cases gk with
    | none => exact h
    | some k =>
      obtain ⟨h0, h1, h2, cs, e, h3, h4, h5⟩ := h
      refine ⟨h0, h1, h2, cs, e, h3, h4, fun i row hi => ⟨(h5 i row hi).1, fun j x hj => ?_⟩⟩
      obtain ⟨h6, y, h7, h8⟩ := (h5 i row hi).2 j x hj
      have := h8.name (ρ' := ρ') (g := g) (fun t ht => by cases x <;> first | (simp [toksV] at ht; done) | (simp [frozen] at h6)) ho
      rw [nameV_frozen g x h6] at this
      exact ⟨h6, y, h7, this⟩
  | box cells =>
    obtain ⟨k, hk, h1, cs, e, h3, h5⟩ := h
    refine ⟨k, hk, h1, cs, e, h3, fun j x hj => ?_⟩
    rw [nameL_get] at hj
    obtain ⟨x0, hj0, rfl⟩ := Option.map_eq_some_iff.1 hj
    obtain ⟨y, h7, h8⟩ := h5 j x0 hj0
    exact ⟨y, h7, h8.name (fun t ht => hg t (by unfold toksR; exact toksL_mem hj0 ht)) ho⟩
theorem putBack_get : ∀ (ts : List Nat) (rs sto : List Row) (t : Nat), ts.Nodup → ts.length = rs.length → (putBack ts rs sto)[t]? = if t ∈ ts then (if t < sto.length then rs[ts.idxOf t]? else none) else sto[t]?
  | [], rs, sto, t, _, h => by
    cases rs with
    | nil => simp [putBack]
    | cons => simp at h
  | u :: ts, rs, sto, t, hn, h => by
    cases rs with
    | nil => simp at h
    | cons r rs =>
      rw [List.nodup_cons] at hn
      unfold putBack
      rw [putBack_get ts rs (sto.set u r) t hn.2 (by simpa using h), List.length_set]
      by_cases hu : t = u
      · subst hu
        rw [if_neg hn.1, if_pos (List.mem_cons_self)]
        simp [List.getElem?_set]
      · by_cases ht : t ∈ ts
        · rw [if_pos ht, if_pos (List.mem_cons_of_mem _ ht), show (u :: ts).idxOf t = ts.idxOf t + 1 from by rw [List.idxOf_cons, show (u == t) = false from by simpa using (fun e => hu e.symm)]; rfl, List.getElem?_cons_succ]
        · rw [if_neg ht, if_neg (by simp [hu, ht]), List.getElem?_set, if_neg (fun e => hu e.symm)]
theorem putBack_len : ∀ (ts : List Nat) (rs sto : List Row), (putBack ts rs sto).length = sto.length
  | [], _, _ => by simp [putBack]
  | _ :: _, [], _ => by simp [putBack]
  | u :: ts, r :: rs, sto => by unfold putBack; rw [putBack_len ts rs]; simp
theorem idx_get {TS : List Nat} {t : Nat} (h : t ∈ TS) : TS.idxOf t < TS.length ∧ TS[TS.idxOf t]? = some t := by
  have h1 := List.idxOf_lt_length_iff.2 h
  exact ⟨h1, by rw [List.getElem?_eq_getElem h1, List.getElem_idxOf h1]⟩
theorem idx_of_get {TS : List Nat} (hn : TS.Nodup) {i t : Nat} (h : TS[i]? = some t) : TS.idxOf t = i := by
  obtain ⟨hi, rfl⟩ := List.getElem?_eq_some_iff.1 h
  exact hn.idxOf_getElem i hi
theorem getT_get {TS : List Nat} {i : Nat} (h : i < TS.length) : TS[i]? = some (getT TS i) := by
  unfold getT
  rw [List.getElem?_eq_getElem h]
  simp [h]
/-- The memory of a call: what it is handed, of the caller's. -/
def loc (ρ : Gh) (ts : List Nat) : Gh := ⟨fun i => match ts[i]? with | some t => ρ t | none => none, fun b => ρ.X b ∨ ∃ t k, t ∉ ts ∧ ρ t = some k ∧ k.b = b⟩
theorem loc_at {ts : List Nat} {i t : Nat} (h : ts[i]? = some t) : (loc ρ ts) i = ρ t := by
  show (match ts[i]? with | some t => ρ t | none => none) = _
  rw [h]
theorem loc_some {ts : List Nat} {i : Nat} {k : Blk} (h : (loc ρ ts) i = some k) : ∃ t, ts[i]? = some t ∧ ρ t = some k := by
  have h' : (match ts[i]? with | some t => ρ t | none => none) = some k := h
  split at h'
  · rename_i t ht; exact ⟨t, ht, h'⟩
  · cases h'
theorem loc_own {ts : List Nat} {b : Nat} (h : own (loc ρ ts) b) : own ρ b := by
  obtain ⟨i, k, h1, h2⟩ := h
  obtain ⟨t, _, h3⟩ := loc_some h1
  exact ⟨t, k, h3, h2⟩
theorem loc_owns {ts : List Nat} {b : Nat} (h : owns (loc ρ ts) b) : owns ρ b := by
  rcases h with h | h | ⟨t, k, _, h1, h2⟩
  · exact .inl (loc_own h)
  · exact .inr h
  · exact .inl ⟨t, k, h1, h2⟩
theorem closed_spec {ts : List Nat} {args : List AV} (h : closedA ts args σ = true) : ts.Nodup ∧ (∀ t ∈ ts, t < σ.length) ∧ (∀ t ∈ toksL args, t ∈ ts) ∧ ∀ t ∈ ts, ∀ row, σ[t]? = some row → ∀ u ∈ toksR row, u ∈ ts := by
  unfold closedA at h
  simp only [Bool.and_eq_true, decide_eq_true_eq, List.all_eq_true] at h
  obtain ⟨⟨⟨h1, h2⟩, h3⟩, h4⟩ := h
  refine ⟨h1, h2, fun t ht => by simpa using h3 t ht, fun t ht row hr u hu => ?_⟩
  have := h4 t ht
  rw [hr] at this
  simp only [List.all_eq_true] at this
  simpa using this u hu
theorem loc_sto (hS : StoOk ρ w σ) {ts : List Nat} {args : List AV} (hc : closedA ts args σ = true) : StoOk (loc ρ ts) w (ts.map fun t => nameR (idxOf ts) (σ.getD t .dead)) := by
  obtain ⟨hn, hlt, _, hrow⟩ := closed_spec hc
  refine ⟨fun i k hi => ?_, fun i i' k k' hi hi' hb => ?_, fun i k hi => ?_, fun i k hi => ?_, fun b hb => ?_, fun i r hr => ?_⟩
  · obtain ⟨t, ht, _⟩ := loc_some hi
    rw [List.length_map]
    exact (List.getElem?_eq_some_iff.1 ht).1
  · obtain ⟨t, ht, h1⟩ := loc_some hi
    obtain ⟨t', ht', h2⟩ := loc_some hi'
    have := hS.inj t t' k k' h1 h2 hb
    subst this
    rw [← idx_of_get hn ht, ← idx_of_get hn ht']
  · obtain ⟨t, ht, h1⟩ := loc_some hi
    exact hS.blk t k h1
  · obtain ⟨t, ht, h1⟩ := loc_some hi
    rintro (h | ⟨t', k', h2, h3, h4⟩)
    · exact hS.apart t k h1 h
    · have := hS.inj t' t k' k h3 h1 h4
      subst this
      exact h2 (List.mem_of_getElem? ht)
  · rcases hb with h | ⟨t', k', _, h3, h4⟩
    · exact hS.old b h
    · rw [← h4]; exact hS.blk t' k' h3
  · rw [List.getElem?_map] at hr
    obtain ⟨t, ht, rfl⟩ := Option.map_eq_some_iff.1 hr
    have hm := List.mem_of_getElem? ht
    have hl := hlt t hm
    have hg : σ.getD t .dead = σ[t] := by simp [hl]
    have hσ : σ[t]? = some σ[t] := List.getElem?_eq_getElem hl
    rw [loc_at ht, hg]
    exact (hS.row t _ hσ).name (fun u hu => by
      have hu' := hrow t hm _ hσ u hu
      exact loc_at (idx_get hu').2) (fun b hb => loc_owns hb)
theorem loc_args {ts : List Nat} {args : List AV} {vs : List Value} (hc : closedA ts args σ = true) (h : RVs ρ w args vs) : RVs (loc ρ ts) w (nameL (idxOf ts) args) vs := by
  obtain ⟨_, _, ha, _⟩ := closed_spec hc
  refine ⟨by rw [nameL_len]; exact h.1, fun j x y h1 h2 => ?_⟩
  rw [nameL_get] at h1
  obtain ⟨x0, h3, rfl⟩ := Option.map_eq_some_iff.1 h1
  exact (h.2 j x0 y h3 h2).name (fun t ht => loc_at (idx_get (ha t (toksL_mem h3 ht))).2) (fun b hb => loc_owns hb)
/-- Back from the call: the memory as the caller knows it. 'TS': the tokens that stand for what the call leaves. -/
theorem land {ρl' : Gh} {w' : World} {ts TS mv : List Nat} {s1 : List Row} {r : AV} {v : Value} (hS : StoOk ρ w σ) (hT : TS.Nodup) (hts : ts.length ≤ TS.length) (hpre : ∀ (i : Nat) t, ts[i]? = some t → TS[i]? = some t) (hlen : TS.length = s1.length) (hlt : ∀ t ∈ TS, t < σ.length)
    (hr : RV ρl' w' r v) (hS' : StoOk ρl' w' s1) (hx : Ext (loc ρ ts) w ρl' w' (mv ++ List.range' ts.length (s1.length - ts.length))) (hrt : ∀ t ∈ toksV r, t < s1.length) (hst : ∀ row ∈ s1, ∀ t ∈ toksR row, t < s1.length) :
    ∃ ρ', RV ρ' w' (nameV (getT TS) r) v ∧ StoOk ρ' w' (putBack TS (s1.map (nameR (getT TS))) (σ.map (killR (mv.map (getT ts) ++ TS.drop ts.length)))) ∧ Ext ρ w ρ' w' (mv.map (getT ts) ++ TS.drop ts.length) := by
  have hsub : ∀ t, t ∈ ts → t ∈ TS := fun t ht => by
    obtain ⟨i, hi⟩ := List.getElem?_of_mem ht
    exact List.mem_of_getElem? (hpre i t hi)
  let ρ' : Gh := ⟨fun t => if t ∈ TS then ρl' (TS.idxOf t) else ρ t, ρ.X⟩
  have at1 : ∀ t, t ∈ TS → ρ' t = ρl' (TS.idxOf t) := fun t ht => if_pos ht
  have at2 : ∀ t, t ∉ TS → ρ' t = ρ t := fun t ht => if_neg ht
  have atg : ∀ i, i < s1.length → ρ' (getT TS i) = ρl' i := fun i hi => by
    have hg := getT_get (TS := TS) (i := i) (by omega)
    rw [at1 _ (List.mem_of_getElem? hg), idx_of_get hT hg]
  have hX : ρl'.X = (loc ρ ts).X := hx.X
  have other : ∀ t k, t ∉ ts → ρ t = some k → ρl'.X k.b := fun t k h1 h2 => by rw [hX]; exact .inr ⟨t, k, h1, h2, rfl⟩
  have hown : ∀ b, own ρ' b → own ρl' b ∨ ∃ t k, t ∉ TS ∧ ρ t = some k ∧ k.b = b := fun b ⟨t, k, h1, h2⟩ => by
    by_cases ht : t ∈ TS
    · rw [at1 t ht] at h1; exact .inl ⟨_, k, h1, h2⟩
    · rw [at2 t ht] at h1; exact .inr ⟨t, k, ht, h1, h2⟩
  have howns : ∀ b, owns ρ' b → owns ρl' b := fun b hb => by
    rcases hb with hb | hb
    · rcases hown b hb with h | ⟨t, k, h1, h2, h3⟩
      · exact .inl h
      · rw [← h3]; exact .inr (other t k (fun h => h1 (hsub t h)) h2)
    · right; rw [hX]; exact .inl hb
  have hext : Ext ρ w ρ' w' (mv.map (getT ts) ++ TS.drop ts.length) := by
    refine ⟨hx.os, hx.tape, hx.output, hx.size, fun b hb hno => hx.keep b hb (fun h => hno (loc_own h)), fun b hb => ?_, rfl, fun t ht => ?_⟩
    · rcases hown b hb with h | ⟨t, k, h1, h2, h3⟩
      · exact (hx.new b h).imp loc_own id
      · exact .inl ⟨t, k, h2, h3⟩
    · by_cases hm : t ∈ TS
      · obtain ⟨i, hi⟩ := List.getElem?_of_mem hm
        simp only [List.mem_append, not_or] at ht
        have hil : i < ts.length := by
          apply Nat.lt_of_not_le
          intro hle
          apply ht.2
          have : (TS.drop ts.length)[i - ts.length]? = some t := by rw [List.getElem?_drop, Nat.add_sub_cancel' hle]; exact hi
          exact List.mem_of_getElem? this
        have hti : ts[i]? = some t := by
          have h1 : ts[i]? = some ts[i] := List.getElem?_eq_getElem hil
          have h2 := hpre i _ h1
          rw [hi] at h2
          rw [h1, ← Option.some.inj h2]
        rw [at1 t hm, idx_of_get hT hi, hx.tok i ?_, loc_at hti]
        simp only [List.mem_append, not_or]
        refine ⟨fun h => ht.1 ?_, fun h => ?_⟩
        · refine List.mem_map.2 ⟨i, h, ?_⟩
          have h3 := getT_get (TS := ts) hil
          rw [hti] at h3
          exact (Option.some.inj h3).symm
        · rw [List.mem_range'_1] at h; omega
      · exact at2 t hm
  refine ⟨ρ', hr.name (fun t ht => atg t (hrt t ht)) howns, ⟨fun t k ht => ?_, fun t t' k k' ht ht' hb => ?_, fun t k ht => ?_, fun t k ht => ?_, fun b hb => ?_, fun t row hrow => ?_⟩, hext⟩
  · rw [putBack_len, List.length_map]
    by_cases hm : t ∈ TS
    · exact hlt t hm
    · rw [at2 t hm] at ht; exact hS.len t k ht
  · by_cases hm : t ∈ TS
    · rw [at1 t hm] at ht
      by_cases hm' : t' ∈ TS
      · rw [at1 t' hm'] at ht'
        have := hS'.inj _ _ k k' ht ht' hb
        have h1 := (idx_get hm).2
        rw [this, (idx_get hm').2] at h1
        exact (Option.some.inj h1).symm
      · rw [at2 t' hm'] at ht'
        have := other t' k' (fun h => hm' (hsub t' h)) ht'
        rw [← hb] at this
        exact absurd this (hS'.apart _ k ht)
    · rw [at2 t hm] at ht
      by_cases hm' : t' ∈ TS
      · rw [at1 t' hm'] at ht'
        have := other t k (fun h => hm (hsub t h)) ht
        rw [hb] at this
        exact absurd this (hS'.apart _ k' ht')
      · rw [at2 t' hm'] at ht'
        exact hS.inj t t' k k' ht ht' hb
  · by_cases hm : t ∈ TS
    · rw [at1 t hm] at ht; exact hS'.blk _ k ht
    · rw [at2 t hm] at ht; exact Nat.lt_of_lt_of_le (hS.blk t k ht) hx.size
  · by_cases hm : t ∈ TS
    · rw [at1 t hm] at ht
      intro h
      exact hS'.apart _ k ht (by rw [hX]; exact .inl h)
    · rw [at2 t hm] at ht; exact hS.apart t k ht
  · exact Nat.lt_of_lt_of_le (hS.old b hb) hx.size
  · rw [putBack_get TS _ _ t hT (by rw [List.length_map]; exact hlen), List.length_map] at hrow
    split at hrow
    · rename_i hm
      rw [if_pos (hlt t hm), List.getElem?_map] at hrow
      obtain ⟨r0, h0, rfl⟩ := Option.map_eq_some_iff.1 hrow
      rw [at1 t hm]
      exact (hS'.row _ r0 h0).name (fun u hu => atg u (hst r0 (List.mem_of_getElem? h0) u hu)) howns
    · rename_i hm
      rw [List.getElem?_map] at hrow
      obtain ⟨r0, h0, rfl⟩ := Option.map_eq_some_iff.1 hrow
      rw [at2 t hm]
      exact (hS.row t r0 h0).ext hext (fun k hk => hx.keep k.b (hS.blk t k hk) (fun ⟨i, k', h1, h2⟩ => by
        obtain ⟨t', ht', h3⟩ := loc_some h1
        have := hS.inj t' t k' k h3 hk h2
        subst this
        exact hm (hsub t' (List.mem_of_getElem? ht'))))
end
end Go.Proofs.Ytnmnaomfohlmcaa.E
