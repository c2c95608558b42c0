/- A call that is lent what it reads, and hands back nothing of it. -/
import Derived.Test.YtnmnaomfohlmcaaE12
set_option linter.unusedVariables false
set_option linter.unusedSimpArgs false
namespace Go.Proofs.Ytnmnaomfohlmcaa.E
open Go
section
variable {P : Program} {o : Oper} {a : Act} {w : World} {ρ : Gh} {σ : List Row}
theorem frozen_toks {x : AV} (h : frozen x = true) : toksV x = [] := by
  cases x <;> first | rfl | simp [frozen] at h
theorem frozens_toks : ∀ m : List AV, (∀ x ∈ m, frozen x = true) → toksL m = []
  | [], _ => rfl
  | u :: us, hm => by simp [toksL, frozen_toks (hm u (by simp)), frozens_toks us (fun x hx => hm x (by simp [hx]))]
theorem lendL_ok (hS : StoOk ρ w σ) {TS : List Nat} : ∀ {l l' : List AV} {vs : List Value} {ts : List Nat}, lendL σ l = some (l', ts) → RVs ρ w l vs → (∀ t ∈ ts, t ∈ TS) → RVs (del ρ TS) w l' vs ∧ toksL l' = []
  | [], l', vs, ts, h, hv, _ => by
    cases h
    have : vs = [] := List.eq_nil_of_length_eq_zero (by rw [← hv.1]; rfl)
    subst this
    exact ⟨RVs.nil', rfl⟩
  | x :: r, l', vs, ts, h, hv, hsub => by
    simp only [lendL] at h
    obtain ⟨⟨a1, a2⟩, h1, h⟩ := Option.bind_eq_some_iff.1 h
    obtain ⟨⟨b1, b2⟩, h2, h⟩ := Option.bind_eq_some_iff.1 h
    cases h
    obtain ⟨y, vr, rfl, hy, hvr⟩ := hv.head
    obtain ⟨k1, k2⟩ := lendL_ok hS (TS := TS) h2 hvr (fun t ht => hsub t (by simp [ht]))
    unfold lendW at h1
    split at h1
    · rename_i he
      cases h1
      have he' : toksV x = [] := by simpa using he
      have := hy.ext (Ext.giveUp ρ w TS)
      rw [killV_not TS x (fun t ht => by rw [he'] at ht; simp at ht)] at this
      exact ⟨RVs.cons' this k1, by simp [toksL, he', k2]⟩
    · split at h1
      · rename_i l0 _
        obtain ⟨⟨c1, c2⟩, h3, h4⟩ := Option.map_eq_some_iff.1 h1
        cases h4
        cases hy with
        | agg l vs hl hs0 =>
          obtain ⟨g1, g2⟩ := freezeL_ok hS (TS := TS) h3 (⟨by simpa using hl, fun j x y h5 h6 => hs0 j x y h5 (by simpa using h6)⟩ : RVs ρ w l0 vs.toList) (fun t ht => hsub t (by simp [ht]))
          have e0 : toksL c1 = [] := frozens_toks c1 g2
          exact ⟨RVs.cons' (.agg c1 vs (by rw [g1.1]; simp) (fun j x y h5 h6 => g1.2 j x y h5 (by simpa using h6))) k1, by simp [toksL, toksV, e0, k2]⟩
      · obtain ⟨g1, g2⟩ := freezeV_ok hS h1 hy (TS := TS) (fun t ht => hsub t (by simp [ht]))
        exact ⟨RVs.cons' g1 k1, by simp [toksL, frozen_toks g2, k2]⟩
/-- What is fresh is none of the caller's. -/
def Fresh (ρ : Gh) (w : World) (ρ' : Gh) : Prop := ∀ t k, ρ' t = some k → w.heap.size ≤ k.b
theorem lentArr {ρ' : Gh} {w' : World} {s1 : List Row} {t off len sz : Nat} {xs : List (List AV)} {y : Value} (hS : StoOk ρ w σ) (hS' : StoOk ρ' w' s1) (hF : Fresh ρ w ρ') (hs : s1[t]? = some (.arr sz xs)) (hsc : scalars xs = true) (hr : RV ρ' w' (.os t off len) y) : RV ρ w' (.sl ((xs.drop off).take len)) y := by
  have hv : ∀ (i : Nat) (row : List AV) (j : Nat) (x : AV), xs[i]? = some row → row[j]? = some x → ∃ z, x = .v z := fun i row j x h1 h2 => by
    have h3 := List.all_eq_true.1 hsc row (List.mem_of_getElem? h1)
    have h4 := List.all_eq_true.1 h3 x (List.mem_of_getElem? h2)
    cases x <;> first | exact ⟨_, rfl⟩ | simp [scalarA] at h4
  cases hr with
  | os t off len k a ht hn hcap ha =>
    have hk := hS'.row t _ hs
    rw [ht] at hk
    obtain ⟨h0, h1, h2, cs, e, hb, hsz, hc⟩ := hk
    have hl : ((xs.drop off).take len).length = len := by simp; omega
    have := RV.sl (ρ := ρ) (w := w') ((xs.drop off).take len) a (k.cap - off) k.sz (fun i j => cs.getD ((k.o + off + i) * k.sz + j) undef) (by rw [hl]; omega) (fun hp => by
        rw [hl] at hp; rw [ha (by omega)]; rfl) (fun i row hi => ?_) (fun i row j x hi hj => ?_) (fun i row j x hi hj => ?_)
    · rwa [hl] at this
    · rw [List.getElem?_take] at hi
      split at hi
      · rw [List.getElem?_drop] at hi; exact (hc _ row hi).1
      · cases hi
    · rw [List.getElem?_take] at hi
      split at hi
      · rename_i hlt
        rw [List.getElem?_drop] at hi
        obtain ⟨hf, u, hu, hru⟩ := (hc _ row hi).2 j x hj
        refine ⟨hf, _, ha (by omega), ?_, ?_⟩
        · have hfr := hF t k ht
          rintro (⟨t', k', h3, h4⟩ | h3)
          · have := hS.blk t' k' h3
            have h4' : k'.b = k.b := h4
            omega
          · have := hS.old _ h3
            have h5 : k.b < w.heap.size := this
            omega
        · rw [add_add', cell_row hb]
          have e1 : (k.o + off) * k.sz + (i * k.sz + j) = (k.o + off + i) * k.sz + j := by rw [Nat.add_mul (k.o + off) i, Nat.add_assoc]
          have e2 : (k.o + (off + i)) * k.sz + j = (k.o + off + i) * k.sz + j := by rw [Nat.add_assoc]
          rw [e1]
          rw [e2] at hu
          simp [hu]
      · cases hi
    · rw [List.getElem?_take] at hi
      split at hi
      · rename_i hlt
        rw [List.getElem?_drop] at hi
        obtain ⟨hf, u, hu, hru⟩ := (hc _ row hi).2 j x hj
        have e2 : (k.o + (off + i)) * k.sz + j = (k.o + off + i) * k.sz + j := by rw [Nat.add_assoc]
        rw [e2] at hu
        simp only [Array.getD_eq_getD_getElem?, hu, Option.getD_some]
        obtain ⟨z, rfl⟩ := hv _ row j x hi hj
        cases hru
        exact .v _
      · cases hi
  | osn t a ht =>
    simp only [List.take_zero]
    exact .sl [] a 0 0 (fun _ _ => undef) (by simp) (fun h => by simp at h) (fun i row h => by simp at h) (fun i row j x h => by simp at h) (fun i row j x h => by simp at h)
theorem lentV_ok {ρ' : Gh} {w' : World} {s1 : List Row} {x r : AV} {y : Value} (hS : StoOk ρ w σ) (hS' : StoOk ρ' w' s1) (hF : Fresh ρ w ρ') (h : lentV s1 x = some r) (hr : RV ρ' w' x y) : RV ρ w' r y := by
  unfold lentV at h
  split at h
  · cases h; cases hr; exact .v _
  · cases h
    generalize hl : ([] : List (List AV)) = l at hr
    cases hr with
    | sl xs a c sz U hc ha hrow hcell hsub =>
      subst hl
      exact .sl [] a c 0 (fun _ _ => undef) (by simp) (fun h => by simp at h) (fun i row h => by simp at h) (fun i row j x h => by simp at h) (fun i row j x h => by simp at h)
  · split at h
    · rename_i hs
      split at h
      · rename_i hsc
        cases h
        exact lentArr hS hS' hF hs hsc hr
      · cases h
    · cases h
  · cases h
theorem lentL_ok {ρ' : Gh} {w' : World} {s1 : List Row} (hS : StoOk ρ w σ) (hS' : StoOk ρ' w' s1) (hF : Fresh ρ w ρ') : ∀ {l l' : List AV} {vs : List Value}, lentL s1 l = some l' → RVs ρ' w' l vs → RVs ρ w' l' vs
  | [], l', vs, h, hv => by
    cases h
    have : vs = [] := List.eq_nil_of_length_eq_zero (by rw [← hv.1]; rfl)
    subst this
    exact RVs.nil'
  | x :: r, l', vs, h, hv => by
    simp only [lentL] at h
    obtain ⟨y, hy, h⟩ := Option.bind_eq_some_iff.1 h
    obtain ⟨r', hr', rfl⟩ := Option.map_eq_some_iff.1 h
    obtain ⟨z, vr, rfl, hz, hvr⟩ := hv.head
    exact RVs.cons' (lentV_ok hS hS' hF hy hz) (lentL_ok hS hS' hF hr' hvr)
theorem lentR_ok {ρ' : Gh} {w' : World} {s1 : List Row} {x r : AV} {y : Value} (hS : StoOk ρ w σ) (hS' : StoOk ρ' w' s1) (hF : Fresh ρ w ρ') (h : lentR s1 x = some r) (hr : RV ρ' w' x y) : RV ρ w' r y := by
  unfold lentR at h
  split at h
  · obtain ⟨l', hl', rfl⟩ := Option.map_eq_some_iff.1 h
    cases hr with
    | tup l vs hl hsub =>
      have := lentL_ok hS hS' hF hl' (vs := vs.toList) ⟨by simpa using hl, fun j x y h1 h2 => hsub j x y h1 (by simpa using h2)⟩
      exact .tup _ vs (by simpa using this.1) (fun j x y h1 h2 => this.2 j x y h1 (by simpa using h2))
  · obtain ⟨l', hl', rfl⟩ := Option.map_eq_some_iff.1 h
    cases hr with
    | agg l vs hl hsub =>
      have := lentL_ok hS hS' hF hl' (vs := vs.toList) ⟨by simpa using hl, fun j x y h1 h2 => hsub j x y h1 (by simpa using h2)⟩
      exact .agg _ vs (by simpa using this.1) (fun j x y h1 h2 => this.2 j x y h1 (by simpa using h2))
  · exact lentV_ok hS hS' hF h hr
theorem lendA_ok {call : CallF} {base : Nat} {own : List Nat} {f : FuncId} {args : List AV} {vs : Array Value} {out : Out} (hC : CallOk P call) (hS : StoOk ρ w σ) (ha : RVs ρ w args vs.toList) (h : lendA call base own f args σ = some out) :
    (∃ q s x, call f q s = some x) ∧ Calls P f vs w fun e w' => ∃ v, e = .returned v ∧ Post ρ w out v w' := by
  unfold lendA at h
  replace h := Option.bind_eq_some_iff.1 h
  obtain ⟨⟨fa, ts⟩, hfa, h⟩ := h
  replace h := Option.bind_eq_some_iff.1 h
  obtain ⟨⟨r, s1, mv⟩, hcall, h⟩ := h
  obtain ⟨hfv, htk⟩ := lendL_ok hS (TS := ts) hfa ha.weak (fun t ht => ht)
  have hS1 := hS.giveUp ts
  have hcl : closedA [] fa (giveUp ts σ) = true := by simp [closedA, htk]
  have hnm : nameL (idxOf []) fa = fa := by
    apply List.ext_getElem?
    intro j
    rw [nameL_get]
    cases hj : fa[j]? with
    | none => rfl
    | some x =>
      have hx : ∀ t, t ∉ toksV x := fun t ht => by have := toksL_mem hj ht; rw [htk] at this; simp at this
      simp only [Option.map_some]
      congr 1
      exact nameV_none _ x hx
  have hcs := hC f _ _ r s1 mv hcall (loc (del ρ ts) []) w vs (by simpa using loc_sto hS1 hcl) (by have := loc_args hcl hfv; rwa [hnm] at this)
  refine ⟨⟨_, _, _, hcall⟩, hcs.mono ?_⟩
  rintro e w' ⟨v, ρl', rfl, hrv, hS', hx⟩
  have hno : ∀ b, ¬ E.own (loc (del ρ ts) []) b := fun b ⟨t, k, h1, _⟩ => by
    obtain ⟨_, h3, _⟩ := loc_some h1
    simp at h3
  have hF : Fresh ρ w ρl' := fun t k hk => (hx.new k.b ⟨t, k, hk, rfl⟩).elim (fun h => absurd h (hno _)) id
  have hkeep : ∀ b, b < w.heap.size → w'.heap[b]? = w.heap[b]? := fun b hb => hx.keep b hb (hno b)
  have hE : Ext ρ w ρ w' [] := ⟨hx.os, hx.tape, hx.output, hx.size, fun b hb _ => hkeep b hb, fun b hb => .inl hb, rfl, fun _ _ => rfl⟩
  have hSw : StoOk ρ w' σ := hS.ext hE (fun t k ht => hkeep _ (hS.blk t k ht))
  split at h
  · obtain ⟨r2, hr2, rfl⟩ := Option.map_eq_some_iff.1 h
    exact ⟨v, rfl, ρ, lentR_ok hS hS' hF hr2 hrv, hSw, hE⟩
  · rename_i k0
    split at h
    · rename_i t off len hr
      have hr' : r = .os t off len := hr
      subst hr'
      split at h
      · rename_i sz xs hs
        split at h
        · rename_i hc
          cases h
          have hs' : s1[t]? = some (.arr sz xs) := hs
          have hv : ∀ (i : Nat) (row : List AV) (j : Nat) (x : AV), xs[i]? = some row → row[j]? = some x → ∃ z, x = .v z := fun i row j x h1 h2 => by
            have h3 := List.all_eq_true.1 hc.2 row (List.mem_of_getElem? h1)
            have h4 := List.all_eq_true.1 h3 x (List.mem_of_getElem? h2)
            cases x <;> first | exact ⟨_, rfl⟩ | simp [scalarA] at h4
          have hk := hS'.row t _ hs'
          cases hrv with
          | os t off len k a ht hn hcap ha2 =>
            rw [ht] at hk
            obtain ⟨h0, h1, h2, cs, e, hb, hsz, hcell⟩ := hk
            have hfr := hF t k ht
            have hbw : k.b < w'.heap.size := hS'.blk t k ht
            have hx2 : Ext ρ w (upd ρ (base + k0) k) w' [base + k0] :=
              ⟨hx.os, hx.tape, hx.output, hx.size, fun b hb _ => hkeep b hb, fun b ⟨u, ku, h3, h4⟩ => by
                rw [upd_at] at h3
                split at h3
                · cases h3; exact .inr (by omega)
                · exact .inl ⟨u, ku, h3, h4⟩, rfl, fun u hu => by rw [upd_at, if_neg (by simpa using hu)]⟩
            refine ⟨_, rfl, upd ρ (base + k0) k, .os _ off len k a (by rw [upd_at, if_pos rfl]) hn hcap ha2, ?_, hx2⟩
            refine hS.put hx2 (base + k0) (.arr sz xs) ?_ (fun u ku hu => ?_) (fun u u' k1 k2 g1 g2 ge => ?_) (fun u ku hu => ?_) (fun u ku _ _ hu => hkeep _ (hS.blk u ku hu))
            · rw [upd_at, if_pos rfl]
              refine ⟨h0, h1, h2, cs, e, hb, hsz, fun i row hi => ⟨(hcell i row hi).1, fun j x hj => ?_⟩⟩
              obtain ⟨hf, y, hy, hry⟩ := (hcell i row hi).2 j x hj
              obtain ⟨z, rfl⟩ := hv i row j x hi hj
              cases hry
              exact ⟨hf, _, hy, .v _⟩
            · rw [upd_at] at hu
              split at hu
              · rename_i e1; rw [e1]; exact hc.1
              · exact hS.len u ku hu
            · rw [upd_at] at g1 g2
              split at g1
              · split at g2
                · rename_i e1 e2; rw [e1, e2]
                · cases g1; have := hS.blk u' k2 g2; omega
              · split at g2
                · cases g2; have := hS.blk u k1 g1; omega
                · exact hS.inj u u' k1 k2 g1 g2 ge
            · rw [upd_at] at hu
              split at hu
              · cases hu; exact ⟨hbw, fun hX => by have := hS.old _ hX; omega⟩
              · have := hS.blk u ku hu
                exact ⟨Nat.lt_of_lt_of_le this hx.size, hS.apart u ku hu⟩
          | osn t a ht =>
            rw [ht] at hk
            have hxs : xs = [] := hk
            subst hxs
            have hx2 : Ext ρ w (del ρ [base + k0]) w' [base + k0] :=
              ⟨hx.os, hx.tape, hx.output, hx.size, fun b hb _ => hkeep b hb, fun b ⟨u, ku, h3, h4⟩ => .inl ⟨u, ku, (del_some h3).1, h4⟩, rfl, fun u hu => by rw [del_at, if_neg hu]⟩
            refine ⟨_, rfl, del ρ [base + k0], .osn _ a (by rw [del_at, if_pos (by simp)]), ?_, hx2⟩
            refine hS.put hx2 (base + k0) (.arr sz []) ?_ (fun u ku hu => hS.len u ku (del_some hu).1) (fun u u' k1 k2 g1 g2 ge => hS.inj u u' k1 k2 (del_some g1).1 (del_some g2).1 ge) (fun u ku hu => ⟨Nat.lt_of_lt_of_le (hS.blk u ku (del_some hu).1) hx.size, hS.apart u ku (del_some hu).1⟩) (fun u ku _ _ hu => hkeep _ (hS.blk u ku hu))
            rw [del_at, if_pos (by simp)]
            rfl
        · cases h
      · cases h
    · rename_i hr
      have hr' : r = .nil := hr
      subst hr'
      cases h
      cases hrv
      exact ⟨_, rfl, ρ, .nil _, hSw, hE⟩
    · cases h
  · cases h
theorem callA_ok {call : CallF} {base : Nat} {own : List Nat} {f : FuncId} {args : List AV} {vs : Array Value} {out : Out} (hC : CallOk P call) (hS : StoOk ρ w σ) (ha : RVs ρ w args vs.toList) (h : callA call base own f args σ = some out) :
    (∃ q s x, call f q s = some x) ∧ Calls P f vs w fun e w' => ∃ v, e = .returned v ∧ Post ρ w out v w' := by
  unfold callA at h
  split at h
  · exact lendA_ok hC hS ha h
  · exact callS_ok hC hS ha h
end
end Go.Proofs.Ytnmnaomfohlmcaa.E
