/- Whatever the evaluator says, within whatever number of rounds, the machine does. -/
import Derived.Test.YtnmnaomfohlmcaaE18
set_option linter.unusedVariables false
set_option linter.unusedSimpArgs false
namespace Go.Proofs.Ytnmnaomfohlmcaa.E
open Go
section
variable {P : Program} {H : FuncId → FH}
/-- What is known otherwise is right. -/
def PrimOk (P : Program) (H : FuncId → FH) : Prop := ∀ f p, (H f).prim = some p → (∃ fn, P.funcs[f]? = some fn ∧ fn.body.isSome = true) ∧
  ∀ args sto r s1 mv, p args sto = some (r, s1, mv) → ∀ (ρ : Gh) (w : World) (vs : Array Value), StoOk ρ w sto → RVs ρ w args vs.toList →
    Calls P f vs w fun e w' => ∃ v ρ', e = .returned v ∧ RV ρ' w' r v ∧ StoOk ρ' w' s1 ∧ Ext ρ w ρ' w' (mv ++ List.range' sto.length (s1.length - sto.length))
/-- What is asked of a program. -/
structure POk (P : Program) (H : FuncId → FH) : Prop where
  names : NamesOk P
  maps : MapsOk P
  mixed : P.follows .mixedOrders = true
  prim : PrimOk P H
theorem evFn_known (hP : POk P H) : ∀ k, Known P (evFn P H k)
  | 0 => ⟨hP.names, hP.maps, fun f args sto x h => by simp [evFn] at h, fun f args sto r s1 mv h => by simp [evFn] at h⟩
  | k + 1 => by
    have hK := evFn_known hP k
    have hm := hP.mixed
    refine ⟨hP.names, hP.maps, fun f args sto x h => ?_, fun f args sto r s1 mv h ρ w vs hS hv => ?_⟩
    · simp only [evFn] at h
      split at h
      · rename_i p hp
        exact (hP.prim f p hp).1
      split at h
      · cases h
      · rename_i fn hf
        split at h
        · cases h
        · rename_i c hb
          exact ⟨fn, hf, by rw [hb]; rfl⟩
    · simp only [evFn] at h
      split at h
      · rename_i p hp
        exact (hP.prim f p hp).2 args sto r s1 mv h ρ w vs hS hv
      split at h
      · cases h
      · rename_i fn hf
        split at h
        · cases h
        · rename_i c hb
          refine calls_of_wp hf hb ?_
          have hI : Inv sto.length ρ w ⟨args ++ List.replicate (fn.ntmps - args.length) .dead, sto ++ List.replicate (H f).ntok .dead, []⟩ { tmps := vs ++ Array.replicate (fn.ntmps - vs.size) undef, defers := [] } w := by
            have hvl : args.length = vs.size := by have := hv.1; simpa using this
            refine ⟨ρ, ⟨by simp [hvl], rfl, fun i x y h1 h2 => ?_⟩, hS.more _, FExt.refl⟩
            simp only [List.getElem?_append] at h1
            simp only [Array.getElem?_append] at h2
            split at h1
            · rename_i hlt
              rw [if_pos (by omega)] at h2
              exact hv.2 i x y h1 (by simpa using h2)
            · rw [List.getElem?_replicate] at h1
              split at h1
              · cases h1; exact .dead _
              · cases h1
          have fin : ∀ (st : St) (a' : Act) (w' : World), finish P (H f).strong sto.length fn st = some (r, s1, mv) → Inv sto.length ρ w st a' w' →
              a'.defers = [] ∧ ∃ v, (results fn a'.tmps).run P w' = .ok v w' ∧ ∃ v' ρ', Ending.returned v = .returned v' ∧ RV ρ' w' r v' ∧ StoOk ρ' w' s1 ∧ Ext ρ w ρ' w' (mv ++ List.range' sto.length (s1.length - sto.length)) := fun st a' w' hfi hI' => by
            obtain ⟨v, h1, ρ', h2, h3, h4⟩ := finish_ok hS rfl hfi hI'
            obtain ⟨_, he, _⟩ := hI'
            exact ⟨he.defers, v, h1, v, ρ', rfl, h2, h3, h4⟩
          split at h
          · rename_i st hev
            exact evC_ok hK hm (evLoop_ok hK hm k) c _ _ _ hev _ _ _ hI (fun a' w' hI' => fin st a' w' h hI')
          · rename_i st hev
            exact evC_ok hK hm (evLoop_ok hK hm k) c _ _ _ hev _ _ _ hI (fun a' w' hI' => fin st a' w' h hI')
          · cases h

/-! #### More rounds say the same -/
def LeC (c c' : CallF) : Prop := ∀ f args sto r, c f args sto = some r → c' f args sto = some r
def LeL (l l' : Code → St → Option (Ex × St)) : Prop := ∀ c st r, l c st = some r → l' c st = some r
/-- An operation asks a call once at most. -/
theorem evOp_call {call : CallF} {base : Nat} {own : List Nat} {ea : Operand → Option AV} {σ : List Row} {op : Op} {out : Out} (h : evOp P call base own ea σ op = some out) :
    (∀ call', evOp P call' base own ea σ op = some out) ∨ ∃ f args sto r, call f args sto = some r ∧ ∀ call', call' f args sto = some r → evOp P call' base own ea σ op = some out := by
  cases op with
  | call c =>
    cases hc : c.callee with
    | value fo =>
      simp only [evOp, hc] at h ⊢
      cases hf : ea fo with
      | none => rw [hf] at h; cases h
      | some u =>
        rw [hf] at h
        simp only [Option.bind_some] at h ⊢
        cases u with
        | clo g caps =>
          simp only at h ⊢
          cases ha : mapA ea c.args.toList with
          | none => rw [ha] at h; cases h
          | some args =>
            rw [ha] at h
            simp only [Option.bind_some] at h ⊢
            right
            unfold callA at h ⊢
            split at h
            · rename_i hlend
              unfold lendA at h ⊢
              replace h := Option.bind_eq_some_iff.1 h
              obtain ⟨fz, hfz, h⟩ := h
              replace h := Option.bind_eq_some_iff.1 h
              obtain ⟨q, hq, h⟩ := h
              refine ⟨_, _, _, q, hq, fun call' hq' => ?_⟩
              rw [if_pos hlend, hfz]
              simp only [Option.bind_some]
              rw [hq']
              exact h
            rename_i hlend
            simp only [if_neg hlend]
            unfold callS at h ⊢
            simp only at h ⊢
            split at h
            · rename_i hcond
              replace h := Option.bind_eq_some_iff.1 h
              obtain ⟨q, hq, h⟩ := h
              refine ⟨_, _, _, q, hq, fun call' hq' => ?_⟩
              rw [if_pos hcond, hq']
              exact h
            · rename_i hcond
              unfold callB at h ⊢
              simp only at h ⊢
              split at h
              · rename_i hcl
                split at h
                · cases h
                · rename_i r s1 mv hcall
                  refine ⟨_, _, _, _, hcall, fun call' hq' => ?_⟩
                  rw [if_neg hcond, if_pos hcl, hq']
                  exact h
              · cases h
        | _ => cases h
    | builtin b =>
      left
      intro call'
      simp only [evOp, hc] at h ⊢
      exact h
    | invoke r m =>
      simp only [evOp, hc] at h
      cases h
  | makeFunc fn first caps => left; intro call'; cases fn <;> exact h
  | makeMap t r => left; intro call'; cases r <;> exact h
  | _ => left; intro call'; exact h
theorem evOp_mono {call call' : CallF} {base : Nat} {own : List Nat} {ea : Operand → Option AV} {σ : List Row} {op : Op} {out : Out} (hle : LeC call call') (h : evOp P call base own ea σ op = some out) : evOp P call' base own ea σ op = some out := by
  rcases evOp_call h with h1 | ⟨f, args, sto, r, h1, h2⟩
  · exact h1 call'
  · exact h2 call' (hle f args sto r h1)
theorem evStep_mono {call call' : CallF} {base : Nat} {hs : FH} {o : Oper} {st : St} {r : St × Fl} (hle : LeC call call') (h : evStep P hs call base o st = some r) : evStep P hs call' base o st = some r := by
  unfold evStep at h ⊢
  obtain ⟨out, ho, rfl⟩ := Option.map_eq_some_iff.1 h
  rw [evOp_mono hle ho]
  rfl
theorem evOps_mono {call call' : CallF} {base : Nat} {hs : FH} {ops : Array Oper} (hle : LeC call call') : ∀ (l : List Oper) (st : St) (r : St × List Fl), evOps P hs call base ops l st = some r → evOps P hs call' base ops l st = some r
  | [], st, r, h => h
  | o :: l, st, r, h => by
    simp only [evOps] at h ⊢
    cases hg : guardA ops st.env o with
    | none => rw [hg] at h; cases h
    | some b =>
      rw [hg] at h
      simp only at h ⊢
      split at h
      · rename_i hb
        rw [if_pos hb]
        replace h := Option.bind_eq_some_iff.1 h
        obtain ⟨s, hs1, h⟩ := h
        obtain ⟨q, hq, rfl⟩ := Option.map_eq_some_iff.1 h
        rw [evStep_mono hle hs1]
        simp only [Option.bind_some]
        rw [evOps_mono hle l _ _ hq]
        rfl
      · rename_i hb
        rw [if_neg hb]
        obtain ⟨q, hq, rfl⟩ := Option.map_eq_some_iff.1 h
        rw [evOps_mono hle l _ _ hq]
        rfl
theorem evRegion_mono {call call' : CallF} {base : Nat} {hs : FH} {ops : Array Oper} {draw : Bool} {st st' : St} (hle : LeC call call') (h : evRegion P hs call base ops draw st = some st') : evRegion P hs call' base ops draw st = some st' := by
  unfold evRegion at h ⊢
  replace h := Option.bind_eq_some_iff.1 h
  obtain ⟨q, hq, h⟩ := h
  rw [evOps_mono hle _ _ _ hq]
  exact h
theorem evC_mono {call call' : CallF} {base : Nat} {hs : FH} {loop loop' : Code → St → Option (Ex × St)} (hle : LeC call call') (hl : LeL loop loop') : ∀ (c : Code) (st : St) (r : Ex × St), evC P hs call base loop c st = some r → evC P hs call' base loop' c st = some r
  | .skip, st, r, h => h
  | .region id ops draw, st, r, h => by
    simp only [evC] at h ⊢
    obtain ⟨s, hs1, rfl⟩ := Option.map_eq_some_iff.1 h
    rw [evRegion_mono hle hs1]
    rfl
  | .seq x y, st, r, h => by
    simp only [evC] at h ⊢
    split at h
    · rename_i s1 h1
      rw [evC_mono hle hl x st _ h1]
      exact evC_mono hle hl y _ r h
    · rename_i hne
      rw [evC_mono hle hl x st r h]
      obtain ⟨ex, s⟩ := r
      cases ex with
      | normal => exact absurd h (hne _)
      | exit id => rfl
      | ret => rfl
  | .cond c x y, st, r, h => by
    simp only [evC] at h ⊢
    unfold ifA at h ⊢
    split at h
    · split at h
      · rename_i ht; simp only [ht, if_true]; exact evC_mono hle hl x st r h
      · rename_i ht; rw [if_neg ht]; exact evC_mono hle hl y st r h
    · cases h
  | .block id c, st, r, h => by
    simp only [evC] at h ⊢
    split at h
    · rename_i j s1 h1
      rw [evC_mono hle hl c st _ h1]
      exact h
    · rename_i hne
      rw [evC_mono hle hl c st r h]
      obtain ⟨ex, s⟩ := r
      cases ex with
      | normal => rfl
      | exit id => exact absurd h (hne _ _)
      | ret => rfl
  | .loop c, st, r, h => by
    simp only [evC] at h ⊢
    obtain ⟨q, hq, h2⟩ := Option.map_eq_some_iff.1 h
    rw [hl c st q hq, ← h2]
    rfl
  | .exit id, st, r, h => h
  | .ret, st, r, h => h
  | .rangeFunc .., st, r, h => by simp [evC] at h
  | .scope _, st, r, h => by simp [evC] at h
  | .label _, st, r, h => by simp [evC] at h
  | .goto _, st, r, h => by simp [evC] at h
  | .refuse _, st, r, h => by simp [evC] at h
theorem evLoop_mono {call call' : CallF} {base : Nat} {hs : FH} (hle : LeC call call') : ∀ k, LeL (evLoop P hs call base k) (evLoop P hs call' base (k + 1)) ∧ LeL (evLoop P hs call base k) (evLoop P hs call' base k)
  | 0 => ⟨fun c st r h => by simp [evLoop] at h, fun c st r h => by simp [evLoop] at h⟩
  | k + 1 => by
    obtain ⟨h1, h2⟩ := evLoop_mono hle k
    have gen : ∀ (l : Code → St → Option (Ex × St)), LeL (evLoop P hs call base k) l → ∀ (c : Code) (st : St) (r : Ex × St), (match evC P hs call base (evLoop P hs call base k) c (killAt base hs c st) with | some (.normal, st) => evLoop P hs call base k c st | r => r) = some r →
        (match evC P hs call' base l c (killAt base hs c st) with | some (.normal, st) => l c st | r => r) = some r := by
      intro l hl c st r h
      split at h
      · rename_i s1 hs1
        rw [evC_mono hle hl c _ _ hs1]
        exact hl c s1 r h
      · rename_i hne
        rw [evC_mono hle hl c _ r h]
        obtain ⟨ex, s⟩ := r
        cases ex with
        | normal => exact absurd h (hne _)
        | exit id => rfl
        | ret => rfl
    exact ⟨fun c st r h => by simp only [evLoop] at h ⊢; exact gen _ h1 c st r h, fun c st r h => by simp only [evLoop] at h ⊢; exact gen _ h2 c st r h⟩
theorem evFn_mono : ∀ k, LeC (evFn P H k) (evFn P H (k + 1))
  | 0 => fun f args sto r h => by simp [evFn] at h
  | k + 1 => fun f args sto r h => by
    have ih := evFn_mono k
    simp only [evFn] at h
    unfold evFn
    split at h
    · exact h
    split at h
    · cases h
    · rename_i fn hf
      try simp only [hf]
      split at h
      · cases h
      · rename_i c hb
        try simp only [hb]
        split at h
        · rename_i st hev
          rw [evC_mono ih ((evLoop_mono ih k).1) c _ _ hev]
          exact h
        · rename_i st hev
          rw [evC_mono ih ((evLoop_mono ih k).1) c _ _ hev]
          exact h
        · cases h
theorem evFn_le {k k' : Nat} (h : k ≤ k') : LeC (evFn P H k) (evFn P H k') := by
  obtain ⟨d, rfl⟩ : ∃ d, k' = k + d := ⟨k' - k, by omega⟩
  clear h
  induction d with
  | zero => exact fun f args sto r h => h
  | succ d ih => exact fun f args sto r h => evFn_mono (k + d) f args sto r (ih f args sto r h)
theorem evLoop_le {base : Nat} {hs : FH} {k k' : Nat} (h : k ≤ k') : LeL (evLoop P hs (evFn P H k) base k) (evLoop P hs (evFn P H k') base k') := by
  obtain ⟨d, rfl⟩ : ∃ d, k' = k + d := ⟨k' - k, by omega⟩
  clear h
  induction d with
  | zero => exact fun c st r h => h
  | succ d ih => exact fun c st r h => (evLoop_mono (evFn_mono (k + d)) (k + d)).1 c st r (ih c st r h)

/-! #### Without a number of rounds -/
open Classical in
/-- What a call comes to. -/
noncomputable def Wf (P : Program) (H : FuncId → FH) : CallF := fun f args sto => if h : ∃ r k, evFn P H k f args sto = some r then some h.choose else none
open Classical in
/-- What a loop comes to. -/
noncomputable def Lf (P : Program) (H : FuncId → FH) (hs : FH) (base : Nat) : Code → St → Option (Ex × St) := fun c st => if h : ∃ r k, evLoop P hs (evFn P H k) base k c st = some r then some h.choose else none
theorem Wf_some {f : FuncId} {args : List AV} {sto : List Row} {r : AV × List Row × List Nat} : Wf P H f args sto = some r ↔ ∃ k, evFn P H k f args sto = some r := by
  unfold Wf
  constructor
  · intro h
    split at h
    · rename_i hex
      cases h
      exact hex.choose_spec
    · cases h
  · rintro ⟨k, hk⟩
    have hex : ∃ r k, evFn P H k f args sto = some r := ⟨r, k, hk⟩
    rw [dif_pos hex]
    obtain ⟨k', hk'⟩ := hex.choose_spec
    have h1 := evFn_le (Nat.le_max_left k k') f args sto _ hk
    have h2 := evFn_le (Nat.le_max_right k k') f args sto _ hk'
    rw [h1] at h2
    exact h2.symm
theorem Lf_some {hs : FH} {base : Nat} {c : Code} {st : St} {r : Ex × St} : Lf P H hs base c st = some r ↔ ∃ k, evLoop P hs (evFn P H k) base k c st = some r := by
  unfold Lf
  constructor
  · intro h
    split at h
    · rename_i hex
      cases h
      exact hex.choose_spec
    · cases h
  · rintro ⟨k, hk⟩
    have hex : ∃ r k, evLoop P hs (evFn P H k) base k c st = some r := ⟨r, k, hk⟩
    rw [dif_pos hex]
    obtain ⟨k', hk'⟩ := hex.choose_spec
    have h1 := evLoop_le (Nat.le_max_left k k') c st _ hk
    have h2 := evLoop_le (Nat.le_max_right k k') c st _ hk'
    rw [h1] at h2
    exact h2.symm
/-- What holds from some number of rounds on. -/
def Evt (p : Nat → Prop) : Prop := ∃ K, ∀ k, K ≤ k → p k
theorem Evt.and {p q : Nat → Prop} (h : Evt p) (g : Evt q) : Evt fun k => p k ∧ q k := by
  obtain ⟨K, h⟩ := h
  obtain ⟨L, g⟩ := g
  exact ⟨max K L, fun k hk => ⟨h k (by omega), g k (by omega)⟩⟩
theorem Evt.mono {p q : Nat → Prop} (h : Evt p) (hpq : ∀ k, p k → q k) : Evt q := by
  obtain ⟨K, h⟩ := h
  exact ⟨K, fun k hk => hpq k (h k hk)⟩
theorem Evt.all {p : Nat → Prop} (h : ∀ k, p k) : Evt p := ⟨0, fun k _ => h k⟩
theorem evOps_cont {base : Nat} {hs : FH} {ops : Array Oper} : ∀ (l : List Oper) (st : St) (r : St × List Fl), evOps P hs (Wf P H) base ops l st = some r → Evt fun k => evOps P hs (evFn P H k) base ops l st = some r
  | [], st, r, h => Evt.all fun k => h
  | o :: l, st, r, h => by
    simp only [evOps] at h
    cases hg : guardA ops st.env o with
    | none => rw [hg] at h; cases h
    | some b =>
    rw [hg] at h
    simp only at h
    split at h
    · rename_i hb
      replace h := Option.bind_eq_some_iff.1 h
      obtain ⟨s, hs1, h⟩ := h
      obtain ⟨q, hq, rfl⟩ := Option.map_eq_some_iff.1 h
      have e1 : Evt fun k => evStep P hs (evFn P H k) base o st = some s := by
        unfold evStep at hs1
        obtain ⟨out, ho, rfl⟩ := Option.map_eq_some_iff.1 hs1
        have key : ∀ call', evOp P call' base (ownOf hs o) (evA st.env) st.sto o.op = some out → evStep P hs call' base o st = some (⟨putA (killE out.mv st.env) o.dst out.val, out.sto, addMv base st.mv out.mv⟩, ⟨out.w, out.mv, out.val, touchV (ownOf hs o) (evA st.env) o.op && (frOf base (ownOf hs o) (evA st.env) o.op out).isNone, frOf base (ownOf hs o) (evA st.env) o.op out, out.sto.length, adOf (evA st.env) o.op, stOf (evA st.env) o.op⟩) := fun call' h => by
          unfold evStep
          rw [h]
          rfl
        rcases evOp_call ho with h1 | ⟨f, args, sto, r, h1, h2⟩
        · exact Evt.all fun k => key _ (h1 _)
        · obtain ⟨K, hK⟩ := Wf_some.1 h1
          exact ⟨K, fun k hk => key _ (h2 _ (evFn_le hk f args sto r hK))⟩
      refine (e1.and (evOps_cont l _ _ hq)).mono fun k ⟨h1, h2⟩ => ?_
      simp only [evOps, hg]
      rw [if_pos hb, h1]
      simp only [Option.bind_some]
      rw [h2]
      rfl
    · rename_i hb
      obtain ⟨q, hq, rfl⟩ := Option.map_eq_some_iff.1 h
      refine (evOps_cont l _ _ hq).mono fun k h2 => ?_
      simp only [evOps, hg]
      rw [if_neg hb, h2]
      rfl
theorem evC_cont {base : Nat} {hs : FH} : ∀ (c : Code) (st : St) (r : Ex × St), evC P hs (Wf P H) base (Lf P H hs base) c st = some r → Evt fun k => evC P hs (evFn P H k) base (evLoop P hs (evFn P H k) base k) c st = some r
  | .skip, st, r, h => Evt.all fun k => h
  | .region id ops draw, st, r, h => by
    simp only [evC] at h ⊢
    obtain ⟨s, hs1, rfl⟩ := Option.map_eq_some_iff.1 h
    unfold evRegion at hs1 ⊢
    replace hs1 := Option.bind_eq_some_iff.1 hs1
    obtain ⟨q, hq, h1⟩ := hs1
    exact (evOps_cont _ _ _ hq).mono fun k h2 => by rw [h2]; simp only [Option.bind_some]; rw [h1]; rfl
  | .seq x y, st, r, h => by
    simp only [evC] at h ⊢
    split at h
    · rename_i s1 h1
      exact ((evC_cont x st _ h1).and (evC_cont y _ r h)).mono fun k ⟨e1, e2⟩ => by rw [e1]; exact e2
    · rename_i hne
      refine (evC_cont x st r h).mono fun k e1 => ?_
      rw [e1]
      obtain ⟨ex, s⟩ := r
      cases ex with
      | normal => exact absurd h (hne _)
      | exit id => rfl
      | ret => rfl
  | .cond c x y, st, r, h => by
    simp only [evC] at h ⊢
    unfold ifA at h ⊢
    split at h
    · split at h
      · rename_i ht; simp only [ht, if_true]; exact evC_cont x st r h
      · rename_i ht; simp only [if_neg ht]; exact evC_cont y st r h
    · cases h
  | .block id c, st, r, h => by
    simp only [evC] at h ⊢
    split at h
    · rename_i j s1 h1
      exact (evC_cont c st _ h1).mono fun k e1 => by rw [e1]; exact h
    · rename_i hne
      refine (evC_cont c st r h).mono fun k e1 => ?_
      rw [e1]
      obtain ⟨ex, s⟩ := r
      cases ex with
      | normal => rfl
      | exit id => exact absurd h (hne _ _)
      | ret => rfl
  | .loop c, st, r, h => by
    simp only [evC] at h ⊢
    obtain ⟨q, hq, h2⟩ := Option.map_eq_some_iff.1 h
    obtain ⟨K, hK⟩ := Lf_some.1 hq
    exact ⟨K, fun k hk => by simp only; rw [evLoop_le hk c st q hK, ← h2]; rfl⟩
  | .exit id, st, r, h => Evt.all fun k => h
  | .ret, st, r, h => Evt.all fun k => h
  | .rangeFunc .., st, r, h => by simp [evC] at h
  | .scope _, st, r, h => by simp [evC] at h
  | .label _, st, r, h => by simp [evC] at h
  | .goto _, st, r, h => by simp [evC] at h
  | .refuse _, st, r, h => by simp [evC] at h
/-- A loop goes on. -/
theorem Lf_next {hs : FH} {base : Nat} {c : Code} {st st' : St} {r : Ex × St} (h : evC P hs (Wf P H) base (Lf P H hs base) c (killAt base hs c st) = some (.normal, st')) (h2 : Lf P H hs base c st' = some r) : Lf P H hs base c st = some r := by
  obtain ⟨K, hK⟩ := evC_cont c _ _ h
  obtain ⟨K2, hK2⟩ := Lf_some.1 h2
  refine Lf_some.2 ⟨max K K2 + 1, ?_⟩
  have e1 := hK (max K K2) (Nat.le_max_left _ _)
  have e2 := evLoop_le (Nat.le_max_right K K2) c st' r hK2
  simp only [evLoop]
  have hm := evFn_mono (P := P) (H := H) (max K K2)
  rw [evC_mono hm ((evLoop_mono hm (max K K2)).2) c _ _ e1]
  exact (evLoop_mono hm (max K K2)).2 c st' r e2
/-- A loop ends. -/
theorem Lf_exit {hs : FH} {base : Nat} {c : Code} {st st' : St} {ex : Ex} (h : evC P hs (Wf P H) base (Lf P H hs base) c (killAt base hs c st) = some (ex, st')) (hne : ex ≠ .normal) : Lf P H hs base c st = some (ex, st') := by
  obtain ⟨K, hK⟩ := evC_cont c _ _ h
  refine Lf_some.2 ⟨K + 1, ?_⟩
  have e1 := hK K (Nat.le_refl _)
  simp only [evLoop]
  have hm := evFn_mono (P := P) (H := H) K
  rw [evC_mono hm ((evLoop_mono hm K).2) c _ _ e1]
  cases ex with
  | normal => exact absurd rfl hne
  | exit id => rfl
  | ret => rfl
/-- A call. -/
theorem Wf_of {f : FuncId} {fn : Func} {c : Code} {args : List AV} {sto : List Row} {r : AV × List Row × List Nat} {ex : Ex} {st : St} (hp : (H f).prim = none) (hf : P.funcs[f]? = some fn) (hb : fn.body = some c)
    (h : evC P (H f) (Wf P H) sto.length (Lf P H (H f) sto.length) c ⟨args ++ List.replicate (fn.ntmps - args.length) .dead, sto ++ List.replicate (H f).ntok .dead, []⟩ = some (ex, st)) (hex : ex = .normal ∨ ex = .ret) (hfin : finish P (H f).strong sto.length fn st = some r) : Wf P H f args sto = some r := by
  obtain ⟨K, hK⟩ := evC_cont c _ _ h
  refine Wf_some.2 ⟨K + 1, ?_⟩
  simp only [evFn, hp, hf, hb]
  rw [hK K (Nat.le_refl _)]
  rcases hex with rfl | rfl
  · exact hfin
  · exact hfin
theorem Wf_at {f : FuncId} {args : List AV} {sto : List Row} {r : AV × List Row × List Nat} (k : Nat) (h : evFn P H k f args sto = some r) : Wf P H f args sto = some r := Wf_some.2 ⟨k, h⟩
/-- What is known otherwise. -/
theorem Wf_prim {f : FuncId} {p : List AV → List Row → Option (AV × List Row × List Nat)} {args : List AV} {sto : List Row} {r : AV × List Row × List Nat} (hp : (H f).prim = some p) (h : p args sto = some r) : Wf P H f args sto = some r := Wf_some.2 ⟨1, by simp only [evFn, hp]; exact h⟩
/-- What it comes to, the machine does. -/
theorem Wf_calls (hP : POk P H) {f : FuncId} {args : List AV} {sto : List Row} {r : AV} {s1 : List Row} {mv : List Nat} (h : Wf P H f args sto = some (r, s1, mv)) (ρ : Gh) (w : World) (vs : Array Value) (hS : StoOk ρ w sto) (hv : RVs ρ w args vs.toList) :
    Calls P f vs w fun e w' => ∃ v ρ', e = .returned v ∧ RV ρ' w' r v ∧ StoOk ρ' w' s1 ∧ Ext ρ w ρ' w' (mv ++ List.range' sto.length (s1.length - sto.length)) := by
  obtain ⟨k, hk⟩ := Wf_some.1 h
  exact (evFn_known hP k).ok f args sto r s1 mv hk ρ w vs hS hv
end
end Go.Proofs.Ytnmnaomfohlmcaa.E
