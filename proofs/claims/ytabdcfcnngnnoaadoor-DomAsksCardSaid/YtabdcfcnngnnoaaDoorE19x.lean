/- Whatever the evaluator says, within whatever number of rounds, the machine does. -/
import Derived.Test.YtabdcfcnngnnoaaDoorE18
set_option linter.unusedVariables false
set_option linter.unusedSimpArgs false
namespace Go.Proofs.YtabdcfcnngnnoaaDoor.E
open Go
section
variable {P : Program} {H : FuncId → FH}
/-- What is known otherwise is right. -/
def PrimOk (P : Program) (H : FuncId → FH) : Prop := ∀ f p, (H f).prim = some p → (∃ fn, P.funcs[f]? = some fn ∧ fn.body.isSome = true) ∧
  ∀ args sto r s1 mv, p args sto = some (r, s1, mv) → ∀ (ρ : Gh) (w : World) (vs : Array Value), StoOk ρ w sto → RVs ρ w args vs.toList →
    Calls P f vs w fun e w' => ∃ v ρ', e = .returned v ∧ RV ρ' w' r v ∧ StoOk ρ' w' s1 ∧ Ext ρ w ρ' w' (mv ++ List.range' sto.length (s1.length - sto.length))
/-- What is asked of a program. -/
structure POk (P : Program) (H : FuncId → FH) : Prop where
  names : NamesOk P
  maps : MapsOk P
  mixed : P.follows .mixedOrders = true
  prim : PrimOk P H
theorem evFn_known (hP : POk P H) : ∀ k, Known P (evFn P H k)
  | 0 => ⟨hP.names, hP.maps, fun f args sto x h => by simp [evFn] at h, fun f args sto r s1 mv h => by simp [evFn] at h⟩
  | k + 1 => by
    have hK := evFn_known hP k
    have hm := hP.mixed
    refine ⟨hP.names, hP.maps, fun f args sto x h => ?_, fun f args sto r s1 mv h ρ w vs hS hv => ?_⟩
    · simp only [evFn] at h
      split at h
      · rename_i p hp
        exact (hP.prim f p hp).1
      split at h
      · cases h
      · rename_i fn hf
        split at h
        · cases h
        · rename_i c hb
          exact ⟨fn, hf, by rw [hb]; rfl⟩
    · simp only [evFn] at h
      split at h
      · rename_i p hp
        exact (hP.prim f p hp).2 args sto r s1 mv h ρ w vs hS hv
      split at h
      · cases h
      · rename_i fn hf
        split at h
        · cases h
        · rename_i c hb
          refine calls_of_wp hf hb ?_
          have hI : Inv sto.length ρ w ⟨args ++ List.replicate (fn.ntmps - args.length) .dead, sto ++ List.replicate (H f).ntok .dead, []⟩ { tmps := vs ++ Array.replicate (fn.ntmps - vs.size) undef, defers := [] } w := by
            have hvl : args.length = vs.size := by have := hv.1; simpa using this
            refine ⟨ρ, ⟨by simp [hvl], rfl, fun i x y h1 h2 => ?_⟩, hS.more _, FExt.refl⟩
            simp only [List.getElem?_append] at h1
            simp only [Array.getElem?_append] at h2
            split at h1
            · rename_i hlt
              rw [if_pos (by omega)] at h2
              exact hv.2 i x y h1 (by simpa using h2)
            · rw [List.getElem?_replicate] at h1
              split at h1
              · cases h1; exact .dead _
              · cases h1
          have fin : ∀ (st : St) (a' : Act) (w' : World), finish P (H f).strong sto.length fn st = some (r, s1, mv) → Inv sto.length ρ w st a' w' →
              a'.defers = [] ∧ ∃ v, (results fn a'.tmps).run P w' = .ok v w' ∧ ∃ v' ρ', Ending.returned v = .returned v' ∧ RV ρ' w' r v' ∧ StoOk ρ' w' s1 ∧ Ext ρ w ρ' w' (mv ++ List.range' sto.length (s1.length - sto.length)) := fun st a' w' hfi hI' => by
            obtain ⟨v, h1, ρ', h2, h3, h4⟩ := finish_ok hS rfl hfi hI'
            obtain ⟨_, he, _⟩ := hI'
            exact ⟨he.defers, v, h1, v, ρ', rfl, h2, h3, h4⟩
          split at h
          · rename_i st hev
            exact evC_ok hK hm (evLoop_ok hK hm k) c _ _ _ hev _ _ _ hI (fun a' w' hI' => fin st a' w' h hI')
          · rename_i st hev
            exact evC_ok hK hm (evLoop_ok hK hm k) c _ _ _ hev _ _ _ hI (fun a' w' hI' => fin st a' w' h hI')
          · cases h

/-! #### More rounds say the same -/
def LeC (c c' : CallF) : Prop := ∀ f args sto r, c f args sto = some r → c' f args sto = some r
def LeL (l l' : Code → St → Option (Ex × St)) : Prop := ∀ c st r, l c st = some r → l' c st = some r
/-- An operation asks a call once at most. -/
theorem evOp_call {call : CallF} {base : Nat} {own : List Nat} {ea : Operand → Option AV} {σ : List Row} {op : Op} {out : Out} (h : evOp P call base own ea σ op = some out) :
    (∀ call', evOp P call' base own ea σ op = some out) ∨ ∃ f args sto r, call f args sto = some r ∧ ∀ call', call' f args sto = some r → evOp P call' base own ea σ op = some out := by
  cases op with
  | call c =>
    cases hc : c.callee with
    | value fo =>
      simp only [evOp, hc] at h ⊢
      cases hf : ea fo with
      | none => rw [hf] at h; cases h
      | some u =>
        rw [hf] at h
        simp only [Option.bind_some] at h ⊢
        cases u with
        | clo g caps =>
          simp only at h ⊢
          cases ha : mapA ea c.args.toList with
          | none => rw [ha] at h; cases h
          | some args =>
            rw [ha] at h
            simp only [Option.bind_some] at h ⊢
            right
            unfold callA at h ⊢
            split at h
            · rename_i hlend
              unfold lendA at h ⊢
              replace h := Option.bind_eq_some_iff.1 h
              obtain ⟨fz, hfz, h⟩ := h
              replace h := Option.bind_eq_some_iff.1 h
              obtain ⟨q, hq, h⟩ := h
              refine ⟨_, _, _, q, hq, fun call' hq' => ?_⟩
              rw [if_pos hlend, hfz]
              simp only [Option.bind_some]
              rw [hq']
              exact h
            rename_i hlend
            simp only [if_neg hlend]
            unfold callS at h ⊢
            simp only at h ⊢
            split at h
            · rename_i hcond
              replace h := Option.bind_eq_some_iff.1 h
              obtain ⟨q, hq, h⟩ := h
              refine ⟨_, _, _, q, hq, fun call' hq' => ?_⟩
              rw [if_pos hcond, hq']
              exact h
            · rename_i hcond
              unfold callB at h ⊢
              simp only at h ⊢
              split at h
              · rename_i hcl
                split at h
                · cases h
                · rename_i r s1 mv hcall
                  refine ⟨_, _, _, _, hcall, fun call' hq' => ?_⟩
                  rw [if_neg hcond, if_pos hcl, hq']
                  exact h
              · cases h
        | _ => cases h
    | builtin b =>
      left
      intro call'
      simp only [evOp, hc] at h ⊢
      exact h
    | invoke r m =>
      simp only [evOp, hc] at h
      cases h
  | makeFunc fn first caps => left; intro call'; cases fn <;> exact h
  | makeMap t r => left; intro call'; cases r <;> exact h
  | _ => left; intro call'; exact h
theorem evOp_mono {call call' : CallF} {base : Nat} {own : List Nat} {ea : Operand → Option AV} {σ : List Row} {op : Op} {out : Out} (hle : LeC call call') (h : evOp P call base own ea σ op = some out) : evOp P call' base own ea σ op = some out := by
  rcases evOp_call h with h1 | ⟨f, args, sto, r, h1, h2⟩
  · exact h1 call'
  · exact h2 call' (hle f args sto r h1)
theorem evStep_mono {call call' : CallF} {base : Nat} {hs : FH} {o : Oper} {st : St} {r : St × Fl} (hle : LeC call call') (h : evStep P hs call base o st = some r) : evStep P hs call' base o st = some r := by
  unfold evStep at h ⊢
  obtain ⟨out, ho, rfl⟩ := Option.map_eq_some_iff.1 h
  rw [evOp_mono hle ho]
  rfl
theorem evOps_mono {call call' : CallF} {base : Nat} {hs : FH} {ops : Array Oper} (hle : LeC call call') : ∀ (l : List Oper) (st : St) (r : St × List Fl), evOps P hs call base ops l st = some r → evOps P hs call' base ops l st = some r
  | [], st, r, h => h
  | o :: l, st, r, h => by
    simp only [evOps] at h ⊢
    cases hg : guardA ops st.env o with
    | none => rw [hg] at h; cases h
    | some b =>
      rw [hg] at h
      simp only at h ⊢
      split at h
      · rename_i hb
        rw [if_pos hb]
        replace h := Option.bind_eq_some_iff.1 h
        obtain ⟨s, hs1, h⟩ := h
        obtain ⟨q, hq, rfl⟩ := Option.map_eq_some_iff.1 h
        rw [evStep_mono hle hs1]
        simp only [Option.bind_some]
        rw [evOps_mono hle l _ _ hq]
        rfl
      · rename_i hb
        rw [if_neg hb]
        obtain ⟨q, hq, rfl⟩ := Option.map_eq_some_iff.1 h
        rw [evOps_mono hle l _ _ hq]
        rfl
theorem evRegion_mono {call call' : CallF} {base : Nat} {hs : FH} {ops : Array Oper} {draw : Bool} {st st' : St} (hle : LeC call call') (h : evRegion P hs call base ops draw st = some st') : evRegion P hs call' base ops draw st = some st' := by
  unfold evRegion at h ⊢
  replace h := Option.bind_eq_some_iff.1 h
  obtain ⟨q, hq, h⟩ := h
  rw [evOps_mono hle _ _ _ hq]
  exact h
theorem evC_mono {call call' : CallF} {base : Nat} {hs : FH} {loop loop' : Code → St → Option (Ex × St)} (hle : LeC call call') (hl : LeL loop loop') : ∀ (c : Code) (st : St) (r : Ex × St), evC P hs call base loop c st = some r → evC P hs call' base loop' c st = some r
  | .skip, st, r, h => h
  | .region id ops draw, st, r, h => by
    simp only [evC] at h ⊢
    obtain ⟨s, hs1, rfl⟩ := Option.map_eq_some_iff.1 h
    rw [evRegion_mono hle hs1]
    rfl
  | .seq x y, st, r, h => by
    simp only [evC] at h ⊢
    split at h
    · rename_i s1 h1
      rw [evC_mono hle hl x st _ h1]
      exact evC_mono hle hl y _ r h
    · rename_i hne
      rw [evC_mono hle hl x st r h]
      obtain ⟨ex, s⟩ := r
      cases ex with
      | normal => exact absurd h (hne _)
      | exit id => rfl
      | ret => rfl
  | .cond c x y, st, r, h => by
    simp only [evC] at h ⊢
    unfold ifA at h ⊢
    split at h
    · split at h
      · rename_i ht; simp only [ht, if_true]; exact evC_mono hle hl x st r h
      · rename_i ht; rw [if_neg ht]; exact evC_mono hle hl y st r h
    · cases h
  | .block id c, st, r, h => by
    simp only [evC] at h ⊢
    split at h
    · rename_i j s1 h1
      rw [evC_mono hle hl c st _ h1]
      exact h
    · rename_i hne
      rw [evC_mono hle hl c st r h]
      obtain ⟨ex, s⟩ := r
      cases ex with
      | normal => rfl
      | exit id => exact absurd h (hne _ _)
      | ret => rfl
  | .loop c, st, r, h => by
    simp only [evC] at h ⊢
    obtain ⟨q, hq, h2⟩ := Option.map_eq_some_iff.1 h
    rw [hl c st q hq, ← h2]
    rfl
  | .exit id, st, r, h => h
  | .ret, st, r, h => h
  | .rangeFunc .., st, r, h => by simp [evC] at h
  | .scope _, st, r, h => by simp [evC] at h
  | .label _, st, r, h => by simp [evC] at h
  | .goto _, st, r, h => by simp [evC] at h
  | .refuse _, st, r, h => by simp [evC] at h
theorem evLoop_mono {call call' : CallF} {base : Nat} {hs : FH} (hle : LeC call call') : ∀ k, LeL (evLoop P hs call base k) (evLoop P hs call' base (k + 1)) ∧ LeL (evLoop P hs call base k) (evLoop P hs call' base k)
  | 0 => ⟨fun c st r h => by simp [evLoop] at h, fun c st r h => by simp [evLoop] at h⟩
  | k + 1 => by
    obtain ⟨h1, h2⟩ := evLoop_mono hle k
    have gen : ∀ (l : Code → St → Option (Ex × St)), LeL (evLoop P hs call base k) l → ∀ (c : Code) (st : St) (r : Ex × St), (match evC P hs call base (evLoop P hs call base k) c (killAt base hs c st) with | some (.normal, st) => evLoop P hs call base k c st | r => r) = some r →
        (match evC P hs call' base l c (killAt base hs c st) with | some (.normal, st) => l c st | r => r) = some r := by
      intro l hl c st r h
      split at h
      · rename_i s1 hs1
        rw [evC_mono hle hl c _ _ hs1]
        exact hl c s1 r h
      · rename_i hne
        rw [evC_mono hle hl c _ r h]
        obtain ⟨ex, s⟩ := r
        cases ex with
        | normal => exact absurd h (hne _)
        | exit id => rfl
        | ret => rfl
    exact ⟨fun c st r h => by simp only [evLoop] at h ⊢; exact gen _ h1 c st r h, fun c st r h => by simp only [evLoop] at h ⊢; exact gen _ h2 c st r h⟩
theorem evFn_mono : ∀ k, LeC (evFn P H k) (evFn P H (k + 1))
  | 0 => fun f args sto r h => by simp [evFn] at h
  | k + 1 => fun f args sto r h => by
    have ih := evFn_mono k
    simp only [evFn] at h
    unfold evFn
    split at h
    · exact h
    split at h
    · cases h
    · rename_i fn hf
      try simp only [hf]
      split at h
      · cases h
      · rename_i c hb
        try simp only [hb]
        split at h
        · rename_i st hev
          rw [evC_mono ih ((evLoop_mono ih k).1) c _ _ hev]
          exact h
        · rename_i st hev
          rw [evC_mono ih ((evLoop_mono ih k).1) c _ _ hev]
          exact h
        · cases h
theorem evFn_le {k k' : Nat} (h : k ≤ k') : LeC (evFn P H k) (evFn P H k') := by
  obtain ⟨d, rfl⟩ : ∃ d, k' = k + d := ⟨k' - k, by omega⟩
  clear h
  induction d with
  | zero => exact fun f args sto r h => h
  | succ d ih => exact fun f args sto r h => evFn_mono (k + d) f args sto r (ih f args sto r h)
theorem evLoop_le {base : Nat} {hs : FH} {k k' : Nat} (h : k ≤ k') : LeL (evLoop P hs (evFn P H k) base k) (evLoop P hs (evFn P H k') base k') := by
  obtain ⟨d, rfl⟩ : ∃ d, k' = k + d := ⟨k' - k, by omega⟩
  clear h
  induction d with
  | zero => exact fun c st r h => h
  | succ d ih => exact fun c st r h => (evLoop_mono (evFn_mono (k + d)) (k + d)).1 c st r (ih c st r h)

/-! #### Without a number of rounds -/
open Classical in
/-- What a call comes to. -/
noncomputable def Wf (P : Program) (H : FuncId → FH) : CallF := fun f args sto => if h : ∃ r k, evFn P H k f args sto = some r then some h.choose else none
open Classical in
/-- What a loop comes to. -/
noncomputable def Lf (P : Program) (H : FuncId → FH) (hs : FH) (base : Nat) : Code → St → Option (Ex × St) := fun c st => if h : ∃ r k, evLoop P hs (evFn P H k) base k c st = some r then some h.choose else none
theorem Wf_some {f : FuncId} {args : List AV} {sto : List Row} {r : AV × List Row × List Nat} : Wf P H f args sto = some r ↔ ∃ k, evFn P H k f args sto = some r := by
  unfold Wf
  constructor
  · intro h
    split at h
    · rename_i hex
      cases h
      exact hex.choose_spec
    · cases h
  · rintro ⟨k, hk⟩
    have hex : ∃ r k, evFn P H k f args sto = some r := ⟨r, k, hk⟩
    rw [dif_pos hex]
    obtain ⟨k', hk'⟩ := hex.choose_spec
    have h1 := evFn_le (Nat.le_max_left k k') f args sto _ hk
    have h2 := evFn_le (Nat.le_max_right k k') f args sto _ hk'
    rw [h1] at h2
    exact h2.symm
theorem Lf_some {hs : FH} {base : Nat} {c : Code} {st : St} {r : Ex × St} : Lf P H hs base c st = some r ↔ ∃ k, evLoop P hs (evFn P H k) base k c st = some r := by
  unfold Lf
  constructor
  · intro h
    split at h
    · rename_i hex
      cases h
      exact hex.choose_spec
    · cases h
  · rintro ⟨k, hk⟩
    have hex : ∃ r k, evLoop P hs (evFn P H k) base k c st = some r := ⟨r, k, hk⟩
    rw [dif_pos hex]
    obtain ⟨k', hk'⟩ := hex.choose_spec
    have h1 := evLoop_le (Nat.le_max_left k k') c st _ hk
    have h2 := evLoop_le (Nat.le_max_right k k') c st _ hk'
    rw [h1] at h2
    exact h2.symm
/-- What holds from some number of rounds on. -/
def Evt (p : Nat → Prop) : Prop := ∃ K, ∀ k, K ≤ k → p k
theorem Evt.and {p q : Nat → Prop} (h : Evt p) (g : Evt q) : Evt fun k => p k ∧ q k := by
  obtain ⟨K, h⟩ := h
  obtain ⟨L, g⟩ := g
  exact ⟨max K L, fun k hk => ⟨h k (by omega), g k (by omega)⟩⟩
theorem Evt.mono {p q : Nat → Prop} (h : Evt p) (hpq : ∀ k, p k → q k) : Evt q := by
  obtain ⟨K, h⟩ := h
  exact ⟨K, fun k hk => hpq k (h k hk)⟩
theorem Evt.all {p : Nat → Prop} (h : ∀ k, p k) : Evt p := ⟨0, fun k _ => h k⟩
theorem evOps_cont {base : Nat} {hs : FH} {ops : Array Oper} : ∀ (l : List Oper) (st : St) (r : St × List Fl), evOps P hs (Wf P H) base ops l st = some r → Evt fun k => evOps P hs (evFn P H k) base ops l st = some r
  | [], st, r, h => Evt.all fun k => h
  | o :: l, st, r, h => by
    simp only [evOps] at h
    cases hg : guardA ops st.env o with
    | none => rw [hg] at h; cases h
    | some b =>
    rw [hg] at h
    simp only at h
    split at h
    · rename_i hb
      replace h := Option.bind_eq_some_iff.1 h
      obtain ⟨s, hs1, h⟩ := h
      obtain ⟨q, hq, rfl⟩ := Option.map_eq_some_iff.1 h
      have e1 : Evt fun k => evStep P hs (evFn P H k) base o st = some s := by
        unfold evStep at hs1
        obtain ⟨out, ho, rfl⟩ := Option.map_eq_some_iff.1 hs1
        have key : ∀ call', evOp P call' base (ownOf hs o) (evA st.env) st.sto o.op = some out → evStep P hs call' base o st = some (⟨putA (killE out.mv st.env) o.dst out.val, out.sto, addMv base st.mv out.mv⟩, ⟨out.w, out.mv, out.val, touchV (ownOf hs o) (evA st.env) o.op && (frOf base (ownOf hs o) (evA st.env) o.op out).isNone, frOf base (ownOf hs o) (evA st.env) o.op out, out.sto.length, adOf (evA st.env) o.op, stOf (evA st.env) o.op⟩) := fun call' h => by
          unfold evStep
          rw [h]
          rfl
        rcases evOp_call ho with h1 | ⟨f, args, sto, r, h1, h2⟩
        · exact Evt.all fun k => key _ (h1 _)
        · obtain ⟨K, hK⟩ := Wf_some.1 h1
          exact ⟨K, fun k hk => key _ (h2 _ (evFn_le hk f args sto r hK))⟩
      refine (e1.and (evOps_cont l _ _ hq)).mono fun k ⟨h1, h2⟩ => ?_
      simp only [evOps, hg]
      rw [if_pos hb, h1]
      simp only [Option.bind_some]
      rw [h2]
      rfl
    · rename_i hb
      obtain ⟨q, hq, rfl⟩ := Option.map_eq_some_iff.1 h
      refine (evOps_cont l _ _ hq).mono fun k h2 => ?_
      simp only [evOps, hg]
      rw [if_neg hb, h2]
      rfl
theorem evC_cont {base : Nat} {hs : FH} : ∀ (c : Code) (st : St) (r : Ex × St), evC P hs (Wf P H) base (Lf P H hs base) c st = some r → Evt fun k => evC P hs (evFn P H k) base (evLoop P hs (evFn P H k) base k) c st = some r
  | .skip, st, r, h => Evt.all fun k => h
  | .region id ops draw, st, r, h => by
    simp only [evC] at h ⊢
    obtain ⟨s, hs1, rfl⟩ := Option.map_eq_some_iff.1 h
    unfold evRegion at hs1 ⊢
    replace hs1 := Option.bind_eq_some_iff.1 hs1
    obtain ⟨q, hq, h1⟩ := hs1
    exact (evOps_cont _ _ _ hq).mono fun k h2 => by rw [h2]; simp only [Option.bind_some]; rw [h1]; rfl
  | .seq x y, st, r, h => by
    simp only [evC] at h ⊢
    split at h
    · rename_i s1 h1
      exact ((evC_cont x st _ h1).and (evC_cont y _ r h)).mono fun k ⟨e1, e2⟩ => by rw [e1]; exact e2
    · rename_i hne
      refine (evC_cont x st r h).mono fun k e1 => ?_
      rw [e1]
      obtain ⟨ex, s⟩ := r
      cases ex with
      | normal => exact absurd h (hne _)
      | exit id => rfl
      | ret => rfl
  | .cond c x y, st, r, h => by
    simp only [evC] at h ⊢
    unfold ifA at h ⊢
    split at h
    · split at h
      · rename_i ht; simp only [ht, if_true]; exact evC_cont x st r h
      · rename_i ht; simp only [if_neg ht]; exact evC_cont y st r h
    · cases h
  | .block id c, st, r, h => by
    simp only [evC] at h ⊢
    split at h
    · rename_i j s1 h1
      exact (evC_cont c st _ h1).mono fun k e1 => by rw [e1]; exact h
    · rename_i hne
      refine (evC_cont c st r h).mono fun k e1 => ?_
      rw [e1]
      obtain ⟨ex, s⟩ := r
      cases ex with
      | normal => rfl
      | exit id => exact absurd h (hne _ _)
      | ret => rfl
  | .loop c, st, r, h => by
    simp only [evC] at h ⊢
    obtain ⟨q, hq, h2⟩ := Option.map_eq_some_iff.1 h
    obtain ⟨K, hK⟩ := Lf_some.1 hq
    exact ⟨K, fun k hk => by simp only; rw [evLoop_le hk c st q hK, ← h2]; rfl⟩
  | .exit id, st, r, h => Evt.all fun k => h
  | .ret, st, r, h => Evt.all fun k => h
  | .rangeFunc .., st, r, h => by simp [evC] at h
  | .scope _, st, r, h => by simp [evC] at h
  | .label _, st, r, h => by simp [evC] at h
  | .goto _, st, r, h => by simp [evC] at h
  | .refuse _, st, r, h => by simp [evC] at h
/-- A loop goes on. -/
theorem Lf_next {hs : FH} {base : Nat} {c : Code} {st st' : St} {r : Ex × St} (h : evC P hs (Wf P H) base (Lf P H hs base) c (killAt base hs c st) = some (.normal, st')) (h2 : Lf P H hs base c st' = some r) : Lf P H hs base c st = some r := by
  obtain ⟨K, hK⟩ := evC_cont c _ _ h
  obtain ⟨K2, hK2⟩ := Lf_some.1 h2
  refine Lf_some.2 ⟨max K K2 + 1, ?_⟩
  have e1 := hK (max K K2) (Nat.le_max_left _ _)
  have e2 := evLoop_le (Nat.le_max_right K K2) c st' r hK2
  simp only [evLoop]
  have hm := evFn_mono (P := P) (H := H) (max K K2)
  rw [evC_mono hm ((evLoop_mono hm (max K K2)).2) c _ _ e1]
  exact (evLoop_mono hm (max K K2)).2 c st' r e2
/-- A loop ends. -/
theorem Lf_exit {hs : FH} {base : Nat} {c : Code} {st st' : St} {ex : Ex} (h : evC P hs (Wf P H) base (Lf P H hs base) c (killAt base hs c st) = some (ex, st')) (hne : ex ≠ .normal) : Lf P H hs base c st = some (ex, st') := by
  obtain ⟨K, hK⟩ := evC_cont c _ _ h
  refine Lf_some.2 ⟨K + 1, ?_⟩
  have e1 := hK K (Nat.le_refl _)
  simp only [evLoop]
  have hm := evFn_mono (P := P) (H := H) K
  rw [evC_mono hm ((evLoop_mono hm K).2) c _ _ e1]
  cases ex with
  | normal => exact absurd rfl hne
  | exit id => rfl
  | ret => rfl
/-- A call. -/
theorem Wf_of {f : FuncId} {fn : Func} {c : Code} {args : List AV} {sto : List Row} {r : AV × List Row × List Nat} {ex : Ex} {st : St} (hp : (H f).prim = none) (hf : P.funcs[f]? = some fn) (hb : fn.body = some c)
    (h : evC P (H f) (Wf P H) sto.length (Lf P H (H f) sto.length) c ⟨args ++ List.replicate (fn.ntmps - args.length) .dead, sto ++ List.replicate (H f).ntok .dead, []⟩ = some (ex, st)) (hex : ex = .normal ∨ ex = .ret) (hfin : finish P (H f).strong sto.length fn st = some r) : Wf P H f args sto = some r := by
  obtain ⟨K, hK⟩ := evC_cont c _ _ h
  refine Wf_some.2 ⟨K + 1, ?_⟩
  simp only [evFn, hp, hf, hb]
  rw [hK K (Nat.le_refl _)]
  rcases hex with rfl | rfl
  · exact hfin
  · exact hfin
theorem Wf_at {f : FuncId} {args : List AV} {sto : List Row} {r : AV × List Row × List Nat} (k : Nat) (h : evFn P H k f args sto = some r) : Wf P H f args sto = some r := Wf_some.2 ⟨k, h⟩
/-- What is known otherwise. -/
theorem Wf_prim {f : FuncId} {p : List AV → List Row → Option (AV × List Row × List Nat)} {args : List AV} {sto : List Row} {r : AV × List Row × List Nat} (hp : (H f).prim = some p) (h : p args sto = some r) : Wf P H f args sto = some r := Wf_some.2 ⟨1, by simp only [evFn, hp]; exact h⟩
/-- What it comes to, the machine does. -/
theorem Wf_calls (hP : POk P H) {f : FuncId} {args : List AV} {sto : List Row} {r : AV} {s1 : List Row} {mv : List Nat} (h : Wf P H f args sto = some (r, s1, mv)) (ρ : Gh) (w : World) (vs : Array Value) (hS : StoOk ρ w sto) (hv : RVs ρ w args vs.toList) :
    Calls P f vs w fun e w' => ∃ v ρ', e = .returned v ∧ RV ρ' w' r v ∧ StoOk ρ' w' s1 ∧ Ext ρ w ρ' w' (mv ++ List.range' sto.length (s1.length - sto.length)) := by
  obtain ⟨k, hk⟩ := Wf_some.1 h
  exact (evFn_known hP k).ok f args sto r s1 mv hk ρ w vs hS hv
end
end Go.Proofs.YtabdcfcnngnnoaaDoor.E
set_option linter.unusedVariables false
set_option linter.unusedSimpArgs false
namespace Go.Proofs.YtabdcfcnngnnoaaDoor.E
open Go
/-- Then. -/
def andA {α β : Type} (x : Option α) (f : α → Option β) : Option β := x.bind f
@[congr] theorem andA_congr {α β : Type} {x x' : Option α} (h : x = x') (f : α → Option β) : andA x f = andA x' f := by rw [h]
@[simp] theorem andA_some {α β : Type} (x : α) (f : α → Option β) : andA (some x) f = f x := rfl
@[simp] theorem andA_none {α β : Type} (f : α → Option β) : andA none f = none := rfl
def thenA (x : Option (Ex × St)) (f : St → Option (Ex × St)) : Option (Ex × St) :=
  match x with
  | some (.normal, st) => f st
  | r => r
@[congr] theorem thenA_congr {x x' : Option (Ex × St)} (h : x = x') (f : St → Option (Ex × St)) : thenA x f = thenA x' f := by rw [h]
@[simp] theorem thenA_normal (st : St) (f : St → Option (Ex × St)) : thenA (some (.normal, st)) f = f st := rfl
@[simp] theorem thenA_ret (st : St) (f : St → Option (Ex × St)) : thenA (some (.ret, st)) f = some (.ret, st) := rfl
@[simp] theorem thenA_exit (id : Nat) (st : St) (f : St → Option (Ex × St)) : thenA (some (.exit id, st)) f = some (.exit id, st) := rfl
@[simp] theorem thenA_none (f : St → Option (Ex × St)) : thenA none f = none := rfl
@[simp] theorem thenA_ite (c : Prop) [Decidable c] (x y : Option (Ex × St)) (f : St → Option (Ex × St)) : thenA (if c then x else y) f = if c then thenA x f else thenA y f := by split <;> rfl
@[simp] theorem andA_ite {α β : Type} (c : Prop) [Decidable c] (x y : Option α) (f : α → Option β) : andA (if c then x else y) f = if c then andA x f else andA y f := by split <;> rfl
def blockA (id : Nat) (x : Option (Ex × St)) : Option (Ex × St) :=
  match x with
  | some (.exit j, st) => if j = id then some (.normal, st) else some (.exit j, st)
  | r => r
@[simp] theorem blockA_normal (id : Nat) (st : St) : blockA id (some (.normal, st)) = some (.normal, st) := rfl
@[simp] theorem blockA_ret (id : Nat) (st : St) : blockA id (some (.ret, st)) = some (.ret, st) := rfl
@[simp] theorem blockA_exit (id j : Nat) (st : St) : blockA id (some (.exit j, st)) = if j = id then some (.normal, st) else some (.exit j, st) := rfl
@[simp] theorem blockA_none (id : Nat) : blockA id none = none := rfl
@[simp] theorem blockA_ite (id : Nat) (c : Prop) [Decidable c] (x y : Option (Ex × St)) : blockA id (if c then x else y) = if c then blockA id x else blockA id y := by split <;> rfl
@[congr] theorem ifA_congr {α : Type} {v v' : Option AV} (h : v = v') (x y : Option α) : ifA v x y = ifA v' x y := by rw [h]
@[simp] theorem ifA_bool {α : Type} (t : Bool) (x y : Option α) : ifA (some (.v (.bool t))) x y = if t = true then x else y := rfl
section
variable {P : Program} {H : FuncId → FH} {h : FH} {call : CallF} {base : Nat} {ops : Array Oper}
def stepA (P : Program) (h : FH) (call : CallF) (base : Nat) (ops : Array Oper) (o : Oper) (st : St) : Option (St × Fl) :=
  andA (guardA ops st.env o) fun b => if b = true then evStep P h call base o st else some (⟨putA st.env o.dst undefA, st.sto, st.mv⟩, noFl)
def evO (P : Program) (h : FH) (call : CallF) (base : Nat) (ops : Array Oper) : List Oper → St → List Fl → Option (St × List Fl)
  | [], st, fl => some (st, fl)
  | o :: r, st, fl => andA (stepA P h call base ops o st) fun s => evO P h call base ops r s.1 (fl ++ [s.2])
theorem evO_eq : ∀ (l : List Oper) (st : St) (fl : List Fl), evO P h call base ops l st fl = (evOps P h call base ops l st).map fun q => (q.1, fl ++ q.2)
  | [], st, fl => by simp [evO, evOps]
  | o :: r, st, fl => by
    simp only [evO, evOps, stepA, andA]
    cases guardA ops st.env o with
    | none => rfl
    | some b =>
      simp only [Option.bind_some]
      cases b with
      | true =>
        simp only [if_true]
        cases evStep P h call base o st with
        | none => rfl
        | some s =>
          simp only [Option.bind_some]
          rw [evO_eq r]
          cases evOps P h call base ops r s.1 <;> simp
      | false =>
        simp only [Bool.false_eq_true, if_false, Option.bind_some]
        rw [evO_eq r]
        cases evOps P h call base ops r ⟨putA st.env o.dst undefA, st.sto, st.mv⟩ <;> simp
def evR (P : Program) (h : FH) (call : CallF) (base : Nat) (ops : Array Oper) (draw : Bool) (st : St) : Option (Ex × St) :=
  andA (evO P h call base ops ops.toList st []) fun q => if (!draw || drawOk ops st.env st.sto.length q.2) = true then some (.normal, q.1) else none
def evK (P : Program) (h : FH) (call : CallF) (base : Nat) (loop : Code → St → Option (Ex × St)) : Code → St → Option (Ex × St)
  | .skip, st => some (.normal, st)
  | .region _ ops draw, st => evR P h call base ops draw st
  | .seq a b, st => thenA (evK P h call base loop a st) fun st => evK P h call base loop b (joinAt base h b st)
  | .cond c a b, st => ifA (evA st.env c) (evK P h call base loop a st) (evK P h call base loop b st)
  | .block id c, st => blockA id (evK P h call base loop c st)
  | .loop c, st => (loop c st).map (killX base h c)
  | .exit id, st => some (.exit id, st)
  | .ret, st => some (.ret, st)
  | _, _ => none
theorem evR_eq (draw : Bool) (st : St) : evR P h call base ops draw st = (evRegion P h call base ops draw st).map fun st => (.normal, st) := by
  unfold evR evRegion andA
  rw [evO_eq]
  cases evOps P h call base ops ops.toList st with
  | none => rfl
  | some q =>
    simp only [Option.map_some, Option.bind_some, List.nil_append]
    split <;> rfl
theorem evK_eq {loop : Code → St → Option (Ex × St)} : ∀ (c : Code) (st : St), evK P h call base loop c st = evC P h call base loop c st
  | .skip, st => rfl
  | .region id ops draw, st => by simp only [evK, evC]; exact evR_eq draw st
  | .seq a b, st => by
    simp only [evK, evC, evK_eq a st]
    unfold thenA
    split
    · rename_i st' he
      rw [he]
      simp only
      exact evK_eq b _
    · rename_i hne
      split
      · rename_i st' he
        exact absurd he (hne st')
      · rfl
  | .cond c a b, st => by simp only [evK, evC, evK_eq a st, evK_eq b st]
  | .block id c, st => by
    simp only [evK, evC, evK_eq c st]
    rfl
  | .loop c, st => rfl
  | .exit id, st => rfl
  | .ret, st => rfl
  | .rangeFunc .., st => rfl
  | .scope _, st => rfl
  | .label _, st => rfl
  | .goto _, st => rfl
  | .refuse _, st => rfl
/-- What a function's body ends in. -/
def endA (P : Program) (sg : Bool) (base : Nat) (fn : Func) (q : Ex × St) : Option (AV × List Row × List Nat) :=
  match q with
  | (.normal, st) | (.ret, st) => finish P sg base fn st
  | _ => none
theorem Wf_run {f : FuncId} {fn : Func} {c : Code} {args : List AV} {sto : List Row} {r : AV × List Row × List Nat} (hp : (H f).prim = none) (hf : P.funcs[f]? = some fn) (hb : fn.body = some c)
    (hr : andA (evK P (H f) (Wf P H) sto.length (Lf P H (H f) sto.length) c ⟨args ++ List.replicate (fn.ntmps - args.length) .dead, sto ++ List.replicate (H f).ntok .dead, []⟩) (endA P (H f).strong sto.length fn) = some r) : Wf P H f args sto = some r := by
  obtain ⟨⟨ex, st⟩, h1, h2⟩ := Option.bind_eq_some_iff.1 hr
  rw [evK_eq] at h1
  cases ex with
  | normal => exact Wf_of hp hf hb h1 (.inl rfl) h2
  | ret => exact Wf_of hp hf hb h1 (.inr rfl) h2
  | exit id => cases h2
theorem Lf_run {hs : FH} {c : Code} {st : St} {r : Ex × St}
    (hr : thenA (evK P hs (Wf P H) base (Lf P H hs base) c (killAt base hs c st)) (Lf P H hs base c) = some r) : Lf P H hs base c st = some r := by
  rw [evK_eq] at hr
  unfold thenA at hr
  split at hr
  · rename_i st' he
    exact Lf_next he hr
  · rename_i hne
    obtain ⟨ex, st'⟩ := r
    refine Lf_exit hr (fun e => ?_)
    subst e
    exact hne _ hr
end
attribute [simp] evK evR evO stepA guardA evStep ownOf evA putA killE addMv constA leaf undefA endA finish resA packA
end Go.Proofs.YtabdcfcnngnnoaaDoor.E
set_option linter.unusedVariables false
namespace Go.Proofs.YtabdcfcnngnnoaaDoor.E
open Go
def goB (b : Bool) : AV := .v (.bool b)
/-- What must hold for it to come to something that answers as Q says. -/
abbrev M (α : Type) := (α → Prop) → Prop
def rt {α : Type} (x : α) : M α := fun Q => Q x
def bd {α β : Type} (m : M α) (f : α → M β) : M β := fun Q => m fun a => f a Q
def op? {α : Type} (o : Option α) : M α := fun Q => match o with | some x => Q x | none => False
def rq {α : Type} (p : Prop) (m : M α) : M α := fun Q => p ∧ m Q
/-- By a bool. -/
def TB (b : Bool) (X Y : Prop) : Prop := match b with | true => X | false => Y
def intOf : AV → Int | .v (.int _ n) => n | _ => 0
def boolOf : AV → Bool | .v (.bool b) => b | _ => false
def strOf : AV → ByteArray | .v (.string s) => s | _ => ⟨#[]⟩
def slOf : AV → List (List AV) | .sl xs => xs | _ => []
/-- x, as one of the kind of the zero value z. -/
def rdI (row : List AV) (j : Nat) : Int := intOf (row.getD j .dead)
def rdB (row : List AV) (j : Nat) : Bool := boolOf (row.getD j .dead)
def rdS (row : List AV) (j : Nat) : ByteArray := strOf (row.getD j .dead)
def rdL (row : List AV) (j : Nat) : List (List AV) := slOf (row.getD j .dead)
def rowAt (xs : List (List AV)) (n : Nat) : List AV := xs.getD n []
def coA : AV → List AV → Nat → AV
  | .v (.int k _), row, j => .v (.int k (rdI row j))
  | .v (.bool _), row, j => .v (.bool (rdB row j))
  | .v (.string _), row, j => .v (.string (rdS row j))
  | .nil, row, j => .sl (rdL row j)
  | _, row, j => row.getD j .dead
def coL : List AV → List AV → Nat → List AV
  | [], _, _ => []
  | z :: r, row, j => coA z row j :: coL r row (j + 1)
def cellT (P : Program) (t : TypeId) (row : List AV) (j : Nat) : List AV := coL ((zeroA P t).getD []) row j
def eqFieldsT (P : Program) (eq : TypeId → List AV → List AV → Option Bool) (xs ys : List AV) : List Field → Option Bool
  | [] => some true
  | f :: r =>
    if f.name = "_" then none else
    (esz P f.type).bind fun s => (eq f.type ((xs.drop f.offset).take s) ((ys.drop f.offset).take s)).bind fun b => (eqFieldsT P eq xs ys r).map fun c => b && c
def eqT (P : Program) : Nat → TypeId → List AV → List AV → Option Bool
  | 0, _, _, _ => none
  | n + 1, t, xs, ys =>
    match P.underlying t with
    | some (.int _) => match xs, ys with | [.v (.int k a)], [.v (.int k' b)] => if k = k' then some (a == b) else none | _, _ => none
    | some .bool => match xs, ys with | [.v (.bool a)], [.v (.bool b)] => some (a == b) | _, _ => none
    | some (.struct fs) => if P.stoodInHeld t then none else eqFieldsT P (eqT P n) xs ys fs.toList
    | _ => none
def binT (P : Program) (op : BinOp) (t : TypeId) (x y : AV) : M AV :=
  match op, x, y with
  | .shl, .v (.int k a), .v (.int _ b) => rq (0 ≤ b) (rt (.v (.int k (shlI k a b))))
  | .shr, .v (.int k a), .v (.int _ b) => rq (0 ≤ b) (rt (.v (.int k (shrI k a b))))
  | .quo, .v (.int k a), .v (.int k' b) => if k = k' then rq (b ≠ 0) (rt (.v (.int k (k.wrap (a.tdiv b))))) else op? none
  | .rem, .v (.int k a), .v (.int k' b) => if k = k' then rq (b ≠ 0) (rt (.v (.int k (a.tmod b)))) else op? none
  | .eql, .agg xs, .agg ys => match P.underlying t with | some (.struct _) => if P.eqGuardType P.depth t then op? none else op? ((eqT P 100 t xs ys).map fun r => .v (.bool r)) | _ => op? none
  | .neq, .agg xs, .agg ys => match P.underlying t with | some (.struct _) => if P.eqGuardType P.depth t then op? none else op? ((eqT P 100 t xs ys).map fun r => .v (.bool (!r))) | _ => op? none
  | op, x, y => op? (binA P op t x y)
def boundT (lim : Nat) : Option AV → Nat → M Nat
  | none, d => rt d
  | some (.v (.int _ n)), _ => rq (0 ≤ n ∧ n ≤ lim) (rt n.toNat)
  | _, _ => op? none
def sliceT (P : Program) (sto : List Row) (t : TypeId) (x : AV) (lo hi : Option AV) : M AV :=
  match P.underlying t, x with
  | some (.slice e), .nil => bd (op? (esz P e)) fun s => bd (boundT 0 hi 0) fun h => bd (boundT h lo 0) fun l => rt .nil
  | some (.slice e), .sl xs => bd (op? (esz P e)) fun s => rq (rowsOk s xs = true) (bd (boundT xs.length hi xs.length) fun h => bd (boundT h lo 0) fun l => rt (.sl ((xs.take h).drop l)))
  | some (.slice e), .os k off len =>
    match sto[k]? with
    | some (.arr sz xs) => bd (op? (esz P e)) fun s => if sz = s then bd (boundT (xs.length - off) hi len) fun h => bd (boundT h lo 0) fun l => rt (.os k (off + l) (h - l)) else op? none
    | _ => op? none
  | some .string, .v (.string s) => bd (boundT s.size hi s.size) fun h => bd (boundT h lo 0) fun l => rt (.v (.string (s.extract l h)))
  | _, _ => op? none
/-- An integer (a sign for the parser). -/
@[simp] def iz (n : Int) : Int := n
/-- Cells of a row. -/
def cutAt (n j : Nat) (o : Option (List AV)) : Option (List AV) := o.map fun r => (r.drop j).take n
def loadT (P : Program) (t : TypeId) (sto : List Row) (a : AV) : M AV :=
  match a with
  | .pt k i j =>
    match sto[k]? with
    | some (.arr sz xs) =>
      if esz P t = some (cellT P t [] 0).length then
        rq (cutAt (cellT P t [] 0).length j xs[i]? = some (cellT P t (rowAt xs i) j)) (op? (loadA P t (cellT P t (rowAt xs i) j)))
      else op? none
    | _ => bd (op? (cellsAt sto a)) fun cs => op? (loadA P t cs)
  | _ => bd (op? (cellsAt sto a)) fun cs => op? (loadA P t cs)
def storeT (P : Program) (t : TypeId) (sto : List Row) (p x : AV) : M Out :=
  match p with
  | .pt k i j =>
    match sto[k]? with
    | some (.arr sz xs) =>
      if boxable x then
        let cs := cellsA x
        bd (op? (esz P t)) fun s =>
          if cs.length = s then
            bd (op? (freezeL sto cs)) fun fz =>
              if fz.2.contains k then op? none else
              if j + cs.length ≤ sz then
                rq ((xs[i]?).map List.length = some sz)
                  (if j = 0 ∧ fz.1.length = sz then rt ⟨.dead, (giveUp fz.2 sto).set k (.arr sz (xs.set i fz.1)), fz.2, true⟩
                  else rt ⟨.dead, (giveUp fz.2 sto).set k (.arr sz (xs.set i (splice (rowAt xs i) j fz.1))), fz.2, true⟩)
              else op? none
          else op? none
      else op? none
    | _ => op? (storeA P t sto p x)
  | _ => op? (storeA P t sto p x)
def makeSliceT (P : Program) (base : Nat) (own : List Nat) (t : TypeId) (l c : AV) (sto : List Row) : M Out :=
  match P.underlying t, l, c with
  | some (.slice e), .v (.int _ n), .v (.int _ m) =>
    bd (op? (elemA P e)) fun q => rq (0 ≤ n ∧ n ≤ m ∧ m ≤ LIM) (op? (freshArr base own q.1 (List.replicate n.toNat q.2) sto))
  | _, _, _ => op? none
def indexAddrT (P : Program) (sto : List Row) (t : TypeId) (x i : AV) : M AV :=
  match P.underlying t, i with
  | some (.slice e), .v (.int _ n) =>
    bd (op? (esz P e)) fun s =>
      match x with
      | .sl xs =>
        if s = (cellT P e [] 0).length then rq (0 ≤ n ∧ xs[n.toNat]? = some (cellT P e (rowAt xs n.toNat) 0)) (rt (.rp (cellT P e (rowAt xs n.toNat) 0)))
        else op? none
      | .os k off len =>
        match sto[k]? with
        | some (.arr sz xs) => if sz = s then rq (0 ≤ n ∧ n < len ∧ off + n.toNat < xs.length) (rt (.pt k (off + n.toNat) 0)) else op? none
        | _ => op? none
      | _ => op? none
  | some (.array len e), .v (.int _ n) =>
    bd (op? (esz P e)) fun s =>
      rq (0 ≤ n ∧ n < len)
        (match x with
        | .rp cells => rt (.rp (cells.drop (n.toNat * s)))
        | .pt t i j => rt (.pt t i (j + n.toNat * s))
        | _ => op? none)
  | _, _ => op? none
def indexT (P : Program) (t : TypeId) (x i : AV) : M AV :=
  match P.underlying t, x, i with
  | some (.array len e), .agg cells, .v (.int _ n) =>
    if esz P e = some (cellT P e [] 0).length then
      rq (0 ≤ n ∧ n < len ∧ (cells.drop (n.toNat * (cellT P e [] 0).length)).take (cellT P e [] 0).length = cellT P e cells (n.toNat * (cellT P e [] 0).length)) (op? (loadA P e (cellT P e cells (n.toNat * (cellT P e [] 0).length))))
    else op? none
  | some .string, .v (.string s), .v (.int _ n) => rq (0 ≤ n ∧ n.toNat < s.size) (rt (.v (.int .u8 ((s[n.toNat]?).getD 0).toNat)))
  | _, _, _ => op? none
/-- 'cut': does it append to what has room behind it? -/
def tb {α : Type} (b : Bool) (m n : M α) : M α := fun Q => TB b (m Q) (n Q)
def appendT0 (cut : Bool) (base : Nat) (own : List Nat) (s : Nat) (sto : List Row) (x : AV) (ys : List (List AV)) : M Out :=
  match x with
  | .cl xs => rq (rowsOk s xs = true ∧ (0 < ys.length ∨ xs.length = 0) ∧ xs.length + ys.length ≤ LIM) (op? (freshArr base own s (xs ++ ys) sto))
  | .nil => rq (ys.length ≤ LIM) (op? (freshArr base own s ys sto))
  | .os k off len =>
    match sto[k]? with
    | some (.arr sz xs) =>
      if sz = s then
        if cut then rq (off + len + ys.length ≤ xs.length ∧ (off ≠ 0 ∨ len ≠ xs.length ∨ LIM < len + ys.length)) (rt ⟨.os k off (len + ys.length), sto.set k (.arr s (xs.take (off + len) ++ ys ++ xs.drop (off + len + ys.length))), [], true⟩)
        else if off = 0 then rq (len = xs.length ∧ len + ys.length ≤ LIM) (rt ⟨.os k 0 (len + ys.length), (giveUp [k] sto).set k (.arr s (xs ++ ys)), [k], true⟩)
        else tb ((ys.length : Int) == 0) (rq (off + len = xs.length) (rt ⟨.os k off len, sto, [], true⟩))
          (rq (off + len = xs.length ∧ len + ys.length ≤ LIM) (rt ⟨.os k 0 (len + ys.length), (giveUp [k] sto).set k (.arr s (xs.drop off ++ ys)), [k], true⟩))
      else op? none
    | _ => op? none
  | _ => op? none
def appendRT (s : Nat) (sto : List Row) (x : AV) (ys : List (List AV)) : M Out :=
  match x with
  | .os k off len => match sto[k]? with
    | some (.arr sz xs) => if sz = s then rq (off + len ≤ xs.length ∧ len + ys.length ≤ LIM) (rt ⟨.os k 0 (len + ys.length), (giveUp [k] sto).set k (.arr s ((xs.drop off).take len ++ ys)), [k], true⟩) else op? none
    | _ => op? none
  | _ => op? none
def appendT (cut : Bool) (base : Nat) (own : List Nat) (s : Nat) (sto : List Row) (x : AV) (ys : List (List AV)) : M Out :=
  if own = [TRIM] then appendRT s sto x ys else appendT0 cut base own s sto x ys
def appendZT (P : Program) (e : TypeId) (sto : List Row) (x y : AV) : M Out :=
  match x, y with
  | .os k 0 len, .v (.int .i64 n) => bd (op? (elemA P e)) fun q => match sto[k]? with
    | some (.arr sz xs) => if sz = q.1 then rq (len = xs.length ∧ 0 ≤ n ∧ len + n.toNat ≤ LIM) (rt ⟨.os k 0 (len + n.toNat), (giveUp [k] sto).set k (.arr sz (xs ++ List.replicate n.toNat q.2)), [k], true⟩) else op? none
    | _ => op? none
  | _, _ => op? none
def builtinT (P : Program) (cut : Bool) (base : Nat) (own : List Nat) (b : Builtin) (ts : List TypeId) (args : List AV) (sto : List Row) : M Out :=
  match b, ts, args with
  | .append, t :: _, [x, y] =>
    match P.underlying t with
    | some (.slice e) => match ts with
      | [_, u] => match P.underlying u with
        | some (.slice _) =>
          bd (op? (elemA P e)) fun q => bd (op? (listOf sto y)) fun ys => rq (rowsOk q.1 ys = true) (appendT cut base own q.1 sto x ys)
        | some (.int _) => appendZT P e sto x y
        | _ => op? none
      | _ => op? none
    | _ => op? none
  | .copy, t :: _, [x, y] => match P.underlying t with
    | some (.slice e) => bd (op? (elemA P e)) fun q => bd (op? (listOf sto y)) fun ys => rq (rowsOk q.1 ys = true) (op? (copyA q.1 sto x ys))
    | _ => op? none
  | b, ts, args => op? (builtinA P base own b ts args sto)
/-- Slots, of which some alone hold something. -/
def mkE : Nat → Nat → List (Nat × AV) → List AV
  | 0, _, _ => []
  | n + 1, i, [] => .dead :: mkE n (i + 1) []
  | n + 1, i, (j, x) :: r => if i = j then x :: mkE n (i + 1) r else .dead :: mkE n (i + 1) ((j, x) :: r)
/-- A state with n slots. -/
def mkS (n : Nat) (l : List (Nat × AV)) (sto : List Row := []) (mv : List Nat := []) : St := ⟨mkE n 0 l, sto, mv⟩
/-- What is asked of a key, and what stands there. -/
def kindV : Value → Value → Value
  | .int k _, x => .int k (intOf (.v x))
  | .bool _, x => .bool (boolOf (.v x))
  | _, x => x
def atKeyV (key : List Int) (z : Value) (L : List (List Int × Value)) : Value := (valL key L).getD z
def lookupT (P : Program) (t : TypeId) (sto : List Row) (m x : AV) (ok : Bool) : M AV :=
  bd (op? (atMap P t sto m x)) fun q => rq (goodKey q.2.1.2 q.2.2.2.1 = true)
    (rq (atKeyV q.2.2.2.1 q.2.2.2.2 q.2.2.1 = kindV q.2.2.2.2 (atKeyV q.2.2.2.1 q.2.2.2.2 q.2.2.1))
      (rt (if ok then .tup [.v (kindV q.2.2.2.2 (atKeyV q.2.2.2.1 q.2.2.2.2 q.2.2.1)), .v (.bool (valL q.2.2.2.1 q.2.2.1).isSome)] else .v (kindV q.2.2.2.2 (atKeyV q.2.2.2.1 q.2.2.2.2 q.2.2.1)))))
def mapUpdateT (P : Program) (t : TypeId) (sto : List Row) (m x v : AV) : M Out :=
  bd (op? (atMap P t sto m x)) fun q => bd (op? (elemV v)) fun v => rq (goodKey q.2.1.2 q.2.2.2.1 = true)
    (rt ⟨.dead, sto.set q.1 (.map q.2.1 (updL q.2.2.2.1 v q.2.2.1)), [], true⟩)
def mapEntryT (P : Program) (t : TypeId) (sto : List Row) (m x : AV) : M Out :=
  bd (op? (atMap P t sto m x)) fun q => rq (goodKey q.2.1.2 q.2.2.2.1 = true)
    (rq (atKeyV q.2.2.2.1 q.2.2.2.2 q.2.2.1 = kindV q.2.2.2.2 (atKeyV q.2.2.2.1 q.2.2.2.2 q.2.2.1))
      (rt ⟨.tup [.v (kindV q.2.2.2.2 (atKeyV q.2.2.2.1 q.2.2.2.2 q.2.2.1)), goI (((posL q.2.2.2.1 q.2.2.1).getD q.2.2.1.length : Nat) : Int)], sto.set q.1 (.map q.2.1 (entL q.2.2.2.1 q.2.2.2.2 q.2.2.1)), [], true⟩))
def entryStoreT (sto : List Row) (m s v : AV) : M Out :=
  match m, s with
  | .mp k, .v (.int .i64 n) => match sto[k]? with
    | some (.map kd L) => bd (op? (elemV v)) fun v => rq (0 ≤ n ∧ n.toNat < L.length) (rt ⟨.dead, sto.set k (.map kd (setL n.toNat v L)), [], true⟩)
    | _ => op? none
  | _, _ => op? none
/-- What is known of calls. -/
abbrev CallM := FuncId → List AV → List Row → M (AV × List Row × List Nat)
def callBT (call : CallM) (base : Nat) (own : List Nat) (f : FuncId) (args : List AV) (ts : List Nat) (sto : List Row) : M Out :=
  if closedA ts args sto then
    bd (call f (nameL (idxOf ts) args) (ts.map fun t => nameR (idxOf ts) (sto.getD t .dead))) fun q =>
      op? (callB (fun _ _ _ => some q) base own f args ts sto)
  else op? none
def callST (call : CallM) (base : Nat) (own : List Nat) (f : FuncId) (args0 : List AV) (sto : List Row) : M Out :=
  let args := weakO own args0
  if (toksL args).isEmpty ∧ own.isEmpty then
    bd (call f args []) fun q => op? ((settleV 0 q.2.1 q.1).map fun r => ⟨r, sto, [], false⟩)
  else callBT call base (ownO own) f args (reach sto (2 * sto.length + 2 * args.length + 4) (toksL args) []) sto
def lentVT (full : List Row) : AV → M AV
  | .v x => rt (.v x)
  | .sl [] => rt (.sl [])
  | .os k off len => match full[k]? with
    | some (.arr sz xs) => rq (scalars xs = true) (rt (.sl ((xs.drop off).take len)))
    | _ => op? none
  | _ => op? none
def lentLT (full : List Row) : List AV → M (List AV)
  | [] => rt []
  | x :: r => bd (lentVT full x) fun y => bd (lentLT full r) fun l => rt (y :: l)
def lentRT (full : List Row) : AV → M AV
  | .tup l => bd (lentLT full l) fun l => rt (.tup l)
  | .agg l => bd (lentLT full l) fun l => rt (.agg l)
  | x => lentVT full x
def lendT (call : CallM) (base : Nat) (own : List Nat) (f : FuncId) (args0 : List AV) (sto : List Row) : M Out :=
  bd (op? (lendL sto (weakL args0))) fun fz => bd (call f fz.1 []) fun q =>
    match own with
    | [k] => match q.1 with
      | .os t off len => match q.2.1[t]? with
        | some (.arr sz xs) => if base + k < sto.length then rq (scalars xs = true) (rt ⟨.os (base + k) off len, (giveUp [base + k] sto).set (base + k) (.arr sz xs), [base + k], true⟩) else op? none
        | _ => op? none
      | .nil => rt ⟨.nil, sto, [], false⟩
      | _ => op? none
    | [] => bd (lentRT q.2.1 q.1) fun r => rt ⟨r, sto, [], false⟩
    | _ => op? none
def callT (call : CallM) (base : Nat) (own : List Nat) (f : FuncId) (args0 : List AV) (sto : List Row) : M Out :=
  if own.head? = some LEND then lendT call base own.tail f args0 sto else callST call base own f args0 sto
def nilTestT (P : Program) (op : BinOp) (t : TypeId) (x : AV) : M AV :=
  match P.underlying t, x with
  | some (.slice _), .sl xs => rq (0 < xs.length) (op? (asNil op false))
  | some (.slice _), .os _ _ len => rq (0 < len) (op? (asNil op false))
  | _, x => op? (nilTest P op t x)
def clipT (xs : List (List AV)) (hi mx : Option AV) : M AV :=
  match hi, mx with
  | some _, some _ => bd (boundT xs.length mx 0) fun m => bd (boundT m hi 0) fun h => rq (m = xs.length ∧ h = xs.length) (rt (.cl xs))
  | _, _ => op? none
def slice3T (P : Program) (sto : List Row) (t : TypeId) (x : AV) (lo hi mx : Option AV) : M AV :=
  match P.underlying t with
  | some (.slice e) =>
    bd (op? (esz P e)) fun _ =>
    match x, lo with
    | .sl xs, none => clipT xs hi mx
    | x, lo =>
    bd (op? (match x with
      | .sl xs => some xs.length
      | .nil => some 0
      | .os k off _ => match sto[k]? with | some (.arr sz xs) => some (xs.length - off) | _ => none
      | _ => none)) fun n => bd (boundT n mx n) fun m => match hi with
      | none => op? none
      | some _ => bd (boundT m hi 0) fun h => bd (boundT h lo 0) fun l => rt (if m = l then .nil else .dead)
  | _ => op? none
def evOpT (P : Program) (call : CallM) (cut : Bool) (base : Nat) (own : List Nat) (ea : Operand → Option AV) (sto : List Row) (op : Op) : M Out :=
  let ret (x : M AV) : M Out := bd x fun x => rt ⟨x, sto, [], false⟩
  match op with
  | .load t a => bd (op? (ea a)) fun a => ret (loadT P t sto a)
  | .store t a x => bd (op? (ea a)) fun a => bd (op? (ea x)) fun x => storeT P t sto a x
  | .binOp op t x y _ => if isNilC y then bd (op? (ea x)) fun x => ret (nilTestT P op t x) else bd (op? (ea x)) fun x => bd (op? (ea y)) fun y => ret (binT P op t x y)
  | .makeSlice t l c => bd (op? (ea l)) fun l => bd (op? (ea c)) fun c => makeSliceT P base own t l c sto
  | .slice t x lo hi mx => bd (op? (ea x)) fun x => bd (op? (optA ea lo)) fun lo => bd (op? (optA ea hi)) fun hi => bd (op? (optA ea mx)) fun mx =>
    match mx with
    | none => ret (sliceT P sto t x lo hi)
    | some m => ret (slice3T P sto t x lo hi (some m))
  | .indexAddr t x i => bd (op? (ea x)) fun x => bd (op? (ea i)) fun i => ret (indexAddrT P sto t x i)
  | .index t x i => bd (op? (ea x)) fun x => bd (op? (ea i)) fun i => ret (indexT P t x i)
  | .call c => match c.callee with
    | .builtin b => bd (op? (mapA ea c.args.toList)) fun args => if touchesB b then builtinT P cut base own b c.argTypes.toList args sto else ret (op? (pureB P b c.argTypes.toList args))
    | .value f => bd (op? (ea f)) fun f => match f with
      | .clo g caps => bd (op? (mapA ea c.args.toList)) fun args => callT call base own g (args ++ caps) sto
      | _ => op? none
    | _ => op? none
  | .lookup t m x ok => bd (op? (ea m)) fun m => bd (op? (ea x)) fun x => ret (lookupT P t sto m x ok)
  | .mapUpdate t m x v => bd (op? (ea m)) fun m => bd (op? (ea x)) fun x => bd (op? (ea v)) fun v => mapUpdateT P t sto m x v
  | .mapEntry t m x => bd (op? (ea m)) fun m => bd (op? (ea x)) fun x => mapEntryT P t sto m x
  | .entryStore t m s v => bd (op? (ea m)) fun m => bd (op? (ea s)) fun s => bd (op? (ea v)) fun v => entryStoreT sto m s v
  | op => op? (evOp P (fun _ _ _ => none) base own ea sto op)
/-- A slot's bool becomes one that is known. -/
def tellT (env : List AV) (d : Nat) : M (List AV) :=
  match env[d]? with
  | some (.v (.bool b)) => fun Q => TB b (Q (env.set d (.v (.bool true)))) (Q (env.set d (.v (.bool false))))
  | _ => rt env
def guardSlot (ops : Array Oper) (o : Oper) : Option Nat :=
  match o.guard with
  | none => none
  | some (j, _) => (ops[j]?).bind (·.dst)
def tellO (d : Option Nat) (st : St) : M St :=
  match d with
  | some d => bd (tellT st.env d) fun env => rt { st with env := env }
  | none => rt st
def pickSlot : Op → Option Nat
  | .pick (.tmp d) _ _ => some d
  | _ => none
def evStepT (P : Program) (h : FH) (call : CallM) (cut : Bool) (base : Nat) (o : Oper) (st : St) : M (St × Fl) :=
  bd (tellO (pickSlot o.op) st) fun st => bd (evOpT P call cut base (ownOf h o) (evA st.env) st.sto o.op) fun r =>
    rt (⟨putA (killE r.mv st.env) o.dst r.val, r.sto, addMv base st.mv r.mv⟩, ⟨r.w, r.mv, r.val, touchV (ownOf h o) (evA st.env) o.op && (frOf base (ownOf h o) (evA st.env) o.op r).isNone, frOf base (ownOf h o) (evA st.env) o.op r, r.sto.length, adOf (evA st.env) o.op, stOf (evA st.env) o.op⟩)
def evOpsT (P : Program) (h : FH) (call : CallM) (cut : Bool) (base : Nat) (ops : Array Oper) : List Oper → St → List Fl → M (St × List Fl)
  | [], st, fl => rt (st, fl)
  | o :: r, st, fl =>
    bd (tellO (guardSlot ops o) st) fun st => bd (op? (guardA ops st.env o)) fun b =>
      if b = true then bd (evStepT P h call cut base o st) fun s => evOpsT P h call cut base ops r s.1 (fl ++ [s.2])
      else evOpsT P h call cut base ops r { st with env := putA st.env o.dst undefA } (fl ++ [noFl])
def opSlot : Operand → Option Nat
  | .tmp d => some d
  | _ => none
/-- What is known of loops. -/
abbrev LoopM := Code → St → M (Ex × St)
def evCT (P : Program) (h : FH) (call : CallM) (cut : Bool) (base : Nat) (loop part : LoopM) : Code → St → M (Ex × St)
  | .skip, st => rt (.normal, st)
  | .region _ ops draw, st => bd (evOpsT P h call cut base ops ops.toList st []) fun q => if !draw || drawOk ops st.env st.sto.length q.2 then rt (.normal, q.1) else op? none
  | .seq a b, st => bd (evCT P h call cut base loop part a st) fun q => match q.1 with
    | .normal => match h.cuts.lookup (firstReg b) with
      | some _ => part b (joinAt base h b q.2)
      | none => evCT P h call cut base loop part b (joinAt base h b q.2)
    | _ => rt q
  | .cond c a b, st => bd (tellO (opSlot c) st) fun st => match evA st.env c with
    | some (.v (.bool t)) => if t = true then evCT P h call cut base loop part a st else evCT P h call cut base loop part b st
    | _ => op? none
  | .block id c, st => bd (evCT P h call cut base loop part c st) fun q => match q.1 with
    | .exit j => if j = id then rt (.normal, q.2) else rt q
    | _ => rt q
  | .loop c, st => loop c st
  | .exit id, st => rt (.exit id, st)
  | .ret, st => rt (.ret, st)
  | _, _ => op? none
/-- What the author says a call comes to. -/
inductive CT where
  | is (r : AV × List Row × List Nat)
  | by (b : Bool) (x y : CT)
  | no
def CT.ask (o Q : AV × List Row × List Nat → Prop) : CT → Prop
  | .is r => o r ∧ Q r
  | .by b x y => TB b (x.ask o Q) (y.ask o Q)
  | .no => False
abbrev CallT := FuncId → List AV → List Row → CT
def CT.of : Option (AV × List Row × List Nat) → CT
  | some r => .is r
  | none => .no
instance : Coe CallF CallT := ⟨fun F f args sto => CT.of (F f args sto)⟩
def callsM (P : Program) (H : FuncId → FH) (F : CallT) : CallM := fun f args sto Q => (F f args sto).ask (fun r => Wf P H f args sto = some r) Q
/-- What the author says a loop comes to: by bools. -/
inductive LT where
  | is (ex : Ex) (st : St)
  | by (b : Bool) (x y : LT)
  | no
def LT.ask (o Q : Ex × St → Prop) : LT → Prop
  | .is ex st => o (ex, st) ∧ Q (ex, st)
  | .by b x y => TB b (x.ask o Q) (y.ask o Q)
  | .no => False
/-- From every state that is s once what is no more looked at has fallen away the loop comes to r. -/
structure LoopTo (P : Program) (H : FuncId → FH) (h : FH) (base : Nat) (c : Code) (s : St) (r : Ex × St) : Prop where
  go : ∀ st, killAt base h c st = s → (Lf P H h base c st).map (killX base h c) = some r
/-- What comes next in a row of code comes from state s to r. -/
structure PartTo (P : Program) (H : FuncId → FH) (h : FH) (base : Nat) (c : Code) (s : St) (r : Ex × St) : Prop where
  go : evC P h (Wf P H) base (Lf P H h base) c s = some r
/-- The sign of what comes next, among the loops. -/
def NEXT : Nat := 1000000
def partsM (P : Program) (H : FuncId → FH) (h : FH) (base : Nat) (L : Nat → St → LT) : LoopM := fun c st Q => (L (NEXT + firstReg c) st).ask (PartTo P H h base c st) Q
def loopsM (P : Program) (H : FuncId → FH) (h : FH) (base : Nat) (L : Nat → St → LT) : LoopM := fun c st Q => (L (firstReg c) (killAt base h c st)).ask (LoopTo P H h base c (killAt base h c st)) Q
end Go.Proofs.YtabdcfcnngnnoaaDoor.E
