/- Each operation, whatever it is. -/
import Derived.Test.YtabdcfcnngnnoaaDoorEM
set_option linter.unusedVariables false
set_option linter.unusedSimpArgs false
namespace Go.Proofs.YtabdcfcnngnnoaaDoor.E
open Go
section
variable {P : Program} {o : Oper} {a : Act} {w : World} {ρ : Gh} {σ : List Row}
theorem OpRuns.pure {x : Option AV} {out : Out} {v : Value} (h : x.map (fun x => (⟨x, σ, [], false⟩ : Out)) = some out) (hS : StoOk ρ w σ) (hr : ∀ r, x = some r → (execOp a.eval o).run P w = .ok (.value v) w ∧ RV ρ w r v) : OpRuns P o a w (Post ρ w out) := by
  obtain ⟨r, rfl, rfl⟩ := Option.map_eq_some_iff.1 h
  obtain ⟨h1, h2⟩ := hr r rfl
  exact OpRuns.value h1 ⟨ρ, h2, hS, Ext.refl _ _ _⟩
theorem OpRuns.pure' {x : Option AV} {out : Out} (h : x.map (fun x => (⟨x, σ, [], false⟩ : Out)) = some out) (hS : StoOk ρ w σ) (hr : ∀ r, x = some r → ∃ v, (execOp a.eval o).run P w = .ok (.value v) w ∧ RV ρ w r v) : OpRuns P o a w (Post ρ w out) := by
  obtain ⟨r, rfl, rfl⟩ := Option.map_eq_some_iff.1 h
  obtain ⟨v, h1, h2⟩ := hr r rfl
  exact OpRuns.value h1 ⟨ρ, h2, hS, Ext.refl _ _ _⟩
theorem optA_ok {ea : Operand → Option AV} (hea : ∀ x v, ea x = some v → RV ρ w v (a.eval x)) {x : Option Operand} {y : Option AV} (h : optA ea x = some y) : (y = none ↔ x.map a.eval = none) ∧ ∀ u v, y = some u → x.map a.eval = some v → RV ρ w u v := by
  cases x with
  | none => simp only [optA] at h; cases h; exact ⟨by simp, fun u v h => by cases h⟩
  | some x =>
    simp only [optA] at h
    obtain ⟨u, hu, rfl⟩ := Option.map_eq_some_iff.1 h
    exact ⟨by simp, fun u' v h1 h2 => by cases h1; cases h2; exact hea x u hu⟩
theorem mmL_ok (P : Program) {mx : Bool} : ∀ {l : List AV} {x r : AV} {y : Value} {vs : List Value}, mmL mx x l = some r → RV ρ w x y → RVs ρ w l vs → ∃ v, (vs.foldlM (if mx then Builtin.max2 else Builtin.min2) y).run P w = .ok v w ∧ RV ρ w r v
  | [], x, r, y, vs, h, hx, hl => by
    cases h
    have : vs = [] := List.eq_nil_of_length_eq_zero (by rw [← hl.1]; rfl)
    subst this
    exact ⟨y, rfl, hx⟩
  | z :: l, x, r, y, vs, h, hx, hl => by
    simp only [mmL] at h
    replace h := Option.bind_eq_some_iff.1 h
    obtain ⟨u, hu, h⟩ := h
    obtain ⟨v, vr, rfl, hv, hvr⟩ := hl.head
    have step : ∃ u', ((if mx then Builtin.max2 else Builtin.min2) y v).run P w = .ok u' w ∧ RV ρ w u u' := by
      unfold mm2 at hu
      split at hu
      · cases hx
        cases hv
        cases hu
        cases mx
        · exact ⟨_, rfl, .v _⟩
        · exact ⟨_, rfl, .v _⟩
      · cases hu
    obtain ⟨u', h1, h2⟩ := step
    obtain ⟨v', h3, h4⟩ := mmL_ok P h h2 hvr
    exact ⟨v', by rw [List.foldlM_cons, Sem.run_bind, h1]; exact h3, h4⟩
theorem builtinA_ok {base : Nat} {own : List Nat} {b : Builtin} {ts : Array TypeId} {ty : TypeId} {cs : Array Bool} {args : List AV} {vs : Array Value} {out : Out} (hS : StoOk ρ w σ) (ha : RVs ρ w args vs.toList) (h : builtinA P base own b ts.toList args σ = some out) :
    ∃ v w', (builtin b ts ty cs vs).run P w = .ok (.value v) w' ∧ Post ρ w out v w' := by
  have two : ∀ {x y : AV}, args = [x, y] → ∃ X Y, vs = #[X, Y] ∧ RV ρ w x X ∧ RV ρ w y Y := fun {x y} e => by
    subst e
    obtain ⟨X, r1, e1, h1, g1⟩ := ha.head
    obtain ⟨Y, r2, e2, h2, g2⟩ := g1.head
    have : r2 = [] := List.eq_nil_of_length_eq_zero (by rw [← g2.1]; rfl)
    subst this
    subst e2
    exact ⟨X, Y, Array.ext' e1, h1, h2⟩
  have one : ∀ {x : AV}, args = [x] → ∃ X, vs = #[X] ∧ RV ρ w x X := fun {x} e => by
    subst e
    obtain ⟨X, r1, e1, h1, g1⟩ := ha.head
    have : r1 = [] := List.eq_nil_of_length_eq_zero (by rw [← g1.1]; rfl)
    subst this
    exact ⟨X, Array.ext' e1, h1⟩
  unfold builtinA at h
  split at h
  · rename_i t r x y hts
    obtain ⟨X, Y, rfl, hX, hY⟩ := two rfl
    split at h
    · rename_i e hu
      split at h
      · rename_i u hts2
        split at h
        · rename_i e2 hu2
          replace h := Option.bind_eq_some_iff.1 h
          obtain ⟨⟨s, z⟩, hq, h⟩ := h
          replace h := Option.bind_eq_some_iff.1 h
          obtain ⟨ys, hys, h⟩ := h
          split at h
          · rename_i hro
            obtain ⟨i, zv, hi, hzv, hzrun, hrun, e1, e2, hzs, hs0, hzf, hb1, hb0⟩ := elemA_ok hq
            simp only at e1 e2 h hro
            subst e1
            have hts' : ts = #[t, u] := Array.ext' (hts.trans (by rw [hts2] at hts; cases hts; rfl))
            subst hts'
            obtain ⟨v, w', h1, h2⟩ := appendA_ok (ty := ty) hu hu2 hi hzv hzs hs0 hb1 hb0 hS hX hY hys hro h
            exact ⟨v, w', by simp [builtin, h1], h2⟩
          · cases h
        · rename_i kn hu2
          have hts' : ts = #[t, u] := Array.ext' (hts.trans (by rw [hts2] at hts; cases hts; rfl))
          subst hts'
          obtain ⟨v, w', h1, h2⟩ := appendZ_ok (ty := ty) hu hu2 hS hX hY h
          exact ⟨v, w', by simp [builtin, h1], h2⟩
        · cases h
      · cases h
    · cases h
  · rename_i t r x y hts
    obtain ⟨X, Y, rfl, hX, hY⟩ := two rfl
    split at h
    · rename_i e hu
      replace h := Option.bind_eq_some_iff.1 h
      obtain ⟨⟨s, z⟩, hq, h⟩ := h
      replace h := Option.bind_eq_some_iff.1 h
      obtain ⟨ys, hys, h⟩ := h
      split at h
      · rename_i hc
        obtain ⟨i, zv, hi, hzv, hzrun, hrun, e1, e2, hzs, hs0, hzf, _⟩ := elemA_ok hq
        simp only at e1 e2 h hc
        subst e1
        obtain ⟨v, w', h1, h2⟩ := copyA_ok (P := P) (t := t) (u := t) (ty := ty) hu hi hs0 hS hX hY hys hc h
        refine ⟨v, w', ?_, h2⟩
        have e0 : ts[0]? = some t := by rw [← Array.getElem?_toList, hts]; rfl
        have e1 : (Builtin.copy_ ts ty #[X, Y]).run P w = (Builtin.copy_ #[t, t] ty #[X, Y]).run P w := by
          unfold Builtin.copy_
          simp [e0]
        simp [builtin, e1, h1]
      · cases h
    · cases h
  · rename_i t r x hts
    obtain ⟨X, rfl, hX⟩ := one rfl
    split at h
    · rename_i e hu
      replace h := Option.bind_eq_some_iff.1 h
      obtain ⟨⟨s, z⟩, hq, h⟩ := h
      obtain ⟨i, zv, hi, hzv, hzrun, hrun, q1, q2, hzs, hs0, hzf, _⟩ := elemA_ok hq
      simp only at q1 q2 h
      subst q1
      subst q2
      obtain ⟨v, w', h1, h2⟩ := clearA_ok (P := P) (t := t) (ty := ty) hu hi hzv hzs hs0 hzf hS hX h
      refine ⟨v, w', ?_, h2⟩
      have e0 : ts[0]? = some t := by rw [← Array.getElem?_toList, hts]; rfl
      have e1 : (Builtin.clear_ ts ty #[X]).run P w = (Builtin.clear_ #[t] ty #[X]).run P w := by
        unfold Builtin.clear_
        simp [e0]
      simp [builtin, e1, h1]
    · cases h
  · cases h
theorem pureB_ok {b : Builtin} {ts : Array TypeId} {ty : TypeId} {cs : Array Bool} {args : List AV} {vs : Array Value} {x : AV} (ha : RVs ρ w args vs.toList) (h : pureB P b ts.toList args = some x) :
    ∃ v, (builtin b ts ty cs vs).run P w = .ok (.value v) w ∧ RV ρ w x v := by
  have one : ∀ {x : AV}, args = [x] → ∃ X, vs = #[X] ∧ RV ρ w x X := fun {x} e => by
    subst e
    obtain ⟨X, r1, e1, h1, g1⟩ := ha.head
    have : r1 = [] := List.eq_nil_of_length_eq_zero (by rw [← g1.1]; rfl)
    subst this
    exact ⟨X, Array.ext' e1, h1⟩
  have mm : ∀ (mx : Bool) (l : List AV) (x : AV), RVs ρ w l vs.toList → minmaxA mx l = some x → ∃ v, (if mx then Builtin.max_ ts ty vs else Builtin.min_ ts ty vs).run P w = .ok v w ∧ RV ρ w x v := by
    intro mx l x hl hx
    cases l with
    | nil => simp [minmaxA] at hx
    | cons x0 l =>
      obtain ⟨y, r, e1, h1, h2⟩ := hl.head
      obtain ⟨v, h3, h4⟩ := mmL_ok P (mx := mx) (show mmL mx x0 l = some x from hx) h1 h2
      refine ⟨v, ?_, h4⟩
      cases mx
      · simpa [Builtin.min_, e1] using h3
      · simpa [Builtin.max_, e1] using h3
  unfold pureB at h
  split at h
  · rename_i t x hts
    obtain ⟨X, rfl, hX⟩ := one rfl
    have hts' : ts = #[t] := Array.ext' hts
    subst hts'
    split at h
    · rename_i e hu
      obtain ⟨n, hn, rfl⟩ := Option.map_eq_some_iff.1 h
      obtain ⟨a', c', rfl⟩ := len_of hn hX
      exact ⟨.int .i64 n, by simp [builtin, Builtin.len_, run_underlying hu, goInt], .v _⟩
    · rename_i hu
      split at h
      · cases h
        cases hX
        exact ⟨.int .i64 _, by simp [builtin, Builtin.len_, run_underlying hu, goInt], .v _⟩
      · cases h
    · cases h
  · obtain ⟨v, h1, h2⟩ := mm false _ x ha h
    refine ⟨v, ?_, h2⟩
    rw [show (if false = true then Builtin.max_ ts ty vs else Builtin.min_ ts ty vs) = Builtin.min_ ts ty vs from rfl] at h1
    simp [builtin, h1]
  · obtain ⟨v, h1, h2⟩ := mm true _ x ha h
    refine ⟨v, ?_, h2⟩
    rw [show (if true = true then Builtin.max_ ts ty vs else Builtin.min_ ts ty vs) = Builtin.max_ ts ty vs from rfl] at h1
    simp [builtin, h1]
  · cases h
/-- Every function with a body is one of the program's own. -/
def NamesOk (P : Program) : Prop := ∀ (f : FuncId) fn, P.funcs[f]? = some fn → (fn.name == "runtime.NumGoroutine") = false
def CallDef (P : Program) (call : CallF) : Prop := ∀ f args sto x, call f args sto = some x → ∃ fn, P.funcs[f]? = some fn ∧ fn.body.isSome = true
theorem evOp_ok {call : CallF} {base : Nat} {own : List Nat} {ea : Operand → Option AV} {out : Out} (hN : NamesOk P) (hM : MapsOk P) (hD : CallDef P call) (hC : CallOk P call) (hS : StoOk ρ w σ) (hea : ∀ x v, ea x = some v → RV ρ w v (a.eval x))
    (h : evOp P call base own ea σ o.op = some out) : OpRuns P o a w (Post ρ w out) := by
  cases hop : o.op with
  | move x =>
    rw [hop] at h
    exact OpRuns.pure' h hS fun r hr => ⟨a.eval x, by simp [execOp, hop], hea x r hr⟩
  | assign x =>
    rw [hop] at h
    exact OpRuns.pure' h hS fun r hr => ⟨a.eval x, by simp [execOp, hop], hea x r hr⟩
  | pick c x y =>
    rw [hop] at h
    refine OpRuns.pure' (x := pickA (ea c) (ea x) (ea y)) h hS fun r hr => ?_
    unfold pickA ifA at hr
    split at hr
    · rename_i t hc
      have h1 := hea c _ hc
      generalize hv : a.eval c = v at h1
      cases h1
      split at hr
      · rename_i ht
        subst ht
        exact ⟨a.eval x, by simp [execOp, hop, hv, asBool], hea x r hr⟩
      · rename_i ht
        have ht' : t = false := by simpa using ht
        subst ht'
        exact ⟨a.eval y, by simp [execOp, hop, hv, asBool], hea y r hr⟩
    · cases hr
  | alloc e =>
    rw [hop] at h
    simp only [evOp] at h
    replace h := Option.bind_eq_some_iff.1 h
    obtain ⟨cs, hcs, h⟩ := h
    obtain ⟨i, z, hi, hz, hzr, rfl⟩ := zeroA_ok hcs
    exact OpRuns.value (by simp [execOp, hop, Instr.alloc, hzr, newVar, newRow]) (freshBox_ok h hS z.cells e (leafs_ok _))
  | box e x =>
    rw [hop] at h
    simp only [evOp] at h
    replace h := Option.bind_eq_some_iff.1 h
    obtain ⟨v, hv, h⟩ := h
    split at h
    · rename_i hb
      have h1 := hea x v hv
      exact OpRuns.value (by simp [execOp, hop, Instr.box, newVar, newRow]) (freshBox_ok h hS _ e (h1.cells hb).1)
    · cases h
  | build t parts =>
    rw [hop] at h
    simp only [evOp] at h
    replace h := Option.bind_eq_some_iff.1 h
    obtain ⟨ps, hps, h⟩ := h
    refine OpRuns.pure' h hS fun r hr => ?_
    unfold buildA at hr
    split at hr
    · rename_i fs hu
      split at hr
      · cases hr
      · rename_i hall
        replace hr := Option.bind_eq_some_iff.1 hr
        obtain ⟨qs, hqs, hr⟩ := hr
        replace hr := Option.bind_eq_some_iff.1 hr
        obtain ⟨z, hz, hr⟩ := hr
        obtain ⟨cs, hcs, rfl⟩ := Option.map_eq_some_iff.1 hr
        have hp := mapParts_ok hea hps
        obtain ⟨v, h1, h2⟩ := buildA_ok (vs := parts.map fun q => (q.1, a.eval q.2)) hu ((Bool.not_eq_false _).mp hall) hqs hz hcs ⟨by rw [hp.1]; simp, fun i p v h3 h4 => by
          rw [Array.toList_map, List.getElem?_map] at h4
          obtain ⟨q, hq, rfl⟩ := Option.map_eq_some_iff.1 h4
          exact hp.2 i p q h3 hq⟩
        exact ⟨v, by simp [execOp, hop, h1], h2⟩
    · cases hr
  | buildSlice t len parts =>
    rw [hop] at h
    simp only [evOp] at h
    replace h := Option.bind_eq_some_iff.1 h
    obtain ⟨ps, hps, h⟩ := h
    have hp := mapParts_ok hea hps
    obtain ⟨v, w', h1, h2⟩ := buildSliceA_ok (vs := parts.map fun q => (q.1, a.eval q.2)) h hS ⟨by rw [hp.1]; simp, fun i p v h3 h4 => by
      rw [Array.toList_map, List.getElem?_map] at h4
      obtain ⟨q, hq, rfl⟩ := Option.map_eq_some_iff.1 h4
      exact hp.2 i p q h3 hq⟩
    exact OpRuns.value (by simp [execOp, hop, h1]) h2
  | load t p =>
    rw [hop] at h
    simp only [evOp] at h
    replace h := Option.bind_eq_some_iff.1 h
    obtain ⟨v, hv, h⟩ := h
    replace h := Option.bind_eq_some_iff.1 h
    obtain ⟨cs, hcs, h⟩ := h
    obtain ⟨ad, e1, h1⟩ := cellsAt_ok hcs (hea p v hv) hS
    refine OpRuns.pure' h hS fun r hr => ?_
    obtain ⟨u, h2, h3⟩ := loadA_ok hr h1
    exact ⟨u, by simp [execOp, hop, e1, Instr.loadAt, Instr.sureAddr, h2], h3⟩
  | store t p x =>
    rw [hop] at h
    simp only [evOp] at h
    replace h := Option.bind_eq_some_iff.1 h
    obtain ⟨v, hv, h⟩ := h
    replace h := Option.bind_eq_some_iff.1 h
    obtain ⟨u, hu, h⟩ := h
    obtain ⟨w', h1, h2⟩ := storeA_ok h hS (hea p v hv) (hea x u hu)
    exact OpRuns.skip (by simp [execOp, hop, h1]) h2
  | nilCheck x =>
    rw [hop] at h
    simp only [evOp] at h
    replace h := Option.bind_eq_some_iff.1 h
    obtain ⟨v, hv, h⟩ := h
    have h1 := hea x v hv
    generalize hx : a.eval x = y at h1
    refine OpRuns.pure' h hS fun r hr => ⟨y, ?_, by unfold nilA at hr; split at hr <;> first | (cases hr; exact h1) | cases hr⟩
    unfold nilA at hr
    split at hr
    · cases h1
      simp [execOp, hop, hx]
    · cases h1
      simp [execOp, hop, hx]
    · cases h1
      simp [execOp, hop, hx]
    · cases hr
  | binOp op t x y yt =>
    rw [hop] at h
    simp only [evOp] at h
    split at h
    · rename_i hnil
      replace h := Option.bind_eq_some_iff.1 h
      obtain ⟨u, hu, h⟩ := h
      refine OpRuns.pure' h hS fun r hr => ?_
      have hy : y = .const (.slice none 0 0) := by
        unfold isNilC at hnil
        split at hnil
        · rfl
        · cases hnil
      obtain ⟨z, h1, h2⟩ := nilTest_ok (p := x) (q := y) hr (hea x u hu)
      have hev : a.eval y = .slice none 0 0 := by rw [hy]; rfl
      simp only [Sem.run_bind] at h1
      exact ⟨z, by simp only [execOp, hop, Sem.run_bind, hev, h1, Result.andThen_ok]; rfl, h2⟩
    replace h := Option.bind_eq_some_iff.1 h
    obtain ⟨u, hu, h⟩ := h
    replace h := Option.bind_eq_some_iff.1 h
    obtain ⟨v, hv, h⟩ := h
    refine OpRuns.pure' h hS fun r hr => ?_
    obtain ⟨z, h1, h2⟩ := binA_ok (p := x) (q := y) hr (hea x u hu) (hea y v hv)
    simp only [Sem.run_bind] at h1
    exact ⟨z, by simp only [execOp, hop, Sem.run_bind, h1, Result.andThen_ok]; rfl, h2⟩
  | unOp op t x =>
    rw [hop] at h
    simp only [evOp] at h
    replace h := Option.bind_eq_some_iff.1 h
    obtain ⟨u, hu, h⟩ := h
    refine OpRuns.pure' h hS fun r hr => ?_
    obtain ⟨z, h1, h2⟩ := unA_ok (P := P) hr (hea x u hu)
    exact ⟨z, by simp [execOp, hop, h1], h2⟩
  | convert s d x =>
    rw [hop] at h
    simp only [evOp] at h
    replace h := Option.bind_eq_some_iff.1 h
    obtain ⟨u, hu, h⟩ := h
    refine OpRuns.pure' h hS fun r hr => ?_
    obtain ⟨z, h1, h2⟩ := convA_ok hr (hea x u hu)
    exact ⟨z, by simp [execOp, hop, h1], h2⟩
  | makeFunc fn first caps =>
    rw [hop] at h
    cases fn with
    | func f =>
      simp only [evOp] at h
      split at h
      · rename_i hf
        replace h := Option.bind_eq_some_iff.1 h
        obtain ⟨cs, hcs, h⟩ := h
        refine OpRuns.pure' h hS fun r hr => ?_
        cases hr
        have hm := mapA_ok hea hcs
        have hf' : first = #[] := by simpa using hf
        subst hf'
        exact ⟨.func (.func f) #[] (caps.map a.eval), by simp [execOp, hop, Instr.makeFunc], .clo f cs _ (by have := hm.1; simpa using this) (fun j x y h1 h2 => hm.2 j x y h1 (by simpa using h2))⟩
      · cases h
    | _ => simp [evOp] at h
  | makeSlice t l c =>
    rw [hop] at h
    simp only [evOp] at h
    replace h := Option.bind_eq_some_iff.1 h
    obtain ⟨u, hu, h⟩ := h
    replace h := Option.bind_eq_some_iff.1 h
    obtain ⟨v, hv, h⟩ := h
    obtain ⟨z, w', h1, h2⟩ := makeSliceA_ok h hS (hea l u hu) (hea c v hv)
    exact OpRuns.value (by simp [execOp, hop, h1]) h2
  | slice t x lo hi mx =>
    rw [hop] at h
    simp only [evOp] at h
    replace h := Option.bind_eq_some_iff.1 h
    obtain ⟨u, hu, h⟩ := h
    replace h := Option.bind_eq_some_iff.1 h
    obtain ⟨l, hl, h⟩ := h
    replace h := Option.bind_eq_some_iff.1 h
    obtain ⟨hh, hhi, h⟩ := h
    replace h := Option.bind_eq_some_iff.1 h
    obtain ⟨m, hm, h⟩ := h
    obtain ⟨l1, l2⟩ := optA_ok hea hl
    obtain ⟨g1, g2⟩ := optA_ok hea hhi
    obtain ⟨m1, m2⟩ := optA_ok hea hm
    split at h
    · have hmn : mx = none := by have := m1.1 rfl; simpa using this
      refine OpRuns.pure' h hS fun r hr => ?_
      obtain ⟨z, h1, h2⟩ := sliceA_ok hr (hea x u hu) hS l1 l2 g1 g2
      exact ⟨z, by simp [execOp, hop, hmn, h1], h2⟩
    · rename_i mm
      refine OpRuns.pure' h hS fun r hr => ?_
      obtain ⟨z, h1, h2⟩ := slice3A_ok hr (hea x u hu) hS l1 l2 g1 g2 m1 m2 (by simp)
      exact ⟨z, by simp [execOp, hop, h1], h2⟩
  | fieldAddr s x f =>
    rw [hop] at h
    simp only [evOp] at h
    replace h := Option.bind_eq_some_iff.1 h
    obtain ⟨u, hu, h⟩ := h
    refine OpRuns.pure' h hS fun r hr => ?_
    obtain ⟨z, h1, h2⟩ := fieldAddrA_ok hr (hea x u hu)
    exact ⟨z, by simp [execOp, hop, h1], h2⟩
  | field t x f =>
    rw [hop] at h
    simp only [evOp] at h
    replace h := Option.bind_eq_some_iff.1 h
    obtain ⟨u, hu, h⟩ := h
    refine OpRuns.pure' h hS fun r hr => ?_
    obtain ⟨z, h1, h2⟩ := fieldA_ok hr (hea x u hu)
    exact ⟨z, by simp [execOp, hop, h1], h2⟩
  | indexAddr t x i =>
    rw [hop] at h
    simp only [evOp] at h
    replace h := Option.bind_eq_some_iff.1 h
    obtain ⟨u, hu, h⟩ := h
    replace h := Option.bind_eq_some_iff.1 h
    obtain ⟨v, hv, h⟩ := h
    refine OpRuns.pure' h hS fun r hr => ?_
    obtain ⟨z, h1, h2⟩ := indexAddrA_ok hr (hea x u hu) (hea i v hv) hS
    exact ⟨z, by simp [execOp, hop, h1], h2⟩
  | index t x i =>
    rw [hop] at h
    simp only [evOp] at h
    replace h := Option.bind_eq_some_iff.1 h
    obtain ⟨u, hu, h⟩ := h
    replace h := Option.bind_eq_some_iff.1 h
    obtain ⟨v, hv, h⟩ := h
    refine OpRuns.pure' h hS fun r hr => ?_
    obtain ⟨z, h1, h2⟩ := indexA_ok hr (hea x u hu) (hea i v hv)
    exact ⟨z, by simp [execOp, hop, h1], h2⟩
  | extract x i =>
    rw [hop] at h
    simp only [evOp] at h
    replace h := Option.bind_eq_some_iff.1 h
    obtain ⟨u, hu, h⟩ := h
    have h1 := hea x u hu
    generalize hx : a.eval x = y at h1
    refine OpRuns.pure' h hS fun r hr => ?_
    unfold extractA at hr
    split at hr
    · cases h1 with
      | tup l vs hl hsub =>
        have hi : i < vs.size := by rw [← hl]; exact (List.getElem?_eq_some_iff.1 hr).1
        exact ⟨vs[i], by simp [execOp, hop, hx, Instr.extract, hi], hsub i r _ hr (Array.getElem?_eq_getElem hi)⟩
    · cases hr
  | call c =>
    rw [hop] at h
    simp only [evOp] at h
    split at h
    · rename_i b hc
      replace h := Option.bind_eq_some_iff.1 h
      obtain ⟨args, hargs, h⟩ := h
      have hm := mapA_ok hea hargs
      split at h
      case isFalse =>
        refine OpRuns.pure' h hS fun r hr => ?_
        obtain ⟨v, h1, h2⟩ := pureB_ok (ty := o.type) (cs := c.args.map fun | .const _ => true | _ => false) (vs := c.args.map a.eval) (by simpa using hm) hr
        refine ⟨v, ?_, h2⟩
        simp only [execOp, hop, resolve, hc, Sem.run_bind, Sem.run_pure, Result.andThen_ok, invoke]
        exact h1
      obtain ⟨v, w', h1, h2⟩ := builtinA_ok (ty := o.type) (cs := c.args.map fun | .const _ => true | _ => false) (vs := c.args.map a.eval) hS (by simpa using hm) h
      refine OpRuns.value ?_ h2
      simp only [execOp, hop, resolve, hc, Sem.run_bind, Sem.run_pure, Result.andThen_ok, invoke]
      exact h1
    · rename_i fo hc
      replace h := Option.bind_eq_some_iff.1 h
      obtain ⟨u, hu, h⟩ := h
      have h1 := hea fo u hu
      generalize hx : a.eval fo = y at h1
      split at h
      · rename_i g caps
        replace h := Option.bind_eq_some_iff.1 h
        obtain ⟨args, hargs, h⟩ := h
        have hm := mapA_ok hea hargs
        cases h1 with
        | clo _ _ vs hl hsub =>
          obtain ⟨⟨q, s, x, hq⟩, hcall⟩ := callA_ok (vs := c.args.map a.eval ++ vs) hC hS (by
            rw [Array.toList_append]
            exact RVs.append (by simpa using hm) ⟨by simpa using hl, fun j x y h1 h2 => hsub j x y h1 (by simpa using h2)⟩) h
          obtain ⟨fn, hfn, hbody⟩ := hD _ _ _ _ hq
          have hname := hN _ fn hfn
          have hbn : fn.body.isNone = false := by cases hb : fn.body <;> simp [hb] at hbody ⊢
          have hrun : (execOp a.eval o).run P w = .ok (.enter g (c.args.map a.eval ++ vs)) w := by
            have hn1 : ¬ fn.name = "runtime.NumGoroutine" := by simpa using hname
            have hn2 : ¬ fn.body = none := fun e => by rw [e] at hbn; simp at hbn
            simp [execOp, hop, resolve, hc, hx, Deferred.ofValue, invoke, callFunc, hfn, hn1, hn2]
          intro K Q hK
          unfold Oper.wp
          rw [hrun]
          show Calls P g (c.args.map a.eval ++ vs) w _
          refine hcall.mono ?_
          rintro e w' ⟨v, rfl, hp⟩
          exact hK v w' hp
      · cases h
    · cases h
  | makeMap t r =>
    rw [hop] at h
    cases r with
    | some r => simp [evOp] at h
    | none =>
      simp only [evOp] at h
      obtain ⟨v, w', h1, h2⟩ := makeMapA_ok hS h
      exact OpRuns.value (by simp [execOp, hop, h1]) h2
  | lookup t m x ok =>
    rw [hop] at h
    simp only [evOp] at h
    replace h := Option.bind_eq_some_iff.1 h
    obtain ⟨u, hu, h⟩ := h
    replace h := Option.bind_eq_some_iff.1 h
    obtain ⟨v, hv, h⟩ := h
    refine OpRuns.pure' h hS fun r hr => ?_
    obtain ⟨z, h1, h2⟩ := lookupA_ok hM hS hr (hea m u hu) (hea x v hv)
    exact ⟨z, by simp [execOp, hop, h1], h2⟩
  | mapUpdate t m x v =>
    rw [hop] at h
    simp only [evOp] at h
    replace h := Option.bind_eq_some_iff.1 h
    obtain ⟨u1, hu1, h⟩ := h
    replace h := Option.bind_eq_some_iff.1 h
    obtain ⟨u2, hu2, h⟩ := h
    replace h := Option.bind_eq_some_iff.1 h
    obtain ⟨u3, hu3, h⟩ := h
    obtain ⟨w', h1, h2⟩ := mapUpdateA_ok hM hS h (hea m u1 hu1) (hea x u2 hu2) (hea v u3 hu3)
    exact OpRuns.skip (by simp [execOp, hop, h1]) h2
  | mapEntry t m x =>
    rw [hop] at h
    simp only [evOp] at h
    replace h := Option.bind_eq_some_iff.1 h
    obtain ⟨u1, hu1, h⟩ := h
    replace h := Option.bind_eq_some_iff.1 h
    obtain ⟨u2, hu2, h⟩ := h
    obtain ⟨v, w', h1, h2⟩ := mapEntryA_ok hM hS h (hea m u1 hu1) (hea x u2 hu2)
    exact OpRuns.value (by simp [execOp, hop, h1]) h2
  | entryStore t m s v =>
    rw [hop] at h
    simp only [evOp] at h
    replace h := Option.bind_eq_some_iff.1 h
    obtain ⟨u1, hu1, h⟩ := h
    replace h := Option.bind_eq_some_iff.1 h
    obtain ⟨u2, hu2, h⟩ := h
    replace h := Option.bind_eq_some_iff.1 h
    obtain ⟨u3, hu3, h⟩ := h
    obtain ⟨w', h1, h2⟩ := entryStoreA_ok (P := P) (t := t) hS h (hea m u1 hu1) (hea s u2 hu2) (hea v u3 hu3)
    exact OpRuns.skip (by simp [execOp, hop, h1]) h2
  | _ => rw [hop] at h; simp [evOp] at h
end
end Go.Proofs.YtabdcfcnngnnoaaDoor.E
