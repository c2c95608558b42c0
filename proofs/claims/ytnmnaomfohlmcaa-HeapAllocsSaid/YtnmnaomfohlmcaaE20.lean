/- The evaluator in a form that simp walks through quickly: what comes next isn't looked at before its turn. -/
import Derived.Test.YtnmnaomfohlmcaaE19
set_option linter.unusedVariables false
set_option linter.unusedSimpArgs false
namespace Go.Proofs.Ytnmnaomfohlmcaa.E
open Go
/-- Then. -/
def andA {α β : Type} (x : Option α) (f : α → Option β) : Option β := x.bind f
@[congr] theorem andA_congr {α β : Type} {x x' : Option α} (h : x = x') (f : α → Option β) : andA x f = andA x' f := by rw [h]
@[simp] theorem andA_some {α β : Type} (x : α) (f : α → Option β) : andA (some x) f = f x := rfl
@[simp] theorem andA_none {α β : Type} (f : α → Option β) : andA none f = none := rfl
def thenA (x : Option (Ex × St)) (f : St → Option (Ex × St)) : Option (Ex × St) :=
  match x with
  | some (.normal, st) => f st
  | r => r
@[congr] theorem thenA_congr {x x' : Option (Ex × St)} (h : x = x') (f : St → Option (Ex × St)) : thenA x f = thenA x' f := by rw [h]
@[simp] theorem thenA_normal (st : St) (f : St → Option (Ex × St)) : thenA (some (.normal, st)) f = f st := rfl
@[simp] theorem thenA_ret (st : St) (f : St → Option (Ex × St)) : thenA (some (.ret, st)) f = some (.ret, st) := rfl
@[simp] theorem thenA_exit (id : Nat) (st : St) (f : St → Option (Ex × St)) : thenA (some (.exit id, st)) f = some (.exit id, st) := rfl
@[simp] theorem thenA_none (f : St → Option (Ex × St)) : thenA none f = none := rfl
@[simp] theorem thenA_ite (c : Prop) [Decidable c] (x y : Option (Ex × St)) (f : St → Option (Ex × St)) : thenA (if c then x else y) f = if c then thenA x f else thenA y f := by split <;> rfl
@[simp] theorem andA_ite {α β : Type} (c : Prop) [Decidable c] (x y : Option α) (f : α → Option β) : andA (if c then x else y) f = if c then andA x f else andA y f := by split <;> rfl
def blockA (id : Nat) (x : Option (Ex × St)) : Option (Ex × St) :=
  match x with
  | some (.exit j, st) => if j = id then some (.normal, st) else some (.exit j, st)
  | r => r
@[simp] theorem blockA_normal (id : Nat) (st : St) : blockA id (some (.normal, st)) = some (.normal, st) := rfl
@[simp] theorem blockA_ret (id : Nat) (st : St) : blockA id (some (.ret, st)) = some (.ret, st) := rfl
@[simp] theorem blockA_exit (id j : Nat) (st : St) : blockA id (some (.exit j, st)) = if j = id then some (.normal, st) else some (.exit j, st) := rfl
@[simp] theorem blockA_none (id : Nat) : blockA id none = none := rfl
@[simp] theorem blockA_ite (id : Nat) (c : Prop) [Decidable c] (x y : Option (Ex × St)) : blockA id (if c then x else y) = if c then blockA id x else blockA id y := by split <;> rfl
@[congr] theorem ifA_congr {α : Type} {v v' : Option AV} (h : v = v') (x y : Option α) : ifA v x y = ifA v' x y := by rw [h]
@[simp] theorem ifA_bool {α : Type} (t : Bool) (x y : Option α) : ifA (some (.v (.bool t))) x y = if t = true then x else y := rfl
section
variable {P : Program} {H : FuncId → FH} {h : FH} {call : CallF} {base : Nat} {ops : Array Oper}
def stepA (P : Program) (h : FH) (call : CallF) (base : Nat) (ops : Array Oper) (o : Oper) (st : St) : Option (St × Fl) :=
  andA (guardA ops st.env o) fun b => if b = true then evStep P h call base o st else some (⟨putA st.env o.dst undefA, st.sto, st.mv⟩, noFl)
def evO (P : Program) (h : FH) (call : CallF) (base : Nat) (ops : Array Oper) : List Oper → St → List Fl → Option (St × List Fl)
  | [], st, fl => some (st, fl)
  | o :: r, st, fl => andA (stepA P h call base ops o st) fun s => evO P h call base ops r s.1 (fl ++ [s.2])
theorem evO_eq : ∀ (l : List Oper) (st : St) (fl : List Fl), evO P h call base ops l st fl = (evOps P h call base ops l st).map fun q => (q.1, fl ++ q.2)
  | [], st, fl => by simp [evO, evOps]
  | o :: r, st, fl => by
    simp only [evO, evOps, stepA, andA]
    cases guardA ops st.env o with
    | none => rfl
    | some b =>
      simp only [Option.bind_some]
      cases b with
      | true =>
        simp only [if_true]
        cases evStep P h call base o st with
        | none => rfl
        | some s =>
          simp only [Option.bind_some]
          rw [evO_eq r]
          cases evOps P h call base ops r s.1 <;> simp
      | false =>
        simp only [Bool.false_eq_true, if_false, Option.bind_some]
        rw [evO_eq r]
        cases evOps P h call base ops r ⟨putA st.env o.dst undefA, st.sto, st.mv⟩ <;> simp
def evR (P : Program) (h : FH) (call : CallF) (base : Nat) (ops : Array Oper) (draw : Bool) (st : St) : Option (Ex × St) :=
  andA (evO P h call base ops ops.toList st []) fun q => if (!draw || drawOk ops st.env st.sto.length q.2) = true then some (.normal, q.1) else none
def evK (P : Program) (h : FH) (call : CallF) (base : Nat) (loop : Code → St → Option (Ex × St)) : Code → St → Option (Ex × St)
  | .skip, st => some (.normal, st)
  | .region _ ops draw, st => evR P h call base ops draw st
  | .seq a b, st => thenA (evK P h call base loop a st) fun st => evK P h call base loop b (joinAt base h b st)
  | .cond c a b, st => ifA (evA st.env c) (evK P h call base loop a st) (evK P h call base loop b st)
  | .block id c, st => blockA id (evK P h call base loop c st)
  | .loop c, st => (loop c st).map (killX base h c)
  | .exit id, st => some (.exit id, st)
  | .ret, st => some (.ret, st)
  | _, _ => none
theorem evR_eq (draw : Bool) (st : St) : evR P h call base ops draw st = (evRegion P h call base ops draw st).map fun st => (.normal, st) := by
  unfold evR evRegion andA
  rw [evO_eq]
  cases evOps P h call base ops ops.toList st with
  | none => rfl
  | some q =>
    simp only [Option.map_some, Option.bind_some, List.nil_append]
    split <;> rfl
theorem evK_eq {loop : Code → St → Option (Ex × St)} : ∀ (c : Code) (st : St), evK P h call base loop c st = evC P h call base loop c st
  | .skip, st => rfl
  | .region id ops draw, st => by simp only [evK, evC]; exact evR_eq draw st
  | .seq a b, st => by
    simp only [evK, evC, evK_eq a st]
    unfold thenA
    split
    · rename_i st' he
      rw [he]
      simp only
      exact evK_eq b _
    · rename_i hne
      split
      · rename_i st' he
        exact absurd he (hne st')
      · rfl
  | .cond c a b, st => by simp only [evK, evC, evK_eq a st, evK_eq b st]
  | .block id c, st => by
    simp only [evK, evC, evK_eq c st]
    rfl
  | .loop c, st => rfl
  | .exit id, st => rfl
  | .ret, st => rfl
  | .rangeFunc .., st => rfl
  | .scope _, st => rfl
  | .label _, st => rfl
  | .goto _, st => rfl
  | .refuse _, st => rfl
/-- What a function's body ends in. -/
def endA (P : Program) (sg : Bool) (base : Nat) (fn : Func) (q : Ex × St) : Option (AV × List Row × List Nat) :=
  match q with
  | (.normal, st) | (.ret, st) => finish P sg base fn st
  | _ => none
theorem Wf_run {f : FuncId} {fn : Func} {c : Code} {args : List AV} {sto : List Row} {r : AV × List Row × List Nat} (hp : (H f).prim = none) (hf : P.funcs[f]? = some fn) (hb : fn.body = some c)
    (hr : andA (evK P (H f) (Wf P H) sto.length (Lf P H (H f) sto.length) c ⟨args ++ List.replicate (fn.ntmps - args.length) .dead, sto ++ List.replicate (H f).ntok .dead, []⟩) (endA P (H f).strong sto.length fn) = some r) : Wf P H f args sto = some r := by
  obtain ⟨⟨ex, st⟩, h1, h2⟩ := Option.bind_eq_some_iff.1 hr
  rw [evK_eq] at h1
  cases ex with
  | normal => exact Wf_of hp hf hb h1 (.inl rfl) h2
  | ret => exact Wf_of hp hf hb h1 (.inr rfl) h2
  | exit id => cases h2
theorem Lf_run {hs : FH} {c : Code} {st : St} {r : Ex × St}
    (hr : thenA (evK P hs (Wf P H) base (Lf P H hs base) c (killAt base hs c st)) (Lf P H hs base c) = some r) : Lf P H hs base c st = some r := by
  rw [evK_eq] at hr
  unfold thenA at hr
  split at hr
  · rename_i st' he
    exact Lf_next he hr
  · rename_i hne
    obtain ⟨ex, st'⟩ := r
    refine Lf_exit hr (fun e => ?_)
    subst e
    exact hne _ hr
end
attribute [simp] evK evR evO stepA guardA evStep ownOf evA putA killE addMv constA leaf undefA endA finish resA packA
end Go.Proofs.Ytnmnaomfohlmcaa.E
