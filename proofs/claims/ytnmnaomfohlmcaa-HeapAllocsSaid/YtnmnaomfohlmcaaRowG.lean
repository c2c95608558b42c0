/- The rows' ground: what reads as data of a struct type; the program is as the evaluator asks. -/
import Derived.Test.YtnmnaomfohlmcaaRows
import Derived.Test.Ytnmnaomfohlmcaa09g
import Derived.Test.Ytnmnaomfohlmcaa09m
import Derived.Test.YtnmnaomfohlmcaaS9
import Derived.Test.YtnmnaomfohlmcaaEA
import Derived.Test.YtnmnaomfohlmcaaE24
import Derived.KernelRfl
set_option linter.unusedVariables false
set_option maxRecDepth 100000
namespace Go.Proofs.Ytnmnaomfohlmcaa.E
open Go
def wfT48 (x : Obj) : Prop := ((x.refs).length ≤ reachBytes ∧ ∀ y ∈ x.refs, (Lit.int .i64 (y)).wf = true) ∧ ((x.ints).length ≤ reachBytes ∧ ∀ y ∈ x.ints, (Lit.int .i64 (y)).wf = true)
theorem eop48 : EOpen Try.prog 48 encO wfT48 := EOpen.struct Try.underlying48 (EOpenF.cons (EOpen.slice Try.underlying26 (EOpen.int Try.underlying3 (by kernel_rfl)) (by kernel_rfl) (by kernel_rfl)) rfl rfl (EOpenF.one (EOpen.slice Try.underlying26 (EOpen.int Try.underlying3 (by kernel_rfl)) (by kernel_rfl) (by kernel_rfl)) rfl rfl)) (by kernel_rfl) (fun a => ⟨a.1, a.2⟩) (fun x : Obj => (x.refs, x.ints)) encO (fun _ => rfl) (fun _ => rfl)
def wfT24 (x : Heap) : Prop := ((x.objs).length ≤ reachBytes ∧ ∀ y ∈ x.objs, wfT48 (y))
theorem eop24 : EOpen Try.prog 24 encH wfT24 := EOpen.struct Try.underlying24 (EOpenF.one (EOpen.slice Try.underlying22 eop48 (by kernel_rfl) (by kernel_rfl)) rfl rfl) (by kernel_rfl) (fun a => ⟨a⟩) (fun x : Heap => x.objs) encH (fun _ => rfl) (fun _ => rfl)
theorem mixed_ : Try.prog.follows .mixedOrders = true := by kernel_rfl
theorem names_ : NamesOk Try.prog := fun f fn h => by
  have h1 : Try.prog.funcs.all (fun fn => !(fn.name == "runtime.NumGoroutine")) = true := by kernel_rfl
  have h2 := (Array.all_eq_true'.1 h1) fn (Array.mem_of_getElem? h)
  simpa using h2
theorem laidOut : laidOutB Try.prog = true := by kernel_rfl
theorem okH {x : Heap} (h : wfT24 x) : Handed x.objs := by
  unfold wfT24 at h
  have hm : reachBytes ≤ 9223372036854775807 := by decide
  refine ⟨Nat.le_trans h.1 hm, fun o ho => ?_⟩
  have h2 := h.2 o ho
  unfold wfT48 at h2
  exact ⟨Nat.le_trans h2.1.1 hm, Nat.le_trans h2.2.1 hm⟩
theorem okS {x : Heap} (h : wfT24 x) : Small x.objs := by
  unfold wfT24 at h
  have hm : reachBytes ≤ 1125899906842624 := by decide
  intro o ho
  have h2 := h.2 o ho
  unfold wfT48 at h2
  exact ⟨Nat.le_trans h2.1.1 hm, Nat.le_trans h2.2.1 hm⟩
theorem pok : POk Try.prog H := ⟨names_, mapsOk_of laidOut, mixed_, fun f p hp => by
  unfold H at hp
  split at hp
  · rename_i hf
    subst hf
    cases hp
    exact ⟨⟨_, Try.func34, rfl⟩, fun args sto r s1 mv h ρ w vs hS hv => sort_calls args sto r s1 mv h ρ w vs hS hv⟩
  · split at hp
    · rename_i hf
      subst hf
      cases hp
      exact ⟨⟨_, Try.func33, rfl⟩, fun args sto r s1 mv h ρ w vs hS hv => clone33 names_ (mapsOk_of laidOut) mixed_ args sto r s1 mv h ρ w vs hS hv⟩
    · split at hp
      · rename_i hf
        subst hf
        cases hp
        exact ⟨⟨_, Try.func43, rfl⟩, fun args sto r s1 mv h ρ w vs hS hv => clone43 names_ (mapsOk_of laidOut) mixed_ args sto r s1 mv h ρ w vs hS hv⟩
      · exfalso
        unfold Hb at hp
        split at hp <;> cases hp⟩
end Go.Proofs.Ytnmnaomfohlmcaa.E
