/- The rows' ground: what reads as data of a struct type; the program is as the evaluator asks. -/
import Derived.Test.YtabdcfcnngnnoaaDoorRows
import Derived.Test.YtabdcfcnngnnoaaDoor05d
import Derived.Test.YtabdcfcnngnnoaaDoorP0
import Derived.Test.YtabdcfcnngnnoaaDoorS2
import Derived.Test.YtabdcfcnngnnoaaDoorEA
import Derived.Test.YtabdcfcnngnnoaaDoor06k
import Derived.Test.YtabdcfcnngnnoaaDoorT1
import Derived.Test.YtabdcfcnngnnoaaDoorV4
import Derived.Test.YtabdcfcnngnnoaaDoorE24
import Derived.KernelRfl
set_option linter.unusedVariables false
set_option maxRecDepth 100000
namespace Go.Proofs.YtabdcfcnngnnoaaDoor.E
open Go
def wfT47 (x : XI) : Prop := (Lit.int .i64 (x.op)).wf = true ∧ (Lit.int .i64 (x.d)).wf = true ∧ (Lit.int .i64 (x.a)).wf = true ∧ (Lit.int .i64 (x.b)).wf = true ∧ (Lit.int .i64 (x.n)).wf = true ∧ (Lit.int .i64 (x.m)).wf = true ∧ ((x.args).length ≤ reachBytes ∧ ∀ y ∈ x.args, (Lit.int .i64 (y)).wf = true)
theorem eop47 : EOpen Tryd.prog 47 encIn wfT47 := EOpen.struct Tryd.underlying47 (EOpenF.cons (EOpen.int Tryd.underlying3 (by kernel_rfl)) rfl rfl (EOpenF.cons (EOpen.int Tryd.underlying3 (by kernel_rfl)) rfl rfl (EOpenF.cons (EOpen.int Tryd.underlying3 (by kernel_rfl)) rfl rfl (EOpenF.cons (EOpen.int Tryd.underlying3 (by kernel_rfl)) rfl rfl (EOpenF.cons (EOpen.int Tryd.underlying3 (by kernel_rfl)) rfl rfl (EOpenF.cons (EOpen.int Tryd.underlying3 (by kernel_rfl)) rfl rfl (EOpenF.one (EOpen.slice Tryd.underlying27 (EOpen.int Tryd.underlying3 (by kernel_rfl)) (by kernel_rfl) (by kernel_rfl)) rfl rfl))))))) (by kernel_rfl) (fun a => ⟨a.1, a.2.1, a.2.2.1, a.2.2.2.1, a.2.2.2.2.1, a.2.2.2.2.2.1, a.2.2.2.2.2.2⟩) (fun x : XI => (x.op, x.d, x.a, x.b, x.n, x.m, x.args)) encIn (fun _ => rfl) (fun _ => rfl)
def wfT50 (x : XB) : Prop := ((x.code).length ≤ reachBytes ∧ ∀ y ∈ x.code, wfT47 (y))
theorem eop50 : EOpen Tryd.prog 50 encB wfT50 := EOpen.struct Tryd.underlying50 (EOpenF.one (EOpen.slice Tryd.underlying48 eop47 (by kernel_rfl) (by kernel_rfl)) rfl rfl) (by kernel_rfl) (fun a => ⟨a⟩) (fun x : XB => x.code) encB (fun _ => rfl) (fun _ => rfl)
def wfT30 (x : XF) : Prop := ((x.kinds).length ≤ reachBytes ∧ ∀ y ∈ x.kinds, (Lit.int .i64 (y)).wf = true) ∧ ((x.base).length ≤ reachBytes ∧ ∀ y ∈ x.base, (Lit.int .i64 (y)).wf = true) ∧ (Lit.int .i64 (x.params)).wf = true ∧ (Lit.int .i64 (x.result)).wf = true ∧ ((x.blocks).length ≤ reachBytes ∧ ∀ y ∈ x.blocks, wfT50 (y))
theorem eop30 : EOpen Tryd.prog 30 encF wfT30 := EOpen.struct Tryd.underlying30 (EOpenF.cons (EOpen.slice Tryd.underlying27 (EOpen.int Tryd.underlying3 (by kernel_rfl)) (by kernel_rfl) (by kernel_rfl)) rfl rfl (EOpenF.cons (EOpen.slice Tryd.underlying27 (EOpen.int Tryd.underlying3 (by kernel_rfl)) (by kernel_rfl) (by kernel_rfl)) rfl rfl (EOpenF.cons (EOpen.int Tryd.underlying3 (by kernel_rfl)) rfl rfl (EOpenF.cons (EOpen.int Tryd.underlying3 (by kernel_rfl)) rfl rfl (EOpenF.one (EOpen.slice Tryd.underlying28 eop50 (by kernel_rfl) (by kernel_rfl)) rfl rfl))))) (by kernel_rfl) (fun a => ⟨a.1, a.2.1, a.2.2.1, a.2.2.2.1, a.2.2.2.2⟩) (fun x : XF => (x.kinds, x.base, x.params, x.result, x.blocks)) encF (fun _ => rfl) (fun _ => rfl)
def wfT24 (x : XP) : Prop := ((x.funcs).length ≤ reachBytes ∧ ∀ y ∈ x.funcs, wfT30 (y))
theorem eop24 : EOpen Tryd.prog 24 encP wfT24 := EOpen.struct Tryd.underlying24 (EOpenF.one (EOpen.slice Tryd.underlying22 eop30 (by kernel_rfl) (by kernel_rfl)) rfl rfl) (by kernel_rfl) (fun a => ⟨a⟩) (fun x : XP => x.funcs) encP (fun _ => rfl) (fun _ => rfl)
theorem mixed_ : Tryd.prog.follows .mixedOrders = true := by kernel_rfl
theorem names_ : NamesOk Tryd.prog := fun f fn h => by
  have h1 : Tryd.prog.funcs.all (fun fn => !(fn.name == "runtime.NumGoroutine")) = true := by kernel_rfl
  have h2 := (Array.all_eq_true'.1 h1) fn (Array.mem_of_getElem? h)
  simpa using h2
theorem laidOut : laidOutB Tryd.prog = true := by kernel_rfl
theorem long_of {n : Nat} (h : n ≤ reachBytes) : Long n := Nat.le_trans h (by decide)
theorem okI {x : XI} (h : wfT47 x) : HandI x := by
  unfold wfT47 at h
  exact long_of h.2.2.2.2.2.2.1
theorem okB {x : XB} (h : wfT50 x) : HandB x := by
  unfold wfT50 at h
  exact ⟨long_of h.1, fun y hy => okI (h.2 y hy)⟩
theorem okF {x : XF} (h : wfT30 x) : HandF x := by
  unfold wfT30 at h
  exact ⟨long_of h.1.1, long_of h.2.1.1, long_of h.2.2.2.2.1, fun y hy => okB (h.2.2.2.2.2 y hy)⟩
theorem okP {x : XP} (h : wfT24 x) : HandP x := by
  unfold wfT24 at h
  exact ⟨long_of h.1, fun y hy => okF (h.2 y hy)⟩
theorem pok : POk Tryd.prog H := ⟨names_, mapsOk_of laidOut, mixed_, fun f p hp => by
  unfold H at hp
  split at hp
  · rename_i hf
    subst hf
    cases hp
    exact ⟨⟨_, Tryd.func52, rfl⟩, fun args sto r s1 mv h ρ w vs hS hv => sort_calls args sto r s1 mv h ρ w vs hS hv⟩
  · split at hp
    · rename_i hf
      subst hf
      cases hp
      exact ⟨⟨_, Tryd.func73, rfl⟩, fun args sto r s1 mv h ρ w vs hS hv => clone75 names_ (mapsOk_of laidOut) mixed_ args sto r s1 mv h ρ w vs hS hv⟩
    · split at hp
      · rename_i hf
        subst hf
        cases hp
        exact ⟨⟨_, Tryd.func97, rfl⟩, fun args sto r s1 mv h ρ w vs hS hv => collect_calls args sto r s1 mv h ρ w vs hS hv⟩
      · split at hp
        · rename_i hf
          subst hf
          cases hp
          exact ⟨⟨_, Tryd.func64, rfl⟩, fun args sto r s1 mv h ρ w vs hS hv => tz_calls args sto r s1 mv h ρ w vs hS hv⟩
        · exfalso
          unfold Hb at hp
          split at hp <;> cases hp⟩
end Go.Proofs.YtabdcfcnngnnoaaDoor.E
