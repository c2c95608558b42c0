/- The rows' ground: what reads as data of a struct type; the program is as the evaluator asks. -/
import Derived.Test.YthbkemkjkpaoaabRows
import Derived.Test.Ythbkemkjkpaoaab17h
import Derived.Test.YthbkemkjkpaoaabE24
import Derived.KernelRfl
set_option linter.unusedVariables false
set_option maxRecDepth 100000
namespace Go.Proofs.Ythbkemkjkpaoaab.E
open Go
def wfT24 (x : Loc) : Prop := (Lit.int .i64 (x.k)).wf = true ∧ (Lit.int .i64 (x.n)).wf = true
theorem eop24 : EOpen Try.prog 24 encL wfT24 := EOpen.struct Try.underlying24 (EOpenF.cons (EOpen.int Try.underlying3 (by kernel_rfl)) rfl rfl (EOpenF.one (EOpen.int Try.underlying3 (by kernel_rfl)) rfl rfl)) (by kernel_rfl) (fun a => ⟨a.1, a.2⟩) (fun x : Loc => (x.k, x.n)) encL (fun _ => rfl) (fun _ => rfl)
def wfT38 (x : Mv) : Prop := wfT24 (x.to) ∧ wfT24 (x.fr)
theorem eop38 : EOpen Try.prog 38 encM wfT38 := EOpen.struct Try.underlying38 (EOpenF.cons eop24 rfl rfl (EOpenF.one eop24 rfl rfl)) (by kernel_rfl) (fun a => ⟨a.1, a.2⟩) (fun x : Mv => (x.to, x.fr)) encM (fun _ => rfl) (fun _ => rfl)
theorem mixed_ : Try.prog.follows .mixedOrders = true := by kernel_rfl
theorem names_ : NamesOk Try.prog := fun f fn h => by
  have h1 : Try.prog.funcs.all (fun fn => !(fn.name == "runtime.NumGoroutine")) = true := by kernel_rfl
  have h2 := (Array.all_eq_true'.1 h1) fn (Array.mem_of_getElem? h)
  simpa using h2
theorem laidOut : laidOutB Try.prog = true := by kernel_rfl
theorem lit64 {n : Int} (h : (Lit.int .i64 n).wf = true) : In64 n := by
  simp [Lit.wf, IntKind.min, IntKind.max, IntKind.signed, IntKind.bits] at h
  exact ⟨by omega, by omega⟩
theorem okL {x : Loc} (h : (Lit.int .i64 x.k).wf = true ∧ (Lit.int .i64 x.n).wf = true) : x.ok := ⟨lit64 h.1, lit64 h.2⟩
theorem okM {m : Mv} (h : ((Lit.int .i64 m.to.k).wf = true ∧ (Lit.int .i64 m.to.n).wf = true) ∧ ((Lit.int .i64 m.fr.k).wf = true ∧ (Lit.int .i64 m.fr.n).wf = true)) : m.ok := ⟨okL h.1, okL h.2⟩
theorem pok : POk Try.prog H := ⟨names_, mapsOk_of laidOut, mixed_, fun f p hp => by
  unfold H at hp
  split at hp
  · rename_i hf
    subst hf
    cases hp
    exact ⟨⟨_, Try.func26, rfl⟩, fun args sto r s1 mv h ρ w vs hS hv => clone26 names_ (mapsOk_of laidOut) mixed_ args sto r s1 mv h ρ w vs hS hv⟩
  · exfalso
    unfold Hb at hp
    split at hp <;> cases hp⟩
end Go.Proofs.Ythbkemkjkpaoaab.E
