/- The rows' ground: what reads as data of a struct type; the program is as the evaluator asks. -/
import Derived.Test.YthbkemkjkpaoaacRows
import Derived.Test.Ythbkemkjkpaoaac16d
import Derived.Test.YthbkemkjkpaoaacE24
import Derived.KernelRfl
set_option linter.unusedVariables false
set_option maxRecDepth 100000
namespace Go.Proofs.Ythbkemkjkpaoaac.E
open Go
def wfT33 (x : Loc) : Prop := (Lit.int .i64 (x.k)).wf = true ∧ (Lit.int .i64 (x.n)).wf = true
theorem eop33 : EOpen Try.prog 33 encL wfT33 := EOpen.struct Try.underlying33 (EOpenF.cons (EOpen.int Try.underlying3 (by kernel_rfl)) rfl rfl (EOpenF.one (EOpen.int Try.underlying3 (by kernel_rfl)) rfl rfl)) (by kernel_rfl) (fun a => ⟨a.1, a.2⟩) (fun x : Loc => (x.k, x.n)) encL (fun _ => rfl) (fun _ => rfl)
def wfT35 (x : Span) : Prop := (Lit.int .i64 (x.v)).wf = true ∧ (Lit.int .i64 (x.fr)).wf = true ∧ (Lit.int .i64 (x.to)).wf = true ∧ True
theorem eop35 : EOpen Try.prog 35 encS wfT35 := EOpen.struct Try.underlying35 (EOpenF.cons (EOpen.int Try.underlying3 (by kernel_rfl)) rfl rfl (EOpenF.cons (EOpen.int Try.underlying3 (by kernel_rfl)) rfl rfl (EOpenF.cons (EOpen.int Try.underlying3 (by kernel_rfl)) rfl rfl (EOpenF.one (EOpen.bool Try.underlying4 (by kernel_rfl)) rfl rfl)))) (by kernel_rfl) (fun a => ⟨a.1, a.2.1, a.2.2.1, a.2.2.2⟩) (fun x : Span => (x.v, x.fr, x.to, x.call)) encS (fun _ => rfl) (fun _ => rfl)
theorem mixed_ : Try.prog.follows .mixedOrders = true := by kernel_rfl
theorem names_ : NamesOk Try.prog := fun f fn h => by
  have h1 : Try.prog.funcs.all (fun fn => !(fn.name == "runtime.NumGoroutine")) = true := by kernel_rfl
  have h2 := (Array.all_eq_true'.1 h1) fn (Array.mem_of_getElem? h)
  simpa using h2
theorem laidOut : laidOutB Try.prog = true := by kernel_rfl
theorem okL {x : Loc} (h : wfT33 x) : In64 x.k ∧ In64 x.n := ⟨lit64 h.1, lit64 h.2⟩
theorem okS {s : Span} (h : wfT35 s) : In64 s.v ∧ In64 s.fr ∧ In64 s.to := ⟨lit64 h.1, lit64 h.2.1, lit64 h.2.2.1⟩
theorem lit16 {n : Int} (h : (Lit.int .u16 n).wf = true) : 0 ≤ n ∧ n ≤ 65535 := by
  simp [Lit.wf, IntKind.min, IntKind.max, IntKind.signed, IntKind.bits] at h
  exact ⟨by omega, by omega⟩
theorem lit8 {n : Int} (h : (Lit.int .u8 n).wf = true) : 0 ≤ n ∧ n ≤ 255 := by
  simp [Lit.wf, IntKind.min, IntKind.max, IntKind.signed, IntKind.bits] at h
  exact ⟨by omega, by omega⟩
theorem pok : POk Try.prog H := ⟨names_, mapsOk_of laidOut, mixed_, fun f p hp => by
  exfalso
  unfold H at hp
  split at hp <;> cases hp⟩
end Go.Proofs.Ythbkemkjkpaoaac.E
