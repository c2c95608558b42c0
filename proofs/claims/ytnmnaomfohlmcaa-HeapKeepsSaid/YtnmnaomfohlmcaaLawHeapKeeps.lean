/- What is stored is loaded, and all else stays. The law 'HeapKeeps', for every input; no condition. The contract of each function that it reaches was told by the evaluator of this claim (E..). -/
import Derived.Test.YtnmnaomfohlmcaaRowG
import Derived.Test.Ytnmnaomfohlmcaa09g
import Derived.WalkKit
import Derived.ProofKit
import Derived.OpenShut
import Derived.ShutString
import Derived.ChangeOld
import Derived.Below
import Derived.SizedLaws
namespace Go.Proofs.Ytnmnaomfohlmcaa.heapKeeps
open Go.ChangeShapes Go.WideShapes Go.ChangeAt Go.RowKit Go.Proofs.Ytnmnaomfohlmcaa.E
open Go.ChangeMaps (open_string shut_string)
set_option linter.unusedVariables false
set_option linter.unusedSimpArgs false
theorem own : ownKnob Try.prog.godebug = none := by kernel_rfl
set_option maxRecDepth 100000 in
theorem lifted (os : Os) (started : os.Started) (H : Type) (enc : TypeId × Value → H) :
    ReturnsInHanded {} Try.checked os 5 .any (Rows.heapKeepsSpec.pre6 enc Try.prog Try.f5 Rows.heapKeepsRow.domain false) (Rows.heapKeepsSpec.post enc Try.prog Try.f5 false true false false) := by
  refine returnsInHanded_of_change_sized (C := Try.checked) own started (by kernel_rfl) Try.func5
    (ChangeSpec.witness6 (enc := enc) (C := Try.checked) false ⟨#[], #[.agg #[.slice none 0 0], .agg #[.int .i64 0, .int .i64 0, .int .i64 0], .agg #[.int .i64 0, .int .i64 0, .int .i64 0]], []⟩ 16 (by kernel_rfl) (by kernel_rfl) (by kernel_rfl) (by kernel_rfl)) ?_
  intro W base args ds gs before hval0 hW hcnd hsz0 _
  have hval : ∀ (j : Nat) t v, Try.f5.params[j]? = some t → args[j]? = some v → Value.okWide Try.prog W .any base t v := hval0
  have hW' := hW
  obtain ⟨p, q, hA0, hV, rfl, hfz, hnd⟩ := hW
  have hA : DataW.TrodAll enc Try.prog W 0 (fun _ => true) true Try.f5.params.toList args.toList ds p := hA0
  rw [Try.params5] at hA hval
  obtain ⟨v0, vs0, d0, ds0, p0, q0, hargs, rfl, rfl, h0, r0⟩ := trodAll_cons hA
  obtain ⟨v1, vs1, d1, ds1, p1, q1, rfl, rfl, rfl, h1, r1⟩ := trodAll_cons r0
  obtain ⟨v2, vs2, d2, ds2, p2, q2, rfl, rfl, rfl, h2, r2⟩ := trodAll_cons r1
  obtain ⟨rfl, rfl, rfl⟩ := trodAll_nil r2
  obtain rfl : args = #[v0, v1, v2] := by cases args; simp_all
  obtain ⟨rfl, rfl⟩ := trodVars_none hV
  obtain ⟨cs0, rfl, _⟩ := okWide_struct Try.underlying24 (hval 0 24 v0 rfl rfl)
  have k0 := h0
  have lt0 : ∀ x ∈ p0, x.block < W.heap.size := by obtain ⟨m, hm⟩ := k0; exact DataW.trod_lt m _ _ _ hm
  obtain ⟨fuel0, hf0⟩ := h0
  obtain ⟨x0, wf0, rvs0⟩ := eop24.op hf0
  have rvs0' : RVs ρ0 W (encH x0) cs0.toList := by simpa [Value.cells] using rvs0
  obtain ⟨cs1, rfl⟩ := okWide_array Try.underlying39 (hval 1 39 v1 rfl rfl)
  have k1 := h1
  have lt1 : ∀ x ∈ p1, x.block < W.heap.size := by obtain ⟨m, hm⟩ := k1; exact DataW.trod_lt m _ _ _ hm
  obtain ⟨fuel1, hf1⟩ := h1
  obtain ⟨x1, wf1, rvs1⟩ := (EOpen.int3 Try.underlying39 Try.underlying3 (by kernel_rfl) (by kernel_rfl)).op hf1
  have rvs1' : RVs ρ0 W (enc3 x1) cs1.toList := by simpa [Value.cells] using rvs1
  obtain ⟨cs2, rfl⟩ := okWide_array Try.underlying39 (hval 2 39 v2 rfl rfl)
  have k2 := h2
  have lt2 : ∀ x ∈ p2, x.block < W.heap.size := by obtain ⟨m, hm⟩ := k2; exact DataW.trod_lt m _ _ _ hm
  obtain ⟨fuel2, hf2⟩ := h2
  obtain ⟨x2, wf2, rvs2⟩ := (EOpen.int3 Try.underlying39 Try.underlying3 (by kernel_rfl) (by kernel_rfl)).op hf2
  have rvs2' : RVs ρ0 W (enc3 x2) cs2.toList := by simpa [Value.cells] using rvs2
  clear hA0 hval0 hsz0
  have h := wf5 x0.objs x1.1 x1.2.1 x1.2.2 x2.1 x2.2.1 x2.2.2 (okH wf0)
  refine (law_true pok h W #[_, _, _] (RVs.cons' (RV.agg (encH x0) cs0 (by simpa using rvs0'.1) (fun j x y h1 h2 => rvs0'.2 j x y h1 (by simpa using h2))) (RVs.cons' (RV.agg (enc3 x1) cs1 (by simpa using rvs1'.1) (fun j x y h1 h2 => rvs1'.2 j x y h1 (by simpa using h2))) (RVs.cons' (RV.agg (enc3 x2) cs2 (by simpa using rvs2'.1) (fun j x y h1 h2 => rvs2'.2 j x y h1 (by simpa using h2))) RVs.nil')))).mono fun e W' ⟨he, bel⟩ => ?_
  subst he
  exact ⟨_, rfl, _, _, _, [], _, [], hW', trodAll_mk1 (shut_bool Try.underlying4 _), (trodAll_cons_mk (Below.trod laidOut (by kernel_rfl) (of_decide_eq_true (by kernel_rfl)) k0 bel lt0) (trodAll_cons_mk (Below.trod laidOut (by kernel_rfl) (of_decide_eq_true (by kernel_rfl)) k1 bel lt1) (trodAll_cons_mk (Below.trod laidOut (by kernel_rfl) (of_decide_eq_true (by kernel_rfl)) k2 bel lt2) trodAll_mk0))), rfl, bel.frame _, fun h => by cases h⟩
theorem over : Rows.heapKeepsRow.holds Try.pinned (OpenSpec.ofChange Rows.heapKeepsSpec) :=
  OpenClaim.holds_of_wide 5 Try.f5 rfl rfl rfl rfl rfl rfl rfl ⟨rfl, rfl, rfl, rfl, rfl⟩ rfl rfl rfl rfl rfl (by kernel_rfl) Try.func5 (by kernel_rfl)
    (of_decide_eq_true (by kernel_rfl)) (by unfold Func.isWrapper; first | (rw [if_pos (by decide +kernel)]; kernel_rfl) | (rw [if_neg (by decide +kernel)]; exact ⟨rfl, rfl⟩))
    (fun os started H enc _ => lifted os started H enc)
theorem proved : Rows.HeapKeepsSaid := over
#print axioms proved
end Go.Proofs.Ytnmnaomfohlmcaa.heapKeeps
namespace Go.Proofs.Ytnmnaomfohlmcaa
/-- The row, under a short name, for the claim. -/
theorem heapKeeps_holds : Rows.HeapKeepsSaid := heapKeeps.proved
end Go.Proofs.Ytnmnaomfohlmcaa
