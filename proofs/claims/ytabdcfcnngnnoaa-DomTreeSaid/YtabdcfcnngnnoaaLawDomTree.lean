/- What dominates makes a tree below 0. The law 'DomTree', for every input; no condition. The contract of each function that it reaches was told by the evaluator of this claim (E..). -/
import Derived.Test.YtabdcfcnngnnoaaRowG
import Derived.Test.Ytabdcfcnngnnoaa06gx
import Derived.WalkKit
import Derived.ProofKit
import Derived.OpenShut
import Derived.ShutString
import Derived.ChangeOld
import Derived.Below
import Derived.SizedLaws
namespace Go.Proofs.Ytabdcfcnngnnoaa.domTree
open Go.ChangeShapes Go.WideShapes Go.ChangeAt Go.RowKit Go.Proofs.Ytabdcfcnngnnoaa.E
open Go.ChangeMaps (open_string shut_string)
set_option linter.unusedVariables false
set_option linter.unusedSimpArgs false
theorem own : ownKnob Try.prog.godebug = none := by kernel_rfl
set_option maxRecDepth 100000 in
theorem lifted (os : Os) (started : os.Started) (H : Type) (enc : TypeId × Value → H) :
    ReturnsInHanded {} Try.checked os 8 .any (Rows.domTreeSpec.pre6 enc Try.prog Try.f8 Rows.domTreeRow.domain false) (Rows.domTreeSpec.post enc Try.prog Try.f8 false true false false) := by
  refine returnsInHanded_of_change_sized (C := Try.checked) own started (by kernel_rfl) Try.func8
    (ChangeSpec.witness6 (enc := enc) (C := Try.checked) false ⟨#[], #[.agg #[.slice none 0 0], .agg #[.int .u8 0, .int .u8 0, .int .u8 0]], []⟩ 16 (by kernel_rfl) (by kernel_rfl) (by kernel_rfl) (by kernel_rfl)) ?_
  intro W base args ds gs before hval0 hW hcnd hsz0 _
  have hval : ∀ (j : Nat) t v, Try.f8.params[j]? = some t → args[j]? = some v → Value.okWide Try.prog W .any base t v := hval0
  have hW' := hW
  obtain ⟨p, q, hA0, hV, rfl, hfz, hnd⟩ := hW
  have hA : DataW.TrodAll enc Try.prog W 0 (fun _ => true) true Try.f8.params.toList args.toList ds p := hA0
  rw [Try.params8] at hA hval
  obtain ⟨v0, vs0, d0, ds0, p0, q0, hargs, rfl, rfl, h0, r0⟩ := trodAll_cons hA
  obtain ⟨v1, vs1, d1, ds1, p1, q1, rfl, rfl, rfl, h1, r1⟩ := trodAll_cons r0
  obtain ⟨rfl, rfl, rfl⟩ := trodAll_nil r1
  obtain rfl : args = #[v0, v1] := by cases args; simp_all
  obtain ⟨rfl, rfl⟩ := trodVars_none hV
  have hz0 : ∀ n ∈ DataW.weights Try.prog 24 d0, n ≤ reachBytes := fun n hn => by simpa using List.all_eq_true.1 hsz0 n (DataW.weights_mem_each (j := 0) (t := 24) (d := d0) (by rfl) (by rfl) n hn)
  obtain ⟨cs0, rfl, _⟩ := okWide_struct Try.underlying24 (hval 0 24 v0 rfl rfl)
  have k0 := h0
  have lt0 : ∀ x ∈ p0, x.block < W.heap.size := by obtain ⟨m, hm⟩ := k0; exact DataW.trod_lt m _ _ _ hm
  obtain ⟨fuel0, hf0⟩ := h0
  obtain ⟨x0, wf0, rvs0⟩ := eop24.op hf0 hz0
  have rvs0' : RVs ρ0 W (encP x0) cs0.toList := by simpa [Value.cells] using rvs0
  have hz1 : ∀ n ∈ DataW.weights Try.prog 45 d1, n ≤ reachBytes := fun n hn => by simpa using List.all_eq_true.1 hsz0 n (DataW.weights_mem_each (j := 1) (t := 45) (d := d1) (by rfl) (by rfl) n hn)
  obtain ⟨cs1, rfl⟩ := okWide_array Try.underlying45 (hval 1 45 v1 rfl rfl)
  have k1 := h1
  have lt1 : ∀ x ∈ p1, x.block < W.heap.size := by obtain ⟨m, hm⟩ := k1; exact DataW.trod_lt m _ _ _ hm
  obtain ⟨fuel1, hf1⟩ := h1
  obtain ⟨x1, wf1, rvs1⟩ := (EOpen.byte3 Try.underlying45 Try.underlying5 (by kernel_rfl) (by kernel_rfl)).op hf1 hz1
  have rvs1' : RVs ρ0 W (encb3 x1) cs1.toList := by simpa [Value.cells] using rvs1
  clear hA0 hval0 hsz0
  have h := wn8 x0 x1.1 x1.2.1 x1.2.2 (lit8 wf1.1) (lit8 wf1.2.1) (lit8 wf1.2.2) (okP wf0)
  refine (law_true pok h W (fun p hp => by cases hp) #[_, _] (RVs.cons' (RV.agg (encP x0) cs0 (by simpa using rvs0'.1) (fun j x y h1 h2 => rvs0'.2 j x y h1 (by simpa using h2))) (RVs.cons' (RV.agg (encb3 x1) cs1 (by simpa using rvs1'.1) (fun j x y h1 h2 => rvs1'.2 j x y h1 (by simpa using h2))) RVs.nil'))).mono fun e W' ⟨he, bel⟩ => ?_
  subst he
  exact ⟨_, rfl, _, _, _, [], _, [], hW', trodAll_mk1 (shut_bool Try.underlying4 _), (trodAll_cons_mk (Below.trod laidOut (by kernel_rfl) (of_decide_eq_true (by kernel_rfl)) k0 bel lt0) (trodAll_cons_mk (Below.trod laidOut (by kernel_rfl) (of_decide_eq_true (by kernel_rfl)) k1 bel lt1) trodAll_mk0)), rfl, bel.frame _, fun h => by cases h⟩
theorem over : Rows.domTreeRow.holds Try.pinned (OpenSpec.ofChange Rows.domTreeSpec) :=
  OpenClaim.holds_of_wide 8 Try.f8 rfl rfl rfl rfl rfl rfl rfl ⟨rfl, rfl, rfl, rfl, rfl⟩ rfl rfl rfl rfl rfl (by kernel_rfl) Try.func8 (by kernel_rfl)
    (of_decide_eq_true (by kernel_rfl)) (by unfold Func.isWrapper; first | (rw [if_pos (by decide +kernel)]; kernel_rfl) | (rw [if_neg (by decide +kernel)]; exact ⟨rfl, rfl⟩))
    (fun os started H enc _ => lifted os started H enc)
theorem proved : Rows.DomTreeSaid := over
#print axioms proved
end Go.Proofs.Ytabdcfcnngnnoaa.domTree
namespace Go.Proofs.Ytabdcfcnngnnoaa
/-- The row, under a short name, for the claim. -/
theorem domTree_holds : Rows.DomTreeSaid := domTree.proved
end Go.Proofs.Ytabdcfcnngnnoaa
